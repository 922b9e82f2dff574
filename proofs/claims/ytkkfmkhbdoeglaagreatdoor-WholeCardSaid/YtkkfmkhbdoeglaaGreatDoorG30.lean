/- A part of what is proved here: lemmas and contracts of single functions. No condition but those that each names. -/
import Derived.Test.YtkkfmkhbdoeglaaGreatDoorG00
import Derived.Test.YtkkfmkhbdoeglaaGreatDoorG17
import Derived.Test.YtkkfmkhbdoeglaaGreatDoorG19
import Derived.Test.YtkkfmkhbdoeglaaGreatDoorG20
import Derived.Test.YtkkfmkhbdoeglaaGreatDoorG21
import Derived.Test.YtkkfmkhbdoeglaaGreatDoorG29
set_option maxHeartbeats 4000000
set_option maxRecDepth 100000
namespace Go.Proofs.YtkkfmkhbdoeglaaGreatDoor
open Go.RowKit
theorem OwnS.IY {w:World} {base n cap:Nat} {a:Option Addr} {xs:List Value} (h:OwnS w base 1 (.slice a n cap) n xs) (k:Nat) (hk:k≤n):OwnS w base 1 (.slice a k cap) k (xs.take k):=by
 obtain ⟨hl,b | ⟨g,off,cap',e,h1,h2,h3,h4,h5,h6⟩⟩:=h
 ·obtain ⟨e,j⟩:=b
  cases e
  obtain rfl:k=0:=by omega
  exact ⟨by simp,.inl ⟨rfl,rfl⟩⟩
 ·cases e
  refine ⟨by rw [aA];omega,.inr ⟨g,off,cap,rfl,h1,h2,by omega,h4,fun i d => ?_,h6⟩⟩
  rw [aA] at d
  rw [h5 i (by omega),List.getElem_take]
theorem RowsAt.nZ {w:World} {F:Nat→Prop} {a:Option Addr} {n cap:Nat} {rows:List (List UInt8)} (h:RowsAt w F (.slice a n cap) rows) (o:n=rows.length) (k:Nat) (hk:k≤n):RowsAt w F (.slice a k cap) (rows.take k):=by
 obtain ⟨vals,h1,h2,h3,h4⟩:=h
 rw [←o] at h1
 have l:(rows.take k).length=k:=by rw [aA];omega
 have he:∀ b,(Value.slice a k cap).ownBlock=some b→(Value.slice a n cap).ownBlock=some b:=fun b d=>by cases a <;> simp [Value.ownBlock] at d⊢<;> exact d
 refine ⟨vals.take k,by rw [l];exact h1.IY k hk,fun b d=>h2 b (he b d),fun b d=>h3 b (he b d),fun i b m => ?_⟩
 obtain ⟨j,q⟩:=aG.1 m
 rw [l] at j
 rw [bp j] at m
 obtain ⟨u,hu,hs⟩:=h4 i b m
 exact ⟨u,by rw [bp j];exact hu,hs⟩
def accS (d:List Part) (p:Nat):Nat→Nat×Nat×Nat×List E
 | 0=>(0,0,0,[])
 | 1=>l6 decSB d p (0,0,0,[]) 0
 | _=>th decSB d p []
def jv (d:List Part) (p k ver:Nat):Option (Nat×Nat×List OpB):=(List.range' (2*p) (k-2*p)).foldl (jl decDB d ver) none
theorem ub (d:List Part) (p k ver:Nat) (h:2*p≤k):jv d p (k+1) ver=jl decDB d ver (jv d p k ver) k:=by
 unfold jv
 rw [show k+1-2*p=(k-2*p)+1 by omega,List.range'_concat,di]
 simp only [eI,List.foldl_nil,Nat.one_mul]
 rw [show 2*p+(k-2*p)=k by omega]
def mT (w:World) (B:Nat) (b d:List (U.K×Value)) (j:Nat→Option (Nat×Nat×List OpB)):Prop :=
 ∀ ver,match j ver with
  | none=>U.nk ver b=none∧U.nk ver d=none
  | some (st,tt,os)=>ver<18446744073709551615∧tt≤1000∧os.length≤8∧∃ l m o i,U.nk ver b=some (.agg #[.int .u64 (st:Nat),.slice l m o,.int .i64 (tt:Nat)])∧U.nk ver d=some (.agg #[.int .u64 (ver:Nat),i])∧OwnS w B 4 i os.length (gd os)
theorem mT.frame {w w':World} {B:Nat} {i j:List (U.K×Value)} {d:Nat→Option (Nat×Nat×List OpB)} (h:mT w B i j d) {D:Nat→Prop} (l:Ext D w w') (q:∀ k,D k→k<B):mT w' B i j d:=fun ver=>by
 have h1:=h ver
 cases m:d ver with
 | none=>rw [m] at h1;exact h1
 | some r =>
  obtain ⟨st,tt,os⟩:=r
  rw [m] at h1
  obtain ⟨a1,a3,a4,s,u,x,y,a5,C,o⟩:=h1
  exact ⟨a1,a3,a4,s,u,x,y,a5,C,o.frame l.size fun b e E=>l.block b E fun hd=>by have:=o.fU b e;have:=q b hd;omega⟩
theorem zZ (a b c:Value) (w:World) (k:IntKind) (n:Int) (ha:a = .int k n):(Instr.field 278 (.agg #[a,b,c]) 0).run Tryz.prog w = .ok (.int k n) w:=by
 subst ha
 kernel_rfl
theorem yj:∀ u:World,(zeroValue 278).run Tryz.prog u = .ok (.agg #[.int .u64 0,.slice none 0 0,.int .i64 0]) u:=fun u=>by kernel_rfl
theorem yi:∀ u:World,(zeroValue 34).run Tryz.prog u = .ok (.agg #[.int .u64 0,.slice none 0 0]) u:=fun u=>by kernel_rfl
theorem Dv {d:List Part} {p k:Nat} (hk:k<2):accS d p (k+1)=l6 decSB d p (accS d p k) k:=by
 match k,hk with
 | 0,_=>rfl
 | 1,_=>rfl
theorem xZ (d:List Part) (p:Nat) (acc:Nat×Nat×Nat×List E) (s:Nat) (h:acc.2.2.1<18446744073709551615):(l6 decSB d p acc s).2.2.1<18446744073709551615:=by
 unfold l6
 split
 ·split
  ·split
   ·rename_i v t hd
    unfold decSB at hd
    split at hd
    ·rename_i r b
     cases hd
     exact j5 (nO b).1
    ·cases hd
   ·exact h
  ·exact h
 ·exact h
theorem CS (d:List Part) (p:Nat):(th decSB d p []).2.2.1<18446744073709551615:=xZ d p _ 1 (xZ d p _ 0 (by decide))
def He (wr:World) (B r1 lg h q r ms slot s v0 p:Nat) (u:List E) (l m:List (U.K×Value)) (d:Nat→Option (Nat×Nat×List OpB)) (vv nv:Value) (b:World):Prop :=
 ∃ j st v' o T',vv = .int .u64 (v':Nat)∧nv = .int .u64 (st:Nat)∧v'<18446744073709551615∧EntAt b q 0 r T'∧LogAt b lg h ⟨ms,slot,o⟩∧U.fS b r1 l∧U.fS b (r1+1) m∧mT b B l m d∧(∀ f,km foldS d (f+j) s v0 u (2*p)=km foldS d f st v' T' o)∧Ext (fun i=>i=lg∨i=r) wr b
theorem zJ {b:Nat→Option (Nat×Nat×List OpB)} {l v0 j st v q d i:Nat} {m T:List E} {os:List OpB} {o:Nat} (h:∀ f,km foldS b (f+j) l v0 m o=km foldS b f st v T q) (r:b (v+1)=some (d,i,os)) (hs:¬d<st) :
  ∀ f,km foldS b (f+(j+1)) l v0 m o=km foldS b f d (v+1) (foldS T os) i:=fun f=>by
 rw [show f+(j+1)=(f+1)+j by omega,h (f+1)]
 conv=>lhs;unfold km
 simp only [r]
 rw [aw hs]
theorem By {d:Nat→Option (Nat×Nat×List OpB)} {l v0 j st v m:Nat} {q T:List E} {r:Nat} (h:∀ f,km foldS d (f+j) l v0 q r=km foldS d f st v T m) (i:d (v+1)=none∨∃ a b o,d (v+1)=some (a,b,o)∧a<st) (N:Nat):km foldS d (N+1+j) l v0 q r=(v,T,m):=by
 rw [h (N+1)]
 conv=>lhs;unfold km
 rcases i with i | ⟨a,b,o,i,hs⟩
 ·simp only [i]
 ·simp only [i]
  rw [aF hs]
theorem FF (h:Nat) (F:Nat→Prop) (H:fJ) (B:Nat) (w:World) (s:HostAt w F h H) (d:HostOk H B) (f:Nat) (D:(readAll H).2=some f) :
  Calls Tryz.prog 136 #[.iface 188 (.agg #[.pointer (some ⟨h,0,none⟩)])] w fun e w'=>∃ v,e = .returned (.tuple #[.pointer none,.int .u64 0,.pointer none,v])∧kF w w' v f∧HostAt w' F h (readAll H).1∧Ext F w w':=by
 have b:Below w.heap.size w (w.alloc (.cells #[.iface 188 (.agg #[.pointer (some ⟨h,0,none⟩)]),.int .u64 0,.int .i64 0,.int .i64 0] 253)):=(Below.rf w).alloc (ah _) _
 have hl:LogAt (w.alloc (.cells #[.iface 188 (.agg #[.pointer (some ⟨h,0,none⟩)]),.int .u64 0,.int .i64 0,.int .i64 0] 253)) w.heap.size h ⟨0,0,0⟩:=fL w _
 have u:¬F w.heap.size:=fun e=>by have:=s.lt _ e;omega
 have j:=ae (vQ w.heap.size h F H ⟨0,0,0⟩ B _ hl (s.below b) d u)
 have l:=ae b
 clear s d b hl
 go_enter Tryz.func136,Tryz.ntmps136
 go_wp2_with fail
 refine j.out.mono ?_
 rintro e w2 ⟨m,o,q⟩
 rw [D] at q
 obtain ⟨v,rfl,r⟩:=q
 have x:=ae r
 obtain ⟨E,rfl,-,-⟩:=r
 have y:=ae m
 have C:=ae o
 clear m o j
 go_wp2
 refine aK (v := .tuple #[.pointer none,.int .u64 0,.pointer none,.iface 168 (.pointer (some ⟨E,0,none⟩))]) (by simp [results,Tryz.results136,go_sem]) rfl ?_
 exact ⟨_,rfl,x.out.mono l.out.size,y.out,(Ext.fM l.out).trans' C.out fun i e=>e.imp id fun e=>by rw [e];exact ah _⟩
structure uA (w3:World) (B lg h st0 p:Nat) (d:List Part) (k q r:Nat) (vv tv nv:Value) (wr:World):Prop where
 nv:nv = .int .u64 ((accS d p k).1:Nat)
 vv:vv = .int .u64 ((accS d p k).2.2.1:Nat)
 tv:tv = .pointer (some ⟨q,0,none⟩)
 ent:EntAt wr q 0 r (accS d p k).2.2.2
 qr:B≤q∧B≤r∧q≠lg
 log:LogAt wr lg h ⟨st0,(accS d p k).2.1,0⟩
 ext:Ext (fun j=>j=lg) w3 wr
theorem Eh (h:Nat) (F:Nat→Prop) (H:fJ) (B:Nat) (w:World) (mb:HostAt w F h H) (c3:HostOk H B) (mp:ShapesVar w) (hU:∀ k,F k→2≤k) (slot v next:Nat) (T:List E) (hinv:DiskInv decSB decDB foldS [] (H.seen.map parseSec) (placeOf H.seen.length) slot v T next) (mA:(readAll H).2=none) :
  Calls Tryz.prog 136 #[.iface 188 (.agg #[.pointer (some ⟨h,0,none⟩)])] w fun e w'=>∃ lg q r,e = .returned (.tuple #[.pointer (some ⟨lg,0,none⟩),.int .u64 (v:Nat),.pointer (some ⟨q,0,none⟩),.nilIface])∧LogAt w' lg h ⟨gK H.seen,slot,next⟩∧EntAt w' q 0 r T∧w.heap.size≤lg∧w.heap.size≤q∧w.heap.size≤r∧q≠lg∧HostAt w' F h (readAll H).1∧Ext F w w':=by
 obtain ⟨n,ma⟩:∃ n,n=H.seen.length:=⟨_,rfl⟩
 have b2:=c3.n
 rw [←ma] at b2 hinv
 have hV:=jf b2.1 b2.2
 obtain ⟨d,hd⟩:∃ d,d=H.seen.map parseSec:=⟨_,rfl⟩
 rw [←hd] at hinv
 have hW:d.length=n:=by rw [hd,aH,ma]
 obtain ⟨p,ly⟩:∃ p,p=placeOf n:=⟨_,rfl⟩
 rw [←ly] at hV hinv
 have d7:=ae hinv
 have HD:=ae hd
 have HN:=ae ma
 have HP:=ae ly
 have d8:Below w.heap.size w (w.alloc (.cells #[.iface 188 (.agg #[.pointer (some ⟨h,0,none⟩)]),.int .u64 0,.int .i64 0,.int .i64 0] 253)):=(Below.rf w).alloc (ah _) _
 have hl:LogAt (w.alloc (.cells #[.iface 188 (.agg #[.pointer (some ⟨h,0,none⟩)]),.int .u64 0,.int .i64 0,.int .i64 0] 253)) w.heap.size h ⟨0,0,0⟩:=fL w _
 have d9:¬F w.heap.size:=fun e=>by have:=mb.lt _ e;omega
 have k7:=ae d9
 have hX:=ae mb.lt
 have gc:=ae (vQ w.heap.size h F H ⟨0,0,0⟩ B _ hl (mb.below d8) c3 d9)
 have cp:=ae c3.s64
 have hY:=ae d8
 have HG:=ae mp
 clear mb c3 d8 hl mp hinv hd ly d9
 go_enter Tryz.func136,Tryz.ntmps136
 go_wp2_with fail
 have b3:(w.alloc (.cells #[.iface 188 (.agg #[.pointer (some ⟨h,0,none⟩)]),.int .u64 0,.int .i64 0,.int .i64 0] 253)).heap.size=w.heap.size+1:=ax _ _
 refine gc.out.mono ?_
 rintro e w2 ⟨ge,bk,gf⟩
 rw [mA] at gf
 obtain ⟨av,rfl,bS,c4⟩:=gf
 have h0:=ae ge
 have h7:=ae ((Ext.fM hY.out).trans' bk (T:=fun i=>F i∨i=w.heap.size) fun i e=>e.imp id fun e=>by rw [e];exact ah _:Ext F w w2)
 have bI:Hid (w.heap.size+1≤w2.heap.size):=ae (by have:=bk.size;rw [b3] at this;exact this)
 have gg:=ae bS
 have eb:=ae c4
 obtain ⟨ga,cq,rfl,ib,-⟩:=bS.get
 rw [←ma] at ib⊢
 clear ge bk bS c4 gc b3 ma
 go_wp2_with fail
 refine (xW n w2 b2.1 b2.2).mono ?_
 rintro e w3 ⟨rfl,rfl⟩
 rw [←HP.out]
 go_wp2_with fail
 refine (kX w3).mono ?_
 rintro e w4 ⟨rfl,gl,c5,gn⟩
 have ii:=ae gl
 have go:=ae c5
 have io:Hid (LogAt w4 w.heap.size h ⟨gK H.seen,0,0⟩):=ae (by
  have h1:=fK c5 (fI eb.out) eb.out
  have e:jG ⟨0,0,0⟩ H.seen H.seen.length=gK H.seen:=by unfold jG;rw [be];exact Nat.zero_max _
  rw [e] at h1
  exact h1)
 have gp:Hid (∀ W,Ext (fun j=>j=w.heap.size) w4 W→RowsAt W (fun j=>w.heap.size+1≤j∧j<w3.heap.size) (.slice ga n cq) H.seen):=ae (fun W l0=>by
  have ms:=gg.out
  rw [ax] at ms
  rw [HN.out]
  have G:Ext (fun j=>j=w.heap.size) w3 W:=(Ext.fM go.out).trans l0
  exact ms.fW G.size fun k C t fz hk _ hF=>G.block k (fI hk) fun e'=>by
   have k8:w.heap.size+1≤k∧_:=hF
   omega)
 have ec:Hid (w3.heap.size+2=w4.heap.size):=ae gn.symm
 have gq:Hid (Ext F w w4):=ae (h7.out.trans (Ext.fM c5))
 have gs:Hid (∀ W,Ext (fun j=>j=w.heap.size) w4 W→ShapesVar W):=ae (fun W l0=>by
  have h2:=HG.out.two
  have G:Ext (fun j=>F j∨j=w.heap.size) w W:=(gq.out.mono fun k => .inl).trans (l0.mono fun k => .inr)
  refine HG.out.fW G.size (G.block _ (by omega) fun e => ?_)
  rcases e with e | e
  ·have:=hU _ e
   omega
  ·omega)
 clear gl c5 gn gg eb
 go_wp2_with fail
 go_loopw [10,11,12,43] (fun vv tv nv i wr=>∃ k q r:Nat,k≤2∧i = .int .i64 (k:Int)∧uA w4 w.heap.size w.heap.size h (gK H.seen) p d k q r vv tv nv wr) (fun _ _ _ i _=>2-(intOf i).toNat)
 case atStart=>exact ⟨0,w3.heap.size+1,w3.heap.size,by omega,rfl,⟨rfl,rfl,rfl,ii.out,⟨by have:=bI.out;omega,by have:=bI.out;omega,by have:=bI.out;omega⟩,io.out,Ext.refl _ _⟩⟩
 case round =>
  obtain ⟨k,q,r,hk,rfl,hrel⟩:=hrel
  obtain ⟨rfl,rfl,rfl,bl,gt,bn,R⟩:=hrel
  have s:=ae bl
  have c6:=ae gt
  have I:=ae bn
  have bb:=ae R
  clear bl gt bn R
  by_cases Y:k<2
  ·have hw:(k:Int)<2:=by omega
   have gu:Hid (k*p≤100):=ae (by
    obtain rfl | rfl:k=0∨k=1:=by omega
    ·omega
    ·omega)
   have i0:Hid (wrap64 ((k:Int)*(p:Int))=((k*p:Nat):Int)):=ae (by
    rw [←Int.natCast_mul]
    have:=gu.out
    generalize k*p=m at *
    exact IntWalk.wrap64_in (m:Int) (by omega))
   have hx:p≤37:=by omega
   have b4:Hid (RowsAt wr (fun j=>w.heap.size+1≤j∧j<w3.heap.size) (.slice ga (2*p) cq) (H.seen.take (2*p))):=ae ((gp.out wr bb.out).nZ HN.out (2*p) (by omega))
   have gv:Hid ((H.seen.take (2*p)).map parseSec=d.take (2*p)):=ae (by rw [HD.out,List.map_take])
   have gz:Hid (∀ b∈H.seen.take (2*p),b.length=64):=ae fun b l4=>cp.out b (dA l4)
   have ed:Hid ((H.seen.take (2*p)).length≤1000):=ae (by rw [aA,←HN.out];omega)
   have eg:=ae (Dv (d:=d) (p:=p) Y)
   go_wp2_with fail
   rw [i0.out]
   refine (yh _ _ (H.seen.take (2*p)) (k*p) wr b4.out gz.out ed.out (by have:=gu.out;omega)).mono ?_
   rintro e w5 ⟨bL,st,tt,mC,data,rfl,bo,br,bs⟩
   rw [gv.out] at bs⊢
   obtain ⟨l1,u,rfl,-,-⟩:=bo.opened
   have t6:Below w5.heap.size w5 (w5.alloc (.cells #[.int .u64 (st:Nat),.slice l1 data.length u,.int .i64 (tt:Nat)] 278)):=(Below.rf w5).alloc (ah _) _
   have R6:=ae (fL w5 (.cells #[.int .u64 (st:Nat),.slice l1 data.length u,.int .i64 (tt:Nat)] 278))
   have Z:=ae (bL.tn t6)
   have ej:=ae (bo.below t6)
   have el:=ae (fun b (e:(Value.slice l1 data.length u).ownBlock=some b)=>aC (br b e).2 t6.size)
   have em:=ae bs
   clear bL bo br bs t6 b4
   go_upto_region 13 with fail
   generalize w5.alloc (.cells #[.int .u64 (st:Nat),.slice l1 data.length u,.int .i64 (tt:Nat)] 278)=w6 at *
   have O:Hid (accS d p (k+1)=accS d p k→uA w4 w.heap.size w.heap.size h (gK H.seen) p d (k+1) q r (.int .u64 ((accS d p k).2.2.1:Nat)) (.pointer (some ⟨q,0,none⟩)) (.int .u64 ((accS d p k).1:Nat)) w6):=ae (fun e=>⟨by rw [e],by rw [e],rfl,by rw [e];exact s.out.below Z.out,c6.out,by rw [e];exact fK Z.out (fI I.out) I.out,bb.out.trans (Ext.fM Z.out)⟩)
   have x0:=af _ _ 0 _ _ _ R6.out
   have x1:=af _ _ 1 _ _ _ R6.out
   have c7:=fI R6.out
   obtain ⟨nw,en⟩:∃ nw,nw=(accS d p k).1:=⟨_,rfl⟩
   have g0:=ae en
   rw [←en] at O⊢
   clear en
   cases X:iS (d.take (2*p)) (k*p) with
   | none =>
    have M:=ae (O.out (by rw [eg.out];unfold l6;rw [X]))
    clear X
    go_wp2
    go_roundw
    case rel=>exact ⟨k+1,q,r,by omega,by go_num,M.out⟩
    case measure=>simp [intOf];omega
   | some x =>
    have G:=em.out x X
    by_cases V:nw<st
    ·have bt:(nw:Int)<(st:Int):=by omega
     have er:Hid (data.length≤gx):=ae (by
      obtain ⟨m,-,-,b5,ak,-⟩:=iZ.1 X
      have Y:=(iZ.1 X).lt.2
      rw [G] at b5 ak
      have hm:m≤300:=by
       rw [G] at Y
       have bv:(d.take (2*p)).length≤n:=by rw [aA];omega
       simp only at b5 Y
       omega
      have:=sL gz.out (at':=k*p) hm
      rw [gv.out] at this
      simp only at ak
      rw [ak]
      unfold gx
      omega)
     have g1:Hid (accS d p (k+1)=match decSB data with
      | some (v,t)=>(st,k,v,t)
      | none=>accS d p k):=ae (by rw [eg.out];unfold l6;rw [X,G];simp only;rw [aF (by rw [←g0.out];exact V)];cases decSB data <;> rfl)
     clear X G V
     go_wp2_with fail
     refine (qW (.slice l1 data.length u) data w6 ej.out el.out er.out (gs.out w6 (bb.out.trans (Ext.fM Z.out)))).mono ?_
     rintro e w7 ⟨Q,aE⟩
     have b6:=ae (Z.out.tn Q)
     have R7:=ae (fK Q c7 R6.out)
     cases l:iD data with
     | inr f =>
      obtain ⟨mE,fp⟩:=f
      rw [l] at aE
      obtain ⟨ev,rfl,g,rfl,-,-⟩:=aE
      have M:Hid (uA w4 w.heap.size w.heap.size h (gK H.seen) p d (k+1) q r (.int .u64 ((accS d p k).2.2.1:Nat)) (.pointer (some ⟨q,0,none⟩)) (.int .u64 (nw:Nat)) w7):=ae (by
       have e:accS d p (k+1)=accS d p k:=by rw [g1.out];unfold decSB;rw [l]
       obtain ⟨a1,a2,a3,a4,a5,mc,a7⟩:=O.out e
       exact ⟨a1,a2,a3,a4.below Q,a5,fK Q (fI mc) mc,a7.trans (Ext.fM Q)⟩)
      clear Q l
      go_wp2
      go_roundw
      case rel=>exact ⟨k+1,q,r,by omega,by go_num,M.out⟩
      case measure=>simp [intOf];omega
     | inl y =>
      obtain ⟨vn,S⟩:=y
      rw [l] at aE
      obtain ⟨r',rfl,g2,g3⟩:=aE
      have eD:=ae g2
      have i2:=ae g3
      have g4:=ae (show LogAt w7 w.heap.size h ⟨gK H.seen,(accS d p k).2.1,0⟩ from fK b6.out (fI I.out) I.out)
      have b7:=g4.out
      unfold LogAt at b7
      have l2:=af _ _ 2 _ _ _ b7
      have z2:=ao _ _ 2 _ _ b7
      have eS:=fI b7
      have y0:=af _ _ 0 _ _ _ R7.out
      have kC:=fI R7.out
      have c8:Hid (accS d p (k+1)=(st,k,vn,S)):=ae (by rw [g1.out];unfold decSB;rw [l])
      have M:Hid (uA w4 w.heap.size w.heap.size h (gK H.seen) p d (k+1) (r'+1) r' (.int .u64 (vn:Nat)) (.pointer (some ⟨r'+1,0,none⟩)) (.int .u64 (st:Nat)) (w7.setCell ⟨w.heap.size,2,none⟩ (.int .i64 (k:Int)))):=ae (by
       have G:Ext (fun j=>j=w.heap.size) w7 (w7.setCell ⟨w.heap.size,2,none⟩ (.int .i64 (k:Int))):=(Ext.refl (fun j=>j=w.heap.size) w7).setCell ⟨w.heap.size,2,none⟩ _ (.inl rfl)
       have h4:=bb.out.size
       have h6:=Z.out.size
       have h2:=bI.out
       have h3:=ec.out
       have h8:=i2.out
       refine ⟨by rw [c8.out],by rw [c8.out],rfl,by rw [c8.out];exact ⟨G.cell (p:=⟨r'+1,0,none⟩) (fun e:r'+1=w.heap.size=>by omega) eD.out.cell,eD.out.tab.fW (G.block _ eD.out.tab.lt (fun e:r'=w.heap.size=>by omega))⟩,⟨by omega,by omega,by omega⟩,by rw [c8.out];exact heap_setCell _ _ 2 _ g4.out,(bb.out.trans (Ext.fM b6.out)).trans G⟩)
      clear g2 g3 b7 Q l
      go_wp2
      go_roundw
      case rel=>exact ⟨k+1,r'+1,r',by omega,by go_num,M.out⟩
      case measure=>simp [intOf];omega
    ·have bt:¬(nw:Int)<(st:Int):=by omega
     have M:=ae (O.out (by rw [eg.out];unfold l6;rw [X,G];simp only;rw [aw (by rw [←g0.out];exact V)]))
     clear X G V
     go_wp2
     go_roundw
     case rel=>exact ⟨k+1,q,r,by omega,by go_num,M.out⟩
     case measure=>simp [intOf];omega
  ·obtain rfl:k=2:=by omega
   obtain ⟨s0,v0,tb,f1,f2⟩:=d7.out.found
   have eT:accS d p 2=(s0,slot,v0,tb):=f1
   rw [eT] at s I⊢
   have g5:=ae f2
   have i3:Hid (v0<18446744073709551615):=ae (by
    have h:=CS d p
    rw [f1] at h
    exact h)
   have i4:¬((2:Nat):Int)<2:=by omega
   clear f1 f2 eT
   simp only at s I⊢
   have b8:=I.out
   unfold LogAt at b8
   have l3:=af _ _ 3 _ _ _ b8
   have z3:=ao _ _ 3 _ _ b8
   have eS:=fI b8
   have hx:p≤37:=by omega
   have i6 := @run_makeMap Tryz.prog
   clear b8
   have eV:Hid (∀ W,W=((wr.setCell ⟨w.heap.size,3,none⟩ (.int .i64 (2*(p:Int)))).alloc (.map #[] 0)).alloc (.map #[] 0)→LogAt W w.heap.size h ⟨gK H.seen,slot,2*p⟩∧EntAt W q 0 r tb∧U.fS W wr.heap.size []∧U.fS W (wr.heap.size+1) []∧W.heap.size=wr.heap.size+2∧Ext (fun j=>j=w.heap.size) w4 W):=ae (by
    rintro W rfl
    have G:Ext (fun j=>j=w.heap.size) wr (wr.setCell ⟨w.heap.size,3,none⟩ (.int .i64 (2*(p:Int)))):=(Ext.refl (fun j=>j=w.heap.size) wr).setCell ⟨w.heap.size,3,none⟩ _ (.inl rfl)
    have i7:q≠w.heap.size:=c6.out.2.2
    have i8:r≠w.heap.size:=fun e=>by
     have hl:=I.out
     unfold LogAt at hl
     exact s.out.tab.jQ hl e.symm
    have he:EntAt (wr.setCell ⟨w.heap.size,3,none⟩ (.int .i64 (2*(p:Int)))) q 0 r tb:=⟨G.cell (p:=⟨q,0,none⟩) i7 s.out.cell,s.out.tab.fW (G.block _ s.out.tab.lt i8)⟩
    have l4:Below (wr.setCell ⟨w.heap.size,3,none⟩ (.int .i64 (2*(p:Int)))).heap.size (wr.setCell ⟨w.heap.size,3,none⟩ (.int .i64 (2*(p:Int)))) (((wr.setCell ⟨w.heap.size,3,none⟩ (.int .i64 (2*(p:Int)))).alloc (.map #[] 0)).alloc (.map #[] 0)):=Below.al (Below.al (Below.rf _) _) _
    have e0:=heap_setCell _ _ 3 (.int .i64 (2*(p:Int))) I.out
    have m1:=U.fS.new (wr.setCell ⟨w.heap.size,3,none⟩ (.int .i64 (2*(p:Int))))
    have m2:=U.fS.new ((wr.setCell ⟨w.heap.size,3,none⟩ (.int .i64 (2*(p:Int)))).alloc (.map #[] 0))
    rw [size_setCell] at m1
    rw [ax,size_setCell] at m2
    refine ⟨?_,he.below l4,m1.fW (heap_alloc_old _ _ m1.lt),m2,by rw [ax,ax,size_setCell],(bb.out.trans G).trans (Ext.fM l4)⟩
    have h9:=fK l4 (fI e0) e0
    rw [show (2:Int)*(p:Int)=((2*p:Nat):Int) by omega] at h9⊢
    exact h9)
   go_upto_region 22 with fail
   generalize hz:((wr.setCell ⟨w.heap.size,3,none⟩ (.int .i64 (2*(p:Int)))).alloc (.map #[] 0)).alloc (.map #[] 0)=J at *
   obtain ⟨e1,ct,e2,e3,cu,hA⟩:Hid (LogAt J w.heap.size h ⟨gK H.seen,slot,2*p⟩)∧Hid (EntAt J q 0 r tb)∧Hid (U.fS J wr.heap.size [])∧Hid (U.fS J (wr.heap.size+1) [])∧Hid (J.heap.size=wr.heap.size+2)∧Hid (Ext (fun j=>j=w.heap.size) w4 J):=by
    obtain ⟨a1,a2,a3,a4,a5,mc⟩:=eV.out J rfl
    exact ⟨ae a1,ae a2,ae a3,ae a4,ae a5,ae mc⟩
   have c9:Hid (w4.heap.size≤wr.heap.size):=ae bb.out.size
   have ca:=c6
   have da:Hid (q<wr.heap.size∧r<wr.heap.size):=ae ⟨s.out.lt,s.out.tab.lt⟩
   clear eV hz s I l3 z3 eS i6 bb c6
   obtain ⟨r1,e4⟩:∃ r1,r1=wr.heap.size:=⟨_,rfl⟩
   have la:=ae e4
   rw [←e4] at e2 e3 cu c9 da⊢
   clear e4
   go_loopw [21] (fun i wx=>∃ (k:Nat) (L1 L2:List (U.K×Value)),2*p≤k∧k≤n∧i = .int .i64 (k:Int)∧U.fS wx r1 L1∧U.fS wx (r1+1) L2∧mT wx J.heap.size L1 L2 (jv d p k)∧Ext (fun j=>j=r1∨j=r1+1) J wx) (fun i _=>n-(intOf i).toNat)
   case atStart=>exact ⟨2*p,[],[],ah _,by omega,by simp,e2.out,e3.out,(fun ver=>by unfold jv;rw [ef];exact ⟨rfl,rfl⟩),Ext.refl _ _⟩
   case round =>
    obtain ⟨k,L1,L2,g6,hk,rfl,bM,cb,ce,R⟩:=hrel
    have e5:Hid (Ext (fun j=>j=w.heap.size) w4 wr):=ae (hA.out.trans' R fun i e => .inr (by have:=c9.out;rcases e with e | e <;> omega))
    have bN:=ae bM
    have bO:=ae cb
    have cf:=ae ce
    have bP:=ae R
    clear bM cb ce R
    by_cases Y:k<n
    ·have hw:(k:Int)<(n:Int):=by omega
     have b4:Hid (RowsAt wr (fun j=>w.heap.size+1≤j∧j<w3.heap.size) (.slice ga n cq) H.seen):=ae (gp.out wr e5.out)
     have ed:Hid (H.seen.length≤1000):=ae (by rw [←HN.out];omega)
     go_wp2_with fail
     refine (yh _ _ H.seen k wr b4.out cp.out ed.out (by omega)).mono ?_
     rintro e w5 ⟨bL,st,tt,mC,data,rfl,bo,br,bs⟩
     rw [←HD.out] at bs⊢
     obtain ⟨l1,u,rfl,-,-⟩:=bo.opened
     have t6:Below w5.heap.size w5 (w5.alloc (.cells #[.int .u64 (st:Nat),.slice l1 data.length u,.int .i64 (tt:Nat)] 278)):=(Below.rf w5).alloc (ah _) _
     have R6:=ae (fL w5 (.cells #[.int .u64 (st:Nat),.slice l1 data.length u,.int .i64 (tt:Nat)] 278))
     have Z:=ae (bL.tn t6)
     have ej:=ae (bo.below t6)
     have el:=ae (fun b (e:(Value.slice l1 data.length u).ownBlock=some b)=>aC (br b e).2 t6.size)
     have em:=ae bs
     have i9:=ae bL
     clear bL bo br bs t6 b4
     go_upto_region 25 with fail
     generalize w5.alloc (.cells #[.int .u64 (st:Nat),.slice l1 data.length u,.int .i64 (tt:Nat)] 278)=w6 at *
     have O:Hid (∀ W,Below wr.heap.size wr W→(∀ ver,jv d p (k+1) ver=jv d p k ver)→∃ (k':Nat) (L1 L2:List (U.K×Value)),2*p≤k'∧k'≤n∧Value.int .i64 ((k:Int)+1) = .int .i64 (k':Int)∧U.fS W r1 L1∧U.fS W (r1+1) L2∧mT W J.heap.size L1 L2 (jv d p k')∧Ext (fun j=>j=r1∨j=r1+1) J W):=ae (fun W l0 ly=>by
      refine ⟨k+1,L1,L2,by omega,by omega,by simp,bN.out.fW (l0.block _ bN.out.lt),bO.out.fW (l0.block _ bO.out.lt),?_,bP.out.trans (Ext.fM l0)⟩
      rw [show jv d p (k+1)=jv d p k from funext ly]
      exact mT.frame cf.out (D:=fun _=>False) (Ext.fM l0) fun _ h=>h.elim)
     have x0:=af _ _ 0 _ _ _ R6.out
     have x1:=af _ _ 1 _ _ _ R6.out
     have x2:=af _ _ 2 _ _ _ R6.out
     have c7:=fI R6.out
     cases X:iS d k with
     | none =>
      have M:=ae (O.out w6 Z.out (fun ver=>by rw [ub d p k ver g6];unfold jl;rw [X]))
      clear X
      go_wp2
      go_roundw
      case rel=>exact M.out
      case measure=>simp [intOf];omega
     | some x =>
      have G:=em.out x X
      have er:Hid (data.length≤gx):=ae (by
       obtain ⟨m,-,-,b5,ak,-⟩:=iZ.1 X
       have Y:=(iZ.1 X).lt.2
       rw [G] at b5 ak
       have hm:m≤300:=by
        rw [G] at Y
        simp only at b5 Y
        omega
       have:=sL cp.out (at':=k) hm
       rw [←HD.out] at this
       simp only at ak
       rw [ak]
       unfold gx
       omega)
      have j0:Hid (tt≤1000):=ae (by
       have Y:=(iZ.1 X).lt.2
       rw [G] at Y
       simp only at Y
       omega)
      have e6:Hid (∀ ver,jv d p (k+1) ver=match decDB data with
       | some (v,o)=>if v=ver∧((jv d p k ver).elim 0 (·.1))<st then some (st,tt,o) else jv d p k ver
       | none=>jv d p k ver):=ae (fun ver=>by
        rw [ub d p k ver g6]
        unfold jl
        rw [X,G]
        simp only
        cases decDB data <;> rfl)
      clear X G
      go_wp2_with fail
      refine (uN (.slice l1 data.length u) data w6 ej.out el.out er.out (gs.out w6 (e5.out.trans (Ext.fM Z.out)))).mono ?_
      rintro e w7 ⟨Q,aE⟩
      have b6:=ae (Z.out.tn Q)
      have R7:=ae (fK Q c7 R6.out)
      have hB:Hid (w6.heap.size≤w7.heap.size):=ae Q.size
      cases l:pO data with
      | inr f =>
       obtain ⟨mE,fp⟩:=f
       rw [l] at aE
       obtain ⟨ev,rfl,g,rfl,-,-⟩:=aE
       have M:=ae (O.out (w7.alloc (.cells #[.int .u64 0,.slice none 0 0] 34)) (b6.out.tn ((Below.rf w7).alloc (ah _) _)) (fun ver=>by rw [e6.out];unfold decDB;rw [l]))
       clear Q l
       go_wp2
       go_roundw
       case rel=>exact M.out
       case measure=>simp [intOf];omega
      | inl y =>
       obtain ⟨vn,os⟩:=y
       rw [l] at aE
       obtain ⟨sv,rfl,b0⟩:=aE
       obtain ⟨sa,ba,rfl⟩:=b0.shape
       have e7:=l
       rw [oB] at e7
       have ci:=(uE _ _ _ e7).1
       have g7:Hid (vn<18446744073709551615∧os.length≤8):=ae (by
        refine ⟨?_,(oO ci).1⟩
        unfold gB at ci
        split at ci
        ·cases ci
        ·rename_i hv
         exact j5 (by simpa using hv))
       have g8:Hid (decDB data=some (vn,os)):=ae (vt l)
       have t8:Below w7.heap.size w7 (w7.alloc (.cells #[.int .u64 (vn:Nat),.slice sa os.length ba] 34)):=(Below.rf w7).alloc (ah _) _
       have D8:=ae (fL w7 (.cells #[.int .u64 (vn:Nat),.slice sa os.length ba] 34))
       have cl:=ae (b6.out.tn t8)
       have R8:=ae (fK t8 (fI R7.out) R7.out)
       have g9:=ae ((b0.mono (show J.heap.size≤w6.heap.size from aI bP.out.size Z.out.size)).below t8)
       clear e7 ci b0 Q t8 l
       go_upto_region 27 with fail
       generalize w7.alloc (.cells #[.int .u64 (vn:Nat),.slice sa os.length ba] 34)=w8 at *
       have cv:Hid (U.fS w8 r1 L1):=ae (bN.out.fW (cl.out.block _ bN.out.lt))
       have cB:Hid (U.fS w8 (r1+1) L2):=ae (bO.out.fW (cl.out.block _ bO.out.lt))
       obtain ⟨cur,c0⟩:∃ cur,cur=(jv d p k vn).elim 0 (·.1):=⟨_,rfl⟩
       have hb:=ae c0
       have hC:∃ e9 fb,(U.nk vn L1).getD (.agg #[.int .u64 0,.slice none 0 0,.int .i64 0]) = .agg #[.int .u64 (cur:Nat),e9,fb]:=by
        have h1:=cf.out vn
        rw [c0]
        cases ly:jv d p k vn with
        | none=>rw [ly] at h1;rw [h1.1];exact ⟨_,_,rfl⟩
        | some y =>
         obtain ⟨s',t',o'⟩:=y
         rw [ly] at h1
         obtain ⟨-,-,-,lb,lc,ld,le,a5,-⟩:=h1
         rw [a5]
         exact ⟨_,_,rfl⟩
       obtain ⟨e9,fb,fd⟩:=hC
       have ab:=cv.out.lookup (mt:=281) Tryz.underlying281 (yj w8) vn
       rw [fd] at ab
       unfold U.kV at ab
       have hD:=fun w=>zZ (.int .u64 (cur:Nat)) e9 fb w .u64 (cur:Nat) rfl
       have y0:=af _ _ 0 _ _ _ R8.out
       have y1:=af _ _ 1 _ _ _ R8.out
       have y2:=af _ _ 2 _ _ _ R8.out
       have d0:=af _ _ 0 _ _ _ D8.out
       have d1:=af _ _ 1 _ _ _ D8.out
       have j1:=fI R8.out
       have j2:=fI D8.out
       clear c0 fd x0 x1 x2 c7
       by_cases V:cur<st
       ·have bt:(cur:Int)<(st:Int):=by omega
        have co:Hid (∀ ver,jv d p (k+1) ver=if ver=vn then some (st,tt,os) else jv d p k ver):=ae (fun ver=>by
         rw [e6.out,g8.out]
         simp only
         by_cases e:ver=vn
         ·subst e
          rw [aF ⟨rfl,by rw [←hb.out];exact V⟩,aF rfl]
         ·rw [aw (fun h=>e h.1.symm),aw e])
        go_upto_region 28 with fail
        have hE:r1<wr.heap.size∧r1+1<wr.heap.size:=⟨bN.out.lt,bO.out.lt⟩
        have h5:=i9.out.size
        have j3:=hB.out
        have kb:w5.heap.size<w6.heap.size:=fI R6.out
        obtain ⟨W1,dc,bM,a6,b3⟩:=cv.out.update (mt:=281) Tryz.underlying281 vn (.agg #[.int .u64 (st:Nat),.slice l1 data.length u,.int .i64 (tt:Nat)])
        obtain ⟨W2,dk,cb,bx,hf⟩:=(cB.out.fW (w':=W1) (a6.block _ cB.out.lt (fun e=>by cases e))).update (mt:=282) Tryz.underlying282 vn (.agg #[.int .u64 (vn:Nat),.slice sa os.length ba])
        have kd:W1.heap[w5.heap.size]?=_:=(a6.block _ j1 (fun e=>by cases e;omega)).trans R8.out
        have dl:W1.heap[w7.heap.size]?=_:=(a6.block _ j2 (fun e=>by cases e;omega)).trans D8.out
        have p0:=af _ _ 0 _ _ _ dl
        have p1:=af _ _ 1 _ _ _ dl
        have k0:=fI dl
        have hG:Hid (U.fS W2 r1 (U.mD vn (.agg #[.int .u64 (st:Nat),.slice l1 data.length u,.int .i64 (tt:Nat)]) L1)):=ae (bM.fW (bx.block _ bM.lt (fun e=>by cases e)))
        have hH:=ae cb
        have fg:Hid (Ext (fun j=>j=r1∨j=r1+1) w8 W2):=ae ((⟨a6.os,a6.tape,a6.output,a6.size,fun j md fi=>a6.block j md fun e=>fi (.inl (by cases e;rfl))⟩:Ext (fun j=>j=r1∨j=r1+1) w8 W1).trans ⟨bx.os,bx.tape,bx.output,bx.size,fun j md fi=>bx.block j md fun e=>fi (.inr (by cases e;rfl))⟩)
        have kf:Hid (W2.heap.size=w8.heap.size):=ae (by rw [hf,b3])
        have fk:Hid (∀ m,∃ (k':Nat) (L1 L2:List (U.K×Value)),2*p≤k'∧k'≤n∧Value.int .i64 ((k:Int)+1) = .int .i64 (k':Int)∧U.fS (W2.drewN m) r1 L1∧U.fS (W2.drewN m) (r1+1) L2∧mT (W2.drewN m) J.heap.size L1 L2 (jv d p k')∧Ext (fun j=>j=r1∨j=r1+1) J (W2.drewN m)):=ae (fun m=>by
         refine ⟨k+1,_,_,by omega,by omega,by simp,hG.out,hH.out,fun ver => ?_,((bP.out.trans (Ext.fM cl.out)).trans fg.out).drewN m⟩
         rw [co.out ver,U.lP _ _ _ cv.out.Ai,U.lP _ _ _ cB.out.Ai]
         have kk:=cu.out
         by_cases e:ver=vn
         ·subst e
          rw [aF rfl,aF rfl,aF rfl]
          refine ⟨g7.out.1,j0.out,g7.out.2,_,_,_,_,rfl,rfl,?_⟩
          exact g9.out.frame (by rw [show (W2.drewN m).heap.size=W2.heap.size from rfl,kf.out];exact ah _) fun b e l4=>fg.out.block b l4 fun h=>by have:=g9.out.fU b e;omega
         ·rw [aw e,aw e,aw e]
          exact mT.frame cf.out (D:=fun j=>j=r1∨j=r1+1) (((Ext.fM cl.out).trans fg.out).drewN m) (fun j h=>by omega) ver)
        unfold U.kV at dc dk
        have hJ:=dc 0
        have hL:=dc 1
        have hM:=dk 0
        have hN:=dk 1
        have fl:∀ w:World,w.drewN 1=w.drew:=fun _=>rfl
        have fn:∀ w:World,w.drewN 0=w:=fun _=>rfl
        rw [fl,fl] at hL hN
        rw [fn,fn] at hJ hM
        clear fl fn dc dk bM cb a6 bx b3 hf kd dl V ab hD hE h5 j3 kb
        go_region
        all_goals
         go_wp2
         go_roundw
         case rel=>first | exact fk.out 0 | exact fk.out 1
         case measure=>simp [intOf];omega
       ·have bt:¬(cur:Int)<(st:Int):=by omega
        have M:=ae (O.out w8 cl.out (fun ver=>by
         rw [e6.out,g8.out]
         simp only
         by_cases e:vn=ver
         ·subst e
          rw [aw (fun h=>V (by rw [hb.out];exact h.2))]
         ·rw [aw (fun h=>e h.1)]))
        clear V
        go_wp2
        go_roundw
        case rel=>exact M.out
        case measure=>simp [intOf];omega
    ·obtain rfl:k=n:=by omega
     have i4:¬(k:Int)<(k:Int):=by omega
     have dn:jv d p k=xV decDB d (iC d p):=by
      funext ver
      unfold jv xV iC
      rw [hW]
     have co:=ae dn
     clear dn
     go_upto_region 29 with fail
     obtain ⟨pk,ce⟩:∃ pk,pk=jv d p k:=⟨_,rfl⟩
     rw [←ce] at cf co
     rw [←co.out] at g5
     clear ce co d7 e2 e3
     go_loopw [10,12] (fun vv nv wx=>He wr J.heap.size r1 w.heap.size h q r (gK H.seen) slot s0 v0 p tb L1 L2 pk vv nv wx) (fun vv _ _=>18446744073709551616-(intOf vv).toNat)
     case atStart=>exact ⟨0,s0,v0,2*p,tb,rfl,rfl,i3.out,⟨bP.out.cell (p:=⟨q,0,none⟩) (show ¬(q=r1∨q=r1+1) from by have:=da.out;omega) ct.out.cell,ct.out.tab.fW (bP.out.block _ ct.out.tab.lt fun e=>by have:=da.out;omega)⟩,(bP.out.block _ (fI e1.out) fun e=>by have:=c9.out;have:=bI.out;have:=ec.out;omega).trans e1.out,bN.out,bO.out,cf.out,fun _=>rfl,Ext.refl _ _⟩
     case round =>
      obtain ⟨j,st,v',nx,T',rfl,rfl,lf,bl,bn,hg,hh,hi,hj,R⟩:=hrel
      rename World=>wl
      have s:=ae bl
      have I:=ae bn
      have c2:=ae hg
      have bz:=ae hh
      have hn:=ae hi
      have ho:=ae hj
      have hp:=ae R
      have hr:IntKind.u64.wrap ((v':Int)+1)=((v'+1:Nat):Int):=by rw [show ((v':Int)+1)=((v'+1:Nat):Int) by omega];exact IntWalk.u64_in _ (by omega)
      have li:=ae hr
      obtain ⟨v1,fo⟩:∃ v1,v1=v'+1:=⟨_,rfl⟩
      have dp:=ae fo
      rw [←fo] at hr
      have ab:=c2.out.kM (mt:=281) Tryz.underlying281 (yj _) v1
      have N:=bz.out.lookup (mt:=282) Tryz.underlying282 (yi _) v1
      have h1:=hn.out v1
      have hs:Hid (Ext (fun i=>w.heap.size≤i) w4 wl):=ae ((e5.out.mono fun i e=>by rw [e];exact ah _).trans (hp.out.mono fun i e=>by rcases e with e | e;rw [e];exact ah _;rw [e];exact ca.out.2.1))
      have ds:Hid (∀ W,Below wl.heap.size wl W→(pk v1=none∨∃ a b o,pk v1=some (a,b,o)∧a<st)→∃ lg q' r',Ending.returned (.tuple #[.pointer (some ⟨w.heap.size,0,none⟩),.int .u64 (v':Nat),.pointer (some ⟨q,0,none⟩),.nilIface]) = .returned (.tuple #[.pointer (some ⟨lg,0,none⟩),.int .u64 (v:Nat),.pointer (some ⟨q',0,none⟩),.nilIface])∧LogAt W lg h ⟨gK H.seen,slot,next⟩∧EntAt W q' 0 r' T∧w.heap.size≤lg∧w.heap.size≤q'∧w.heap.size≤r'∧q'≠lg∧HostAt W F h (readAll H).1∧Ext F w W):=ae (fun W l0 mI=>by
       have h1:=By ho.out (by rw [←dp.out];exact mI) d.length
       rw [g5.out _ (by omega)] at h1
       injection h1 with h1 h2
       injection h2 with h2 h3
       subst h1 h2 h3
       refine ⟨w.heap.size,q,r,rfl,fK l0 (fI I.out) I.out,s.out.below l0,ah _,ca.out.1,ca.out.2.1,ca.out.2.2,?_,(gq.out.trans' hs.out fun i e => .inr e).trans (Ext.fM l0)⟩
       exact h0.out.ext (S:=fun i=>w.heap.size≤i) ((Ext.fM go.out).trans (hs.out.trans (Ext.fM l0))) fun k hk e=>by have:=hX.out k hk;omega)
      clear bl bn hg hh hi hj R fo
      cases ly:pk v1 with
      | none =>
       rw [ly] at h1
       rw [h1.1] at ab
       unfold U.kV at ab
       simp only [Option.getD_none,Option.isSome_none] at ab
       have dv:=ae ly
       have bc:Hid (Below wl.heap.size wl (wl.alloc (.cells #[.int .u64 0,.slice none 0 0,.int .i64 0] 278))):=ae ((Below.rf wl).alloc (ah _) _)
       clear ly h1 N
       go_wp2
       refine aK (v := .tuple #[.pointer (some ⟨w.heap.size,0,none⟩),.int .u64 (v':Nat),.pointer (some ⟨q,0,none⟩),.nilIface]) (by simp [results,Tryz.results136,go_sem]) rfl ?_
       exact ds.out _ bc.out (.inl dv.out)
      | some y =>
       obtain ⟨bi,bD,os⟩:=y
       rw [ly] at h1
       obtain ⟨b1,mK,mU,ta,tn,tc,sv,mv,mk,mm⟩:=h1
       rw [mv] at ab
       rw [mk] at N
       have ht:=mk
       unfold U.kV at ab N
       simp only [bT,Option.isSome_some] at ab N
       obtain ⟨sa,ba,rfl⟩:=mm.shape
       have HO:=ae mm
       have dv:=ae ly
       have t6:Below wl.heap.size wl (wl.alloc (.cells #[.int .u64 (bi:Nat),.slice ta tn tc,.int .i64 (bD:Nat)] 278)):=(Below.rf wl).alloc (ah _) _
       have R6:=ae (fL wl (.cells #[.int .u64 (bi:Nat),.slice ta tn tc,.int .i64 (bD:Nat)] 278))
       have bc:=ae t6
       clear ly mv mk mm t6
       by_cases V:bi<st
       ·have bt:(bi:Int)<(st:Int):=by omega
        clear N
        go_wp2
        refine aK (v := .tuple #[.pointer (some ⟨w.heap.size,0,none⟩),.int .u64 (v':Nat),.pointer (some ⟨q,0,none⟩),.nilIface]) (by simp [results,Tryz.results136,go_sem]) rfl ?_
        exact ds.out _ bc.out (.inr ⟨_,_,_,dv.out,V⟩)
       ·have bt:¬(bi:Int)<(st:Int):=by omega
        clear N
        go_upto_region 33 with fail
        generalize wl.alloc (.cells #[.int .u64 (bi:Nat),.slice ta tn tc,.int .i64 (bD:Nat)] 278)=wA at *
        have N:=(show U.fS wA.drew (r1+1) L2 from bz.out.fW (bc.out.block _ bz.out.lt)).lookup (mt:=282) Tryz.underlying282 (yi _) v1
        rw [ht] at N
        unfold U.kV at N
        simp only [bT] at N
        go_still_tail 7,(by kernel_rfl)
        go_wp2_with fail
        refine (sK q 0 r T' v1 (.slice sa os.length ba) os wA.drew ⟨(s.out.below bc.out).cell,(s.out.below bc.out).tab.fW rfl⟩ ((HO.out.below bc.out).sliceAt.below ((Below.rf wA).drew)) (by omega)).mono ?_
        rintro e w2 ⟨rfl,fr,bk⟩
        have fB:r≠w.heap.size:=fun e=>by
         have hl:=I.out
         unfold LogAt at hl
         exact s.out.tab.jQ hl e.symm
        have kn:r<wl.heap.size:=s.out.tab.lt
        have R2:w2.heap[wl.heap.size]?=_:=(bk.block _ (show wl.heap.size<wA.drew.heap.size from fI R6.out) (fun e=>by omega)).trans R6.out
        have dT:Ext (fun i=>i=r) wl w2:=(Ext.fM bc.out).drew.trans bk
        have bv:LogAt w2 w.heap.size h ⟨gK H.seen,slot,nx⟩:=(dT.block _ (fI I.out) (fun e=>fB e.symm)).trans I.out
        have M:Hid (He wr J.heap.size r1 w.heap.size h q r (gK H.seen) slot s0 v0 p tb L1 L2 pk (.int .u64 (v1:Nat)) (.int .u64 (bi:Nat)) (w2.setCell ⟨w.heap.size,3,none⟩ (.int .i64 (bD:Nat)))):=ae (by
         have f0:Ext (fun i=>i=w.heap.size) w2 (w2.setCell ⟨w.heap.size,3,none⟩ (.int .i64 (bD:Nat))):=(Ext.refl (fun i=>i=w.heap.size) w2).setCell ⟨w.heap.size,3,none⟩ _ (.inl rfl)
         have d2:Ext (fun i=>i=w.heap.size∨i=r) wl (w2.setCell ⟨w.heap.size,3,none⟩ (.int .i64 (bD:Nat))):=(dT.mono fun _ => .inr).trans (f0.mono fun _ => .inl)
         have kk:=cu.out
         have h8:=c9.out
         have h9:=bI.out
         have lk:=ec.out
         have ll:=da.out
         refine ⟨j+1,bi,v1,bD,foldS T' os,rfl,rfl,b1,⟨f0.cell (p:=⟨q,0,none⟩) (show ¬q=w.heap.size from ca.out.2.2) (dT.cell (p:=⟨q,0,none⟩) s.out.ne s.out.cell),fr.fW (f0.block _ fr.lt fB)⟩,heap_setCell _ _ 3 _ bv,c2.out.fW (d2.block _ c2.out.lt (show ¬(r1=w.heap.size∨r1=r) by omega)),bz.out.fW (d2.block _ bz.out.lt (show ¬(r1+1=w.heap.size∨r1+1=r) by omega)),hn.out.frame d2 (fun i e=>by omega),?_,hp.out.trans d2⟩
         have hc:=zJ ho.out (by rw [←dp.out];exact dv.out) V
         rw [←dp.out] at hc
         exact hc)
        have x2:=af _ _ 2 _ _ _ R2
        have x0:=af _ _ 0 _ _ _ R2
        have k6:=fI R2
        unfold LogAt at bv
        have l3:=af _ _ 3 _ _ _ bv
        have z3:=ao _ _ 3 _ _ bv
        have eS:=fI bv
        have ko:=ae b1
        clear R2 dT bv fr bk ab N ht b1 mK mU fB kn
        go_wp2
        go_roundw
        case rel=>exact M.out
        case measure =>
         have h1:=dp.out
         have h2:=ko.out
         simp [intOf]
         omega
end Go.Proofs.YtkkfmkhbdoeglaaGreatDoor
