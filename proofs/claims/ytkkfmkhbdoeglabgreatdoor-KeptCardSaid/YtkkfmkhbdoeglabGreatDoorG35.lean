/- A part of what is proved here: lemmas and contracts of single functions. No condition but those that each names. -/
import Derived.Test.YtkkfmkhbdoeglabGreatDoorG00
import Derived.Conc.LoneCalls
import Derived.Conc.LoneSelect
import Derived.Test.YtkkfmkhbdoeglabGreatDoorG02
import Derived.Test.YtkkfmkhbdoeglabGreatDoorG14
import Derived.Test.YtkkfmkhbdoeglabGreatDoorG23
import Derived.Test.YtkkfmkhbdoeglabGreatDoorG26
import Derived.Test.YtkkfmkhbdoeglabGreatDoorG29
import Derived.Test.YtkkfmkhbdoeglabGreatDoorG32
import Derived.Test.YtkkfmkhbdoeglabGreatDoorG33
import Derived.Test.YtkkfmkhbdoeglabGreatDoorG34
set_option maxHeartbeats 4000000
set_option maxRecDepth 100000
namespace Go.Proofs.YtkkfmkhbdoeglabGreatDoor
open Go.RowKit
theorem OwnS.Jq {w:World} {base n cap:Nat} {a:Option Addr} {xs:List Value} (h:OwnS w base 1 (.slice a n cap) n xs) (k:Nat) (hk:k≤n):OwnS w base 1 (.slice a k cap) k (xs.take k):=by
 obtain ⟨hl,b | ⟨g,off,cap',e,h1,h2,h3,h4,h5,h6⟩⟩:=h
 ·obtain ⟨e,j⟩:=b
  cases e
  obtain rfl:k=0:=by omega
  exact ⟨by simp,.inl ⟨rfl,rfl⟩⟩
 ·cases e
  refine ⟨by rw [az];omega,.inr ⟨g,off,cap,rfl,h1,h2,by omega,h4,fun i d => ?_,h6⟩⟩
  rw [az] at d
  rw [h5 i (by omega),List.getElem_take]
theorem RowsAt.oC {w:World} {F:Nat→Prop} {a:Option Addr} {n cap:Nat} {rows:List (List UInt8)} (h:RowsAt w F (.slice a n cap) rows) (o:n=rows.length) (k:Nat) (hk:k≤n):RowsAt w F (.slice a k cap) (rows.take k):=by
 obtain ⟨vals,h1,h2,h3,h4⟩:=h
 rw [←o] at h1
 have l:(rows.take k).length=k:=by rw [az];omega
 have he:∀ b,(Value.slice a k cap).ownBlock=some b→(Value.slice a n cap).ownBlock=some b:=fun b d=>by cases a <;> simp [Value.ownBlock] at d⊢<;> exact d
 refine ⟨vals.take k,by rw [l];exact h1.Jq k hk,fun b d=>h2 b (he b d),fun b d=>h3 b (he b d),fun i b m => ?_⟩
 obtain ⟨j,q⟩:=aF.1 m
 rw [l] at j
 rw [bp j] at m
 obtain ⟨u,hu,hs⟩:=h4 i b m
 exact ⟨u,by rw [bp j];exact hu,hs⟩
def accS (d:List Part) (p:Nat):Nat→Nat×Nat×Nat×List E
 | 0=>(0,0,0,[])
 | 1=>mj decSB d p (0,0,0,[]) 0
 | _=>tP decSB d p []
def jH (d:List Part) (p k ver:Nat):Option (Nat×Nat×List OpB):=(List.range' (2*p) (k-2*p)).foldl (jx decDB d ver) none
theorem uB (d:List Part) (p k ver:Nat) (h:2*p≤k):jH d p (k+1) ver=jx decDB d ver (jH d p k ver) k:=by
 unfold jH
 rw [show k+1-2*p=(k-2*p)+1 by omega,List.range'_concat,di]
 simp only [eL,List.foldl_nil,Nat.one_mul]
 rw [show 2*p+(k-2*p)=k by omega]
def nh (w:World) (B:Nat) (b d:List (U.K×Value)) (j:Nat→Option (Nat×Nat×List OpB)):Prop :=
 ∀ ver,match j ver with
  | none=>U.nE ver b=none∧U.nE ver d=none
  | some (st,tt,os)=>ver<18446744073709551615∧tt≤1000∧os.length≤8∧∃ l m o i,U.nE ver b=some (.agg #[.int .u64 (st:Nat),.slice l m o,.int .i64 (tt:Nat)])∧U.nE ver d=some (.agg #[.int .u64 (ver:Nat),i])∧OwnS w B 4 i os.length (gx os)
theorem nh.frame {w w':World} {B:Nat} {i j:List (U.K×Value)} {d:Nat→Option (Nat×Nat×List OpB)} (h:nh w B i j d) {D:Nat→Prop} (l:Ext D w w') (q:∀ k,D k→k<B):nh w' B i j d:=fun ver=>by
 have h1:=h ver
 cases m:d ver with
 | none=>rw [m] at h1;exact h1
 | some r =>
  obtain ⟨st,tt,os⟩:=r
  rw [m] at h1
  obtain ⟨a1,a3,a4,s,u,x,y,a5,C,o⟩:=h1
  exact ⟨a1,a3,a4,s,u,x,y,a5,C,o.frame l.size fun b e E=>l.block b E fun hd=>by have:=o.gh b e;have:=q b hd;omega⟩
theorem Ay (a b c:Value) (w:World) (k:IntKind) (n:Int) (ha:a = .int k n):(Instr.field 316 (.agg #[a,b,c]) 0).run Tryz.prog w = .ok (.int k n) w:=by
 subst ha
 kernel_rfl
theorem yO:∀ u:World,(zeroValue 316).run Tryz.prog u = .ok (.agg #[.int .u64 0,.slice none 0 0,.int .i64 0]) u:=fun u=>by kernel_rfl
theorem yN:∀ u:World,(zeroValue 51).run Tryz.prog u = .ok (.agg #[.int .u64 0,.slice none 0 0]) u:=fun u=>by kernel_rfl
theorem Ee {d:List Part} {p k:Nat} (hk:k<2):accS d p (k+1)=mj decSB d p (accS d p k) k:=by
 match k,hk with
 | 0,_=>rfl
 | 1,_=>rfl
theorem yB (d:List Part) (p:Nat) (acc:Nat×Nat×Nat×List E) (s:Nat) (h:acc.2.2.1<18446744073709551615):(mj decSB d p acc s).2.2.1<18446744073709551615:=by
 unfold mj
 split
 ·split
  ·split
   ·rename_i v t hd
    unfold decSB at hd
    split at hd
    ·rename_i r b
     cases hd
     exact ki (om b).1
    ·cases hd
   ·exact h
  ·exact h
 ·exact h
theorem Dq (d:List Part) (p:Nat):(tP decSB d p []).2.2.1<18446744073709551615:=yB d p _ 1 (yB d p _ 0 (by decide))
def Ii (wr:World) (B r1 lg h q r ms slot s v0 p:Nat) (u:List E) (l m:List (U.K×Value)) (d:Nat→Option (Nat×Nat×List OpB)) (vv nv:Value) (b:World):Prop :=
 ∃ j st v' o T',vv = .int .u64 (v':Nat)∧nv = .int .u64 (st:Nat)∧v'<18446744073709551615∧EntAt b q 0 r T'∧LogAt b lg h ⟨ms,slot,o⟩∧U.fY b r1 l∧U.fY b (r1+1) m∧nh b B l m d∧(∀ f,kA foldS d (f+j) s v0 u (2*p)=kA foldS d f st v' T' o)∧Ext (fun i=>i=lg∨i=r) wr b
theorem Ah {b:Nat→Option (Nat×Nat×List OpB)} {l v0 j st v q d i:Nat} {m T:List E} {os:List OpB} {o:Nat} (h:∀ f,kA foldS b (f+j) l v0 m o=kA foldS b f st v T q) (r:b (v+1)=some (d,i,os)) (hs:¬d<st) :
  ∀ f,kA foldS b (f+(j+1)) l v0 m o=kA foldS b f d (v+1) (foldS T os) i:=fun f=>by
 rw [show f+(j+1)=(f+1)+j by omega,h (f+1)]
 conv=>lhs;unfold kA
 simp only [r]
 rw [au hs]
theorem Cf {d:Nat→Option (Nat×Nat×List OpB)} {l v0 j st v m:Nat} {q T:List E} {r:Nat} (h:∀ f,kA foldS d (f+j) l v0 q r=kA foldS d f st v T m) (i:d (v+1)=none∨∃ a b o,d (v+1)=some (a,b,o)∧a<st) (N:Nat):kA foldS d (N+1+j) l v0 q r=(v,T,m):=by
 rw [h (N+1)]
 conv=>lhs;unfold kA
 rcases i with i | ⟨a,b,o,i,hs⟩
 ·simp only [i]
 ·simp only [i]
  rw [aD hs]
theorem Gn (h:Nat) (F:Nat→Prop) (H:fP) (B:Nat) (w:World) (s:HostAt w F h H) (d:HostOk H B) (f:Nat) (D:(readAll H).2=some f) :
  Calls Tryz.prog 173 #[.iface 217 (.agg #[.pointer (some ⟨h,0,none⟩)])] w fun e w'=>∃ v,e = .returned (.tuple #[.pointer none,.int .u64 0,.pointer none,v])∧kL w w' v f∧HostAt w' F h (readAll H).1∧Ext F w w':=by
 have b:Below w.heap.size w (w.alloc (.cells #[.iface 217 (.agg #[.pointer (some ⟨h,0,none⟩)]),.int .u64 0,.int .i64 0,.int .i64 0] 305)):=(Below.rf w).alloc (af _) _
 have hl:LogAt (w.alloc (.cells #[.iface 217 (.agg #[.pointer (some ⟨h,0,none⟩)]),.int .u64 0,.int .i64 0,.int .i64 0] 305)) w.heap.size h ⟨0,0,0⟩:=fR w _
 have u:¬F w.heap.size:=fun e=>by have:=s.lt _ e;omega
 have j:=ab (wJ w.heap.size h F H ⟨0,0,0⟩ B _ hl (s.below b) d u)
 have l:=ab b
 clear s d b hl
 go_enter Tryz.func173,Tryz.ntmps173
 go_wp2_with fail
 refine j.out.mono ?_
 rintro e w2 ⟨m,o,q⟩
 rw [D] at q
 obtain ⟨v,rfl,r⟩:=q
 have x:=ab r
 obtain ⟨E,rfl,-,-⟩:=r
 have y:=ab m
 have C:=ab o
 clear m o j
 go_wp2
 refine aI (v := .tuple #[.pointer none,.int .u64 0,.pointer none,.iface 188 (.pointer (some ⟨E,0,none⟩))]) (by simp [results,Tryz.results173,go_sem]) rfl ?_
 exact ⟨_,rfl,x.out.mono l.out.size,y.out,(Ext.fT l.out).trans' C.out fun i e=>e.imp id fun e=>by rw [e];exact af _⟩
structure uV (w3:World) (B lg h st0 p:Nat) (d:List Part) (k q r:Nat) (vv tv nv:Value) (wr:World):Prop where
 nv:nv = .int .u64 ((accS d p k).1:Nat)
 vv:vv = .int .u64 ((accS d p k).2.2.1:Nat)
 tv:tv = .pointer (some ⟨q,0,none⟩)
 ent:EntAt wr q 0 r (accS d p k).2.2.2
 qr:B≤q∧B≤r∧q≠lg
 log:LogAt wr lg h ⟨st0,(accS d p k).2.1,0⟩
 ext:Ext (fun j=>j=lg) w3 wr
theorem EW (h:Nat) (F:Nat→Prop) (H:fP) (B:Nat) (w:World) (l1:HostAt w F h H) (c4:HostOk H B) (md:ShapesVar w) (hR:∀ k,F k→2≤k) (slot v next:Nat) (T:List E) (hinv:DiskInv decSB decDB foldS [] (H.seen.map parseSec) (placeOf H.seen.length) slot v T next) (mp:(readAll H).2=none) :
  Calls Tryz.prog 173 #[.iface 217 (.agg #[.pointer (some ⟨h,0,none⟩)])] w fun e w'=>∃ lg q r,e = .returned (.tuple #[.pointer (some ⟨lg,0,none⟩),.int .u64 (v:Nat),.pointer (some ⟨q,0,none⟩),.nilIface])∧LogAt w' lg h ⟨gO H.seen,slot,next⟩∧EntAt w' q 0 r T∧w.heap.size≤lg∧w.heap.size≤q∧w.heap.size≤r∧q≠lg∧HostAt w' F h (readAll H).1∧Ext F w w':=by
 obtain ⟨n,l0⟩:∃ n,n=H.seen.length:=⟨_,rfl⟩
 have b2:=c4.n
 rw [←l0] at b2 hinv
 have hS:=jq b2.1 b2.2
 obtain ⟨d,hd⟩:∃ d,d=H.seen.map parseSec:=⟨_,rfl⟩
 rw [←hd] at hinv
 have hT:d.length=n:=by rw [hd,aG,l0]
 obtain ⟨p,lw⟩:∃ p,p=placeOf n:=⟨_,rfl⟩
 rw [←lw] at hS hinv
 have d8:=ab hinv
 have HD:=ab hd
 have HN:=ab l0
 have HP:=ab lw
 have d9:Below w.heap.size w (w.alloc (.cells #[.iface 217 (.agg #[.pointer (some ⟨h,0,none⟩)]),.int .u64 0,.int .i64 0,.int .i64 0] 305)):=(Below.rf w).alloc (af _) _
 have hl:LogAt (w.alloc (.cells #[.iface 217 (.agg #[.pointer (some ⟨h,0,none⟩)]),.int .u64 0,.int .i64 0,.int .i64 0] 305)) w.heap.size h ⟨0,0,0⟩:=fR w _
 have ea:¬F w.heap.size:=fun e=>by have:=l1.lt _ e;omega
 have k5:=ab ea
 have hU:=ab l1.lt
 have f9:=ab (wJ w.heap.size h F H ⟨0,0,0⟩ B _ hl (l1.below d9) c4 ea)
 have cq:=ab c4.s64
 have hV:=ab d9
 have HG:=ab md
 clear l1 c4 d9 hl md hinv hd lw ea
 go_enter Tryz.func173,Tryz.ntmps173
 go_wp2_with fail
 have b3:(w.alloc (.cells #[.iface 217 (.agg #[.pointer (some ⟨h,0,none⟩)]),.int .u64 0,.int .i64 0,.int .i64 0] 305)).heap.size=w.heap.size+1:=aw _ _
 refine f9.out.mono ?_
 rintro e w2 ⟨ga,bk,gb⟩
 rw [mp] at gb
 obtain ⟨av,rfl,bS,c5⟩:=gb
 have hX:=ab ga
 have hY:=ab ((Ext.fT hV.out).trans' bk (T:=fun i=>F i∨i=w.heap.size) fun i e=>e.imp id fun e=>by rw [e];exact af _:Ext F w w2)
 have bI:Hid (w.heap.size+1≤w2.heap.size):=ab (by have:=bk.size;rw [b3] at this;exact this)
 have gc:=ab bS
 have eb:=ab c5
 obtain ⟨l4,cr,rfl,hZ,-⟩:=bS.get
 rw [←l0] at hZ⊢
 clear ga bk bS c5 f9 b3 l0
 go_wp2_with fail
 refine (yx n w2 b2.1 b2.2).mono ?_
 rintro e w3 ⟨rfl,rfl⟩
 rw [←HP.out]
 go_wp2_with fail
 refine (mM w3).mono ?_
 rintro e w4 ⟨rfl,ge,c6,gf⟩
 have h0:=ab ge
 have gg:=ab c6
 have h7:Hid (LogAt w4 w.heap.size h ⟨gO H.seen,0,0⟩):=ab (by
  have h1:=fQ c6 (fO eb.out) eb.out
  have e:jT ⟨0,0,0⟩ H.seen H.seen.length=gO H.seen:=by unfold jT;rw [bC];exact Nat.zero_max _
  rw [e] at h1
  exact h1)
 have gl:Hid (∀ W,Ext (fun j=>j=w.heap.size) w4 W→RowsAt W (fun j=>w.heap.size+1≤j∧j<w3.heap.size) (.slice l4 n cr) H.seen):=ab (fun W hW=>by
  have mk:=gc.out
  rw [aw] at mk
  rw [HN.out]
  have G:Ext (fun j=>j=w.heap.size) w3 W:=(Ext.fT gg.out).trans hW
  exact mk.gr G.size fun k C t fz hk _ hF=>G.block k (fO hk) fun e'=>by
   have k6:w.heap.size+1≤k∧_:=hF
   omega)
 have ec:Hid (w3.heap.size+2=w4.heap.size):=ab gf.symm
 have gn:Hid (Ext F w w4):=ab (hY.out.trans (Ext.fT c6))
 have go:Hid (∀ W,Ext (fun j=>j=w.heap.size) w4 W→ShapesVar W):=ab (fun W hW=>by
  have h2:=HG.out.two
  have G:Ext (fun j=>F j∨j=w.heap.size) w W:=(gn.out.mono fun k => .inl).trans (hW.mono fun k => .inr)
  refine HG.out.gr G.size (G.block _ (by omega) fun e => ?_)
  rcases e with e | e
  ·have:=hR _ e
   omega
  ·omega)
 clear ge c6 gf gc eb
 go_wp2_with fail
 go_loopw [10,11,12,43] (fun vv tv nv i wr=>∃ k q r:Nat,k≤2∧i = .int .i64 (k:Int)∧uV w4 w.heap.size w.heap.size h (gO H.seen) p d k q r vv tv nv wr) (fun _ _ _ i _=>2-(intOf i).toNat)
 case atStart=>exact ⟨0,w3.heap.size+1,w3.heap.size,by omega,rfl,⟨rfl,rfl,rfl,h0.out,⟨by have:=bI.out;omega,by have:=bI.out;omega,by have:=bI.out;omega⟩,h7.out,Ext.refl _ _⟩⟩
 case round =>
  obtain ⟨k,q,r,hk,rfl,hrel⟩:=hrel
  obtain ⟨rfl,rfl,rfl,bl,gp,bn,R⟩:=hrel
  have s:=ab bl
  have c7:=ab gp
  have I:=ab bn
  have bc:=ab R
  clear bl gp bn R
  by_cases Y:k<2
  ·have ht:(k:Int)<2:=by omega
   have gq:Hid (k*p≤100):=ab (by
    obtain rfl | rfl:k=0∨k=1:=by omega
    ·omega
    ·omega)
   have io:Hid (wrap64 ((k:Int)*(p:Int))=((k*p:Nat):Int)):=ab (by
    rw [←Int.natCast_mul]
    have:=gq.out
    generalize k*p=m at *
    exact IntWalk.wrap64_in (m:Int) (by omega))
   have hu:p≤37:=by omega
   have b4:Hid (RowsAt wr (fun j=>w.heap.size+1≤j∧j<w3.heap.size) (.slice l4 (2*p) cr) (H.seen.take (2*p))):=ab ((gl.out wr bc.out).oC HN.out (2*p) (by omega))
   have gs:Hid ((H.seen.take (2*p)).map parseSec=d.take (2*p)):=ab (by rw [HD.out,List.map_take])
   have gt:Hid (∀ b∈H.seen.take (2*p),b.length=64):=ab fun b ly=>cq.out b (cZ ly)
   have ed:Hid ((H.seen.take (2*p)).length≤1000):=ab (by rw [az,←HN.out];omega)
   have eg:=ab (Ee (d:=d) (p:=p) Y)
   go_wp2_with fail
   rw [io.out]
   refine (yK _ _ (H.seen.take (2*p)) (k*p) wr b4.out gt.out ed.out (by have:=gq.out;omega)).mono ?_
   rintro e w5 ⟨bL,st,tt,ms,data,rfl,bo,br,bs⟩
   rw [gs.out] at bs⊢
   obtain ⟨lx,u,rfl,-,-⟩:=bo.opened
   have t6:Below w5.heap.size w5 (w5.alloc (.cells #[.int .u64 (st:Nat),.slice lx data.length u,.int .i64 (tt:Nat)] 316)):=(Below.rf w5).alloc (af _) _
   have R6:=ab (fR w5 (.cells #[.int .u64 (st:Nat),.slice lx data.length u,.int .i64 (tt:Nat)] 316))
   have Z:=ab (bL.tn t6)
   have ej:=ab (bo.below t6)
   have el:=ab (fun b (e:(Value.slice lx data.length u).ownBlock=some b)=>aC (br b e).2 t6.size)
   have em:=ab bs
   clear bL bo br bs t6 b4
   go_upto_region 13 with fail
   generalize w5.alloc (.cells #[.int .u64 (st:Nat),.slice lx data.length u,.int .i64 (tt:Nat)] 316)=w6 at *
   have O:Hid (accS d p (k+1)=accS d p k→uV w4 w.heap.size w.heap.size h (gO H.seen) p d (k+1) q r (.int .u64 ((accS d p k).2.2.1:Nat)) (.pointer (some ⟨q,0,none⟩)) (.int .u64 ((accS d p k).1:Nat)) w6):=ab (fun e=>⟨by rw [e],by rw [e],rfl,by rw [e];exact s.out.below Z.out,c7.out,by rw [e];exact fQ Z.out (fO I.out) I.out,bc.out.trans (Ext.fT Z.out)⟩)
   have x0:=ae _ _ 0 _ _ _ R6.out
   have x1:=ae _ _ 1 _ _ _ R6.out
   have c8:=fO R6.out
   obtain ⟨nw,en⟩:∃ nw,nw=(accS d p k).1:=⟨_,rfl⟩
   have gu:=ab en
   rw [←en] at O⊢
   clear en
   cases X:iZ (d.take (2*p)) (k*p) with
   | none =>
    have M:=ab (O.out (by rw [eg.out];unfold mj;rw [X]))
    clear X
    go_wp2
    go_roundw
    case rel=>exact ⟨k+1,q,r,by omega,by go_num,M.out⟩
    case measure=>simp [intOf];omega
   | some x =>
    have G:=em.out x X
    by_cases V:nw<st
    ·have bt:(nw:Int)<(st:Int):=by omega
     have er:Hid (data.length≤gF):=ab (by
      obtain ⟨m,-,-,b5,am,-⟩:=jk.1 X
      have Y:=(jk.1 X).lt.2
      rw [G] at b5 am
      have hm:m≤300:=by
       rw [G] at Y
       have bv:(d.take (2*p)).length≤n:=by rw [az];omega
       simp only at b5 Y
       omega
      have:=tp gt.out (at':=k*p) hm
      rw [gs.out] at this
      simp only at am
      rw [am]
      unfold gF
      omega)
     have gv:Hid (accS d p (k+1)=match decSB data with
      | some (v,t)=>(st,k,v,t)
      | none=>accS d p k):=ab (by rw [eg.out];unfold mj;rw [X,G];simp only;rw [aD (by rw [←gu.out];exact V)];cases decSB data <;> rfl)
     clear X G V
     go_wp2_with fail
     refine (q7 (.slice lx data.length u) data w6 ej.out el.out er.out (go.out w6 (bc.out.trans (Ext.fT Z.out)))).mono ?_
     rintro e w7 ⟨Q,a0⟩
     have b6:=ab (Z.out.tn Q)
     have R7:=ab (fQ Q c8 R6.out)
     cases l:iG data with
     | inr f =>
      obtain ⟨mv,fp⟩:=f
      rw [l] at a0
      obtain ⟨ev,rfl,g,rfl,-,-⟩:=a0
      have M:Hid (uV w4 w.heap.size w.heap.size h (gO H.seen) p d (k+1) q r (.int .u64 ((accS d p k).2.2.1:Nat)) (.pointer (some ⟨q,0,none⟩)) (.int .u64 (nw:Nat)) w7):=ab (by
       have e:accS d p (k+1)=accS d p k:=by rw [gv.out];unfold decSB;rw [l]
       obtain ⟨a1,a2,a3,a4,a5,a6,mA⟩:=O.out e
       exact ⟨a1,a2,a3,a4.below Q,a5,fQ Q (fO a6) a6,mA.trans (Ext.fT Q)⟩)
      clear Q l
      go_wp2
      go_roundw
      case rel=>exact ⟨k+1,q,r,by omega,by go_num,M.out⟩
      case measure=>simp [intOf];omega
     | inl y =>
      obtain ⟨vn,S⟩:=y
      rw [l] at a0
      obtain ⟨r',rfl,gz,g0⟩:=a0
      have eD:=ab gz
      have i0:=ab g0
      have g1:=ab (show LogAt w7 w.heap.size h ⟨gO H.seen,(accS d p k).2.1,0⟩ from fQ b6.out (fO I.out) I.out)
      have b7:=g1.out
      unfold LogAt at b7
      have l2:=ae _ _ 2 _ _ _ b7
      have z2:=aj _ _ 2 _ _ b7
      have eS:=fO b7
      have y0:=ae _ _ 0 _ _ _ R7.out
      have kw:=fO R7.out
      have c9:Hid (accS d p (k+1)=(st,k,vn,S)):=ab (by rw [gv.out];unfold decSB;rw [l])
      have M:Hid (uV w4 w.heap.size w.heap.size h (gO H.seen) p d (k+1) (r'+1) r' (.int .u64 (vn:Nat)) (.pointer (some ⟨r'+1,0,none⟩)) (.int .u64 (st:Nat)) (w7.setCell ⟨w.heap.size,2,none⟩ (.int .i64 (k:Int)))):=ab (by
       have G:Ext (fun j=>j=w.heap.size) w7 (w7.setCell ⟨w.heap.size,2,none⟩ (.int .i64 (k:Int))):=(Ext.refl (fun j=>j=w.heap.size) w7).setCell ⟨w.heap.size,2,none⟩ _ (.inl rfl)
       have h4:=bc.out.size
       have h6:=Z.out.size
       have h2:=bI.out
       have h3:=ec.out
       have h8:=i0.out
       refine ⟨by rw [c9.out],by rw [c9.out],rfl,by rw [c9.out];exact ⟨G.cell (p:=⟨r'+1,0,none⟩) (fun e:r'+1=w.heap.size=>by omega) eD.out.cell,eD.out.tab.gr (G.block _ eD.out.tab.lt (fun e:r'=w.heap.size=>by omega))⟩,⟨by omega,by omega,by omega⟩,by rw [c9.out];exact heap_setCell _ _ 2 _ g1.out,(bc.out.trans (Ext.fT b6.out)).trans G⟩)
      clear gz g0 b7 Q l
      go_wp2
      go_roundw
      case rel=>exact ⟨k+1,r'+1,r',by omega,by go_num,M.out⟩
      case measure=>simp [intOf];omega
    ·have bt:¬(nw:Int)<(st:Int):=by omega
     have M:=ab (O.out (by rw [eg.out];unfold mj;rw [X,G];simp only;rw [au (by rw [←gu.out];exact V)]))
     clear X G V
     go_wp2
     go_roundw
     case rel=>exact ⟨k+1,q,r,by omega,by go_num,M.out⟩
     case measure=>simp [intOf];omega
  ·obtain rfl:k=2:=by omega
   obtain ⟨s0,v0,tb,f1,f2⟩:=d8.out.found
   have eT:accS d p 2=(s0,slot,v0,tb):=f1
   rw [eT] at s I⊢
   have g2:=ab f2
   have i1:Hid (v0<18446744073709551615):=ab (by
    have h:=Dq d p
    rw [f1] at h
    exact h)
   have i2:¬((2:Nat):Int)<2:=by omega
   clear f1 f2 eT
   simp only at s I⊢
   have b8:=I.out
   unfold LogAt at b8
   have l3:=ae _ _ 3 _ _ _ b8
   have z3:=aj _ _ 3 _ _ b8
   have eS:=fO b8
   have hu:p≤37:=by omega
   have i4 := @run_makeMap Tryz.prog
   clear b8
   have eV:Hid (∀ W,W=((wr.setCell ⟨w.heap.size,3,none⟩ (.int .i64 (2*(p:Int)))).alloc (.map #[] 0)).alloc (.map #[] 0)→LogAt W w.heap.size h ⟨gO H.seen,slot,2*p⟩∧EntAt W q 0 r tb∧U.fY W wr.heap.size []∧U.fY W (wr.heap.size+1) []∧W.heap.size=wr.heap.size+2∧Ext (fun j=>j=w.heap.size) w4 W):=ab (by
    rintro W rfl
    have G:Ext (fun j=>j=w.heap.size) wr (wr.setCell ⟨w.heap.size,3,none⟩ (.int .i64 (2*(p:Int)))):=(Ext.refl (fun j=>j=w.heap.size) wr).setCell ⟨w.heap.size,3,none⟩ _ (.inl rfl)
    have i5:q≠w.heap.size:=c7.out.2.2
    have i6:r≠w.heap.size:=fun e=>by
     have hl:=I.out
     unfold LogAt at hl
     exact s.out.tab.jZ hl e.symm
    have he:EntAt (wr.setCell ⟨w.heap.size,3,none⟩ (.int .i64 (2*(p:Int)))) q 0 r tb:=⟨G.cell (p:=⟨q,0,none⟩) i5 s.out.cell,s.out.tab.gr (G.block _ s.out.tab.lt i6)⟩
    have ly:Below (wr.setCell ⟨w.heap.size,3,none⟩ (.int .i64 (2*(p:Int)))).heap.size (wr.setCell ⟨w.heap.size,3,none⟩ (.int .i64 (2*(p:Int)))) (((wr.setCell ⟨w.heap.size,3,none⟩ (.int .i64 (2*(p:Int)))).alloc (.map #[] 0)).alloc (.map #[] 0)):=Below.al (Below.al (Below.rf _) _) _
    have e0:=heap_setCell _ _ 3 (.int .i64 (2*(p:Int))) I.out
    have m1:=U.fY.new (wr.setCell ⟨w.heap.size,3,none⟩ (.int .i64 (2*(p:Int))))
    have m2:=U.fY.new ((wr.setCell ⟨w.heap.size,3,none⟩ (.int .i64 (2*(p:Int)))).alloc (.map #[] 0))
    rw [size_setCell] at m1
    rw [aw,size_setCell] at m2
    refine ⟨?_,he.below ly,m1.gr (heap_alloc_old _ _ m1.lt),m2,by rw [aw,aw,size_setCell],(bc.out.trans G).trans (Ext.fT ly)⟩
    have h9:=fQ ly (fO e0) e0
    rw [show (2:Int)*(p:Int)=((2*p:Nat):Int) by omega] at h9⊢
    exact h9)
   go_upto_region 22 with fail
   generalize hw:((wr.setCell ⟨w.heap.size,3,none⟩ (.int .i64 (2*(p:Int)))).alloc (.map #[] 0)).alloc (.map #[] 0)=J at *
   obtain ⟨e1,cu,e2,e3,cv,hx⟩:Hid (LogAt J w.heap.size h ⟨gO H.seen,slot,2*p⟩)∧Hid (EntAt J q 0 r tb)∧Hid (U.fY J wr.heap.size [])∧Hid (U.fY J (wr.heap.size+1) [])∧Hid (J.heap.size=wr.heap.size+2)∧Hid (Ext (fun j=>j=w.heap.size) w4 J):=by
    obtain ⟨a1,a2,a3,a4,a5,a6⟩:=eV.out J rfl
    exact ⟨ab a1,ab a2,ab a3,ab a4,ab a5,ab a6⟩
   have da:Hid (w4.heap.size≤wr.heap.size):=ab bc.out.size
   have ca:=c7
   have dc:Hid (q<wr.heap.size∧r<wr.heap.size):=ab ⟨s.out.lt,s.out.tab.lt⟩
   clear eV hw s I l3 z3 eS i4 bc c7
   obtain ⟨r1,e4⟩:∃ r1,r1=wr.heap.size:=⟨_,rfl⟩
   have k7:=ab e4
   rw [←e4] at e2 e3 cv da dc⊢
   clear e4
   go_loopw [21] (fun i wx=>∃ (k:Nat) (L1 L2:List (U.K×Value)),2*p≤k∧k≤n∧i = .int .i64 (k:Int)∧U.fY wx r1 L1∧U.fY wx (r1+1) L2∧nh wx J.heap.size L1 L2 (jH d p k)∧Ext (fun j=>j=r1∨j=r1+1) J wx) (fun i _=>n-(intOf i).toNat)
   case atStart=>exact ⟨2*p,[],[],af _,by omega,by simp,e2.out,e3.out,(fun ver=>by unfold jH;rw [ef];exact ⟨rfl,rfl⟩),Ext.refl _ _⟩
   case round =>
    obtain ⟨k,L1,L2,g3,hk,rfl,bM,cb,ce,R⟩:=hrel
    have e5:Hid (Ext (fun j=>j=w.heap.size) w4 wr):=ab (hx.out.trans' R fun i e => .inr (by have:=da.out;rcases e with e | e <;> omega))
    have bN:=ab bM
    have bO:=ab cb
    have ci:=ab ce
    have bP:=ab R
    clear bM cb ce R
    by_cases Y:k<n
    ·have ht:(k:Int)<(n:Int):=by omega
     have b4:Hid (RowsAt wr (fun j=>w.heap.size+1≤j∧j<w3.heap.size) (.slice l4 n cr) H.seen):=ab (gl.out wr e5.out)
     have ed:Hid (H.seen.length≤1000):=ab (by rw [←HN.out];omega)
     go_wp2_with fail
     refine (yK _ _ H.seen k wr b4.out cq.out ed.out (by omega)).mono ?_
     rintro e w5 ⟨bL,st,tt,ms,data,rfl,bo,br,bs⟩
     rw [←HD.out] at bs⊢
     obtain ⟨lx,u,rfl,-,-⟩:=bo.opened
     have t6:Below w5.heap.size w5 (w5.alloc (.cells #[.int .u64 (st:Nat),.slice lx data.length u,.int .i64 (tt:Nat)] 316)):=(Below.rf w5).alloc (af _) _
     have R6:=ab (fR w5 (.cells #[.int .u64 (st:Nat),.slice lx data.length u,.int .i64 (tt:Nat)] 316))
     have Z:=ab (bL.tn t6)
     have ej:=ab (bo.below t6)
     have el:=ab (fun b (e:(Value.slice lx data.length u).ownBlock=some b)=>aC (br b e).2 t6.size)
     have em:=ab bs
     have i7:=ab bL
     clear bL bo br bs t6 b4
     go_upto_region 25 with fail
     generalize w5.alloc (.cells #[.int .u64 (st:Nat),.slice lx data.length u,.int .i64 (tt:Nat)] 316)=w6 at *
     have O:Hid (∀ W,Below wr.heap.size wr W→(∀ ver,jH d p (k+1) ver=jH d p k ver)→∃ (k':Nat) (L1 L2:List (U.K×Value)),2*p≤k'∧k'≤n∧Value.int .i64 ((k:Int)+1) = .int .i64 (k':Int)∧U.fY W r1 L1∧U.fY W (r1+1) L2∧nh W J.heap.size L1 L2 (jH d p k')∧Ext (fun j=>j=r1∨j=r1+1) J W):=ab (fun W hW lw=>by
      refine ⟨k+1,L1,L2,by omega,by omega,by simp,bN.out.gr (hW.block _ bN.out.lt),bO.out.gr (hW.block _ bO.out.lt),?_,bP.out.trans (Ext.fT hW)⟩
      rw [show jH d p (k+1)=jH d p k from funext lw]
      exact nh.frame ci.out (D:=fun _=>False) (Ext.fT hW) fun _ h=>h.elim)
     have x0:=ae _ _ 0 _ _ _ R6.out
     have x1:=ae _ _ 1 _ _ _ R6.out
     have x2:=ae _ _ 2 _ _ _ R6.out
     have c8:=fO R6.out
     cases X:iZ d k with
     | none =>
      have M:=ab (O.out w6 Z.out (fun ver=>by rw [uB d p k ver g3];unfold jx;rw [X]))
      clear X
      go_wp2
      go_roundw
      case rel=>exact M.out
      case measure=>simp [intOf];omega
     | some x =>
      have G:=em.out x X
      have er:Hid (data.length≤gF):=ab (by
       obtain ⟨m,-,-,b5,am,-⟩:=jk.1 X
       have Y:=(jk.1 X).lt.2
       rw [G] at b5 am
       have hm:m≤300:=by
        rw [G] at Y
        simp only at b5 Y
        omega
       have:=tp cq.out (at':=k) hm
       rw [←HD.out] at this
       simp only at am
       rw [am]
       unfold gF
       omega)
      have i9:Hid (tt≤1000):=ab (by
       have Y:=(jk.1 X).lt.2
       rw [G] at Y
       simp only at Y
       omega)
      have e6:Hid (∀ ver,jH d p (k+1) ver=match decDB data with
       | some (v,o)=>if v=ver∧((jH d p k ver).elim 0 (·.1))<st then some (st,tt,o) else jH d p k ver
       | none=>jH d p k ver):=ab (fun ver=>by
        rw [uB d p k ver g3]
        unfold jx
        rw [X,G]
        simp only
        cases decDB data <;> rfl)
      clear X G
      go_wp2_with fail
      refine (vq (.slice lx data.length u) data w6 ej.out el.out er.out (go.out w6 (e5.out.trans (Ext.fT Z.out)))).mono ?_
      rintro e w7 ⟨Q,a0⟩
      have b6:=ab (Z.out.tn Q)
      have R7:=ab (fQ Q c8 R6.out)
      have hy:Hid (w6.heap.size≤w7.heap.size):=ab Q.size
      cases l:pt data with
      | inr f =>
       obtain ⟨mv,fp⟩:=f
       rw [l] at a0
       obtain ⟨ev,rfl,g,rfl,-,-⟩:=a0
       have M:=ab (O.out (w7.alloc (.cells #[.int .u64 0,.slice none 0 0] 51)) (b6.out.tn ((Below.rf w7).alloc (af _) _)) (fun ver=>by rw [e6.out];unfold decDB;rw [l]))
       clear Q l
       go_wp2
       go_roundw
       case rel=>exact M.out
       case measure=>simp [intOf];omega
      | inl y =>
       obtain ⟨vn,os⟩:=y
       rw [l] at a0
       obtain ⟨sv,rfl,b0⟩:=a0
       obtain ⟨sa,bb,rfl⟩:=b0.shape
       have e7:=l
       rw [nN] at e7
       have cl:=(uZ _ _ _ e7).1
       have g4:Hid (vn<18446744073709551615∧os.length≤8):=ab (by
        refine ⟨?_,(o9 cl).1⟩
        unfold gK at cl
        split at cl
        ·cases cl
        ·rename_i hv
         exact ki (by simpa using hv))
       have g5:Hid (decDB data=some (vn,os)):=ab (vP l)
       have t8:Below w7.heap.size w7 (w7.alloc (.cells #[.int .u64 (vn:Nat),.slice sa os.length bb] 51)):=(Below.rf w7).alloc (af _) _
       have D8:=ab (fR w7 (.cells #[.int .u64 (vn:Nat),.slice sa os.length bb] 51))
       have co:=ab (b6.out.tn t8)
       have R8:=ab (fQ t8 (fO R7.out) R7.out)
       have g6:=ab ((b0.mono (show J.heap.size≤w6.heap.size from aH bP.out.size Z.out.size)).below t8)
       clear e7 cl b0 Q t8 l
       go_upto_region 27 with fail
       generalize w7.alloc (.cells #[.int .u64 (vn:Nat),.slice sa os.length bb] 51)=w8 at *
       have cB:Hid (U.fY w8 r1 L1):=ab (bN.out.gr (co.out.block _ bN.out.lt))
       have c0:Hid (U.fY w8 (r1+1) L2):=ab (bO.out.gr (co.out.block _ bO.out.lt))
       obtain ⟨cur,c1⟩:∃ cur,cur=(jH d p k vn).elim 0 (·.1):=⟨_,rfl⟩
       have g7:=ab c1
       have hz:∃ e9 fa,(U.nE vn L1).getD (.agg #[.int .u64 0,.slice none 0 0,.int .i64 0]) = .agg #[.int .u64 (cur:Nat),e9,fa]:=by
        have h1:=ci.out vn
        rw [c1]
        cases lw:jH d p k vn with
        | none=>rw [lw] at h1;rw [h1.1];exact ⟨_,_,rfl⟩
        | some y =>
         obtain ⟨s',t',o'⟩:=y
         rw [lw] at h1
         obtain ⟨-,-,-,k8,la,lb,lc,a5,-⟩:=h1
         rw [a5]
         exact ⟨_,_,rfl⟩
       obtain ⟨e9,fa,fb⟩:=hz
       have ag:=cB.out.lookup (mt:=319) Tryz.underlying319 (yO w8) vn
       rw [fb] at ag
       unfold U.kV at ag
       have hA:=fun w=>Ay (.int .u64 (cur:Nat)) e9 fa w .u64 (cur:Nat) rfl
       have y0:=ae _ _ 0 _ _ _ R8.out
       have y1:=ae _ _ 1 _ _ _ R8.out
       have y2:=ae _ _ 2 _ _ _ R8.out
       have d0:=ae _ _ 0 _ _ _ D8.out
       have d1:=ae _ _ 1 _ _ _ D8.out
       have jp:=fO R8.out
       have j0:=fO D8.out
       clear c1 fb x0 x1 x2 c8
       by_cases V:cur<st
       ·have bt:(cur:Int)<(st:Int):=by omega
        have cp:Hid (∀ ver,jH d p (k+1) ver=if ver=vn then some (st,tt,os) else jH d p k ver):=ab (fun ver=>by
         rw [e6.out,g5.out]
         simp only
         by_cases e:ver=vn
         ·subst e
          rw [aD ⟨rfl,by rw [←g7.out];exact V⟩,aD rfl]
         ·rw [au (fun h=>e h.1.symm),au e])
        go_upto_region 28 with fail
        have hB:r1<wr.heap.size∧r1+1<wr.heap.size:=⟨bN.out.lt,bO.out.lt⟩
        have h5:=i7.out.size
        have j1:=hy.out
        have j2:w5.heap.size<w6.heap.size:=fO R6.out
        obtain ⟨W1,dk,bM,a7,b3⟩:=cB.out.update (mt:=319) Tryz.underlying319 vn (.agg #[.int .u64 (st:Nat),.slice lx data.length u,.int .i64 (tt:Nat)])
        obtain ⟨W2,dl,cb,bx,g8⟩:=(c0.out.gr (w':=W1) (a7.block _ c0.out.lt (fun e=>by cases e))).update (mt:=320) Tryz.underlying320 vn (.agg #[.int .u64 (vn:Nat),.slice sa os.length bb])
        have j3:W1.heap[w5.heap.size]?=_:=(a7.block _ jp (fun e=>by cases e;omega)).trans R8.out
        have dn:W1.heap[w7.heap.size]?=_:=(a7.block _ j0 (fun e=>by cases e;omega)).trans D8.out
        have p0:=ae _ _ 0 _ _ _ dn
        have p1:=ae _ _ 1 _ _ _ dn
        have kE:=fO dn
        have hC:Hid (U.fY W2 r1 (U.mS vn (.agg #[.int .u64 (st:Nat),.slice lx data.length u,.int .i64 (tt:Nat)]) L1)):=ab (bM.gr (bx.block _ bM.lt (fun e=>by cases e)))
        have hD:=ab cb
        have fc:Hid (Ext (fun j=>j=r1∨j=r1+1) w8 W2):=ab ((⟨a7.os,a7.tape,a7.output,a7.size,fun j ma fd=>a7.block j ma fun e=>fd (.inl (by cases e;rfl))⟩:Ext (fun j=>j=r1∨j=r1+1) w8 W1).trans ⟨bx.os,bx.tape,bx.output,bx.size,fun j ma fd=>bx.block j ma fun e=>fd (.inr (by cases e;rfl))⟩)
        have kb:Hid (W2.heap.size=w8.heap.size):=ab (by rw [g8,b3])
        have fg:Hid (∀ m,∃ (k':Nat) (L1 L2:List (U.K×Value)),2*p≤k'∧k'≤n∧Value.int .i64 ((k:Int)+1) = .int .i64 (k':Int)∧U.fY (W2.drewN m) r1 L1∧U.fY (W2.drewN m) (r1+1) L2∧nh (W2.drewN m) J.heap.size L1 L2 (jH d p k')∧Ext (fun j=>j=r1∨j=r1+1) J (W2.drewN m)):=ab (fun m=>by
         refine ⟨k+1,_,_,by omega,by omega,by simp,hC.out,hD.out,fun ver => ?_,((bP.out.trans (Ext.fT co.out)).trans fc.out).drewN m⟩
         rw [cp.out ver,U.lV _ _ _ cB.out.AK,U.lV _ _ _ c0.out.AK]
         have kd:=cv.out
         by_cases e:ver=vn
         ·subst e
          rw [aD rfl,aD rfl,aD rfl]
          refine ⟨g4.out.1,i9.out,g4.out.2,_,_,_,_,rfl,rfl,?_⟩
          exact g6.out.frame (by rw [show (W2.drewN m).heap.size=W2.heap.size from rfl,kb.out];exact af _) fun b e ly=>fc.out.block b ly fun h=>by have:=g6.out.gh b e;omega
         ·rw [au e,au e,au e]
          exact nh.frame ci.out (D:=fun j=>j=r1∨j=r1+1) (((Ext.fT co.out).trans fc.out).drewN m) (fun j h=>by omega) ver)
        unfold U.kV at dk dl
        have hG:=dk 0
        have hH:=dk 1
        have hI:=dl 0
        have hJ:=dl 1
        have fi:∀ w:World,w.drewN 1=w.drew:=fun _=>rfl
        have fk:∀ w:World,w.drewN 0=w:=fun _=>rfl
        rw [fi,fi] at hH hJ
        rw [fk,fk] at hG hI
        clear fi fk dk dl bM cb a7 bx b3 g8 j3 dn V ag hA hB h5 j1 j2
        go_region
        all_goals
         go_wp2
         go_roundw
         case rel=>first | exact fg.out 0 | exact fg.out 1
         case measure=>simp [intOf];omega
       ·have bt:¬(cur:Int)<(st:Int):=by omega
        have M:=ab (O.out w8 co.out (fun ver=>by
         rw [e6.out,g5.out]
         simp only
         by_cases e:vn=ver
         ·subst e
          rw [au (fun h=>V (by rw [g7.out];exact h.2))]
         ·rw [au (fun h=>e h.1)]))
        clear V
        go_wp2
        go_roundw
        case rel=>exact M.out
        case measure=>simp [intOf];omega
    ·obtain rfl:k=n:=by omega
     have i2:¬(k:Int)<(k:Int):=by omega
     have dp:jH d p k=yw decDB d (iF d p):=by
      funext ver
      unfold jH yw iF
      rw [hT]
     have cp:=ab dp
     clear dp
     go_upto_region 29 with fail
     obtain ⟨pk,ce⟩:∃ pk,pk=jH d p k:=⟨_,rfl⟩
     rw [←ce] at ci cp
     rw [←cp.out] at g2
     clear ce cp d8 e2 e3
     go_loopw [10,12] (fun vv nv wx=>Ii wr J.heap.size r1 w.heap.size h q r (gO H.seen) slot s0 v0 p tb L1 L2 pk vv nv wx) (fun vv _ _=>18446744073709551616-(intOf vv).toNat)
     case atStart=>exact ⟨0,s0,v0,2*p,tb,rfl,rfl,i1.out,⟨bP.out.cell (p:=⟨q,0,none⟩) (show ¬(q=r1∨q=r1+1) from by have:=dc.out;omega) cu.out.cell,cu.out.tab.gr (bP.out.block _ cu.out.tab.lt fun e=>by have:=dc.out;omega)⟩,(bP.out.block _ (fO e1.out) fun e=>by have:=da.out;have:=bI.out;have:=ec.out;omega).trans e1.out,bN.out,bO.out,ci.out,fun _=>rfl,Ext.refl _ _⟩
     case round =>
      obtain ⟨j,st,v',nx,T',rfl,rfl,ld,bl,bn,g9,hb,hf,hg,R⟩:=hrel
      rename World=>wl
      have s:=ab bl
      have I:=ab bn
      have c3:=ab g9
      have bz:=ab hb
      have hh:=ab hf
      have hi:=ab hg
      have hj:=ab R
      have hn:IntKind.u64.wrap ((v':Int)+1)=((v'+1:Nat):Int):=by rw [show ((v':Int)+1)=((v'+1:Nat):Int) by omega];exact IntWalk.u64_in _ (by omega)
      have le:=ab hn
      obtain ⟨v1,fl⟩:∃ v1,v1=v'+1:=⟨_,rfl⟩
      have ds:=ab fl
      rw [←fl] at hn
      have ag:=c3.out.kT (mt:=319) Tryz.underlying319 (yO _) v1
      have N:=bz.out.lookup (mt:=320) Tryz.underlying320 (yN _) v1
      have h1:=hh.out v1
      have ho:Hid (Ext (fun i=>w.heap.size≤i) w4 wl):=ab ((e5.out.mono fun i e=>by rw [e];exact af _).trans (hj.out.mono fun i e=>by rcases e with e | e;rw [e];exact af _;rw [e];exact ca.out.2.1))
      have dv:Hid (∀ W,Below wl.heap.size wl W→(pk v1=none∨∃ a b o,pk v1=some (a,b,o)∧a<st)→∃ lg q' r',Ending.returned (.tuple #[.pointer (some ⟨w.heap.size,0,none⟩),.int .u64 (v':Nat),.pointer (some ⟨q,0,none⟩),.nilIface]) = .returned (.tuple #[.pointer (some ⟨lg,0,none⟩),.int .u64 (v:Nat),.pointer (some ⟨q',0,none⟩),.nilIface])∧LogAt W lg h ⟨gO H.seen,slot,next⟩∧EntAt W q' 0 r' T∧w.heap.size≤lg∧w.heap.size≤q'∧w.heap.size≤r'∧q'≠lg∧HostAt W F h (readAll H).1∧Ext F w W):=ab (fun W hW hE=>by
       have h1:=Cf hi.out (by rw [←ds.out];exact hE) d.length
       rw [g2.out _ (by omega)] at h1
       injection h1 with h1 h2
       injection h2 with h2 h3
       subst h1 h2 h3
       refine ⟨w.heap.size,q,r,rfl,fQ hW (fO I.out) I.out,s.out.below hW,af _,ca.out.1,ca.out.2.1,ca.out.2.2,?_,(gn.out.trans' ho.out fun i e => .inr e).trans (Ext.fT hW)⟩
       exact hX.out.ext (S:=fun i=>w.heap.size≤i) ((Ext.fT gg.out).trans (ho.out.trans (Ext.fT hW))) fun k hk e=>by have:=hU.out k hk;omega)
      clear bl bn g9 hb hf hg R fl
      cases lw:pk v1 with
      | none =>
       rw [lw] at h1
       rw [h1.1] at ag
       unfold U.kV at ag
       simp only [Option.getD_none,Option.isSome_none] at ag
       have dT:=ab lw
       have be:Hid (Below wl.heap.size wl (wl.alloc (.cells #[.int .u64 0,.slice none 0 0,.int .i64 0] 316))):=ab ((Below.rf wl).alloc (af _) _)
       clear lw h1 N
       go_wp2
       refine aI (v := .tuple #[.pointer (some ⟨w.heap.size,0,none⟩),.int .u64 (v':Nat),.pointer (some ⟨q,0,none⟩),.nilIface]) (by simp [results,Tryz.results173,go_sem]) rfl ?_
       exact dv.out _ be.out (.inl dT.out)
      | some y =>
       obtain ⟨bi,bD,os⟩:=y
       rw [lw] at h1
       obtain ⟨b1,mC,mE,ta,tn,tc,sv,mm,mb,mc⟩:=h1
       rw [mm] at ag
       rw [mb] at N
       have hp:=mb
       unfold U.kV at ag N
       simp only [bR,Option.isSome_some] at ag N
       obtain ⟨sa,bb,rfl⟩:=mc.shape
       have HO:=ab mc
       have dT:=ab lw
       have t6:Below wl.heap.size wl (wl.alloc (.cells #[.int .u64 (bi:Nat),.slice ta tn tc,.int .i64 (bD:Nat)] 316)):=(Below.rf wl).alloc (af _) _
       have R6:=ab (fR wl (.cells #[.int .u64 (bi:Nat),.slice ta tn tc,.int .i64 (bD:Nat)] 316))
       have be:=ab t6
       clear lw mm mb mc t6
       by_cases V:bi<st
       ·have bt:(bi:Int)<(st:Int):=by omega
        clear N
        go_wp2
        refine aI (v := .tuple #[.pointer (some ⟨w.heap.size,0,none⟩),.int .u64 (v':Nat),.pointer (some ⟨q,0,none⟩),.nilIface]) (by simp [results,Tryz.results173,go_sem]) rfl ?_
        exact dv.out _ be.out (.inr ⟨_,_,_,dT.out,V⟩)
       ·have bt:¬(bi:Int)<(st:Int):=by omega
        clear N
        go_upto_region 33 with fail
        generalize wl.alloc (.cells #[.int .u64 (bi:Nat),.slice ta tn tc,.int .i64 (bD:Nat)] 316)=wA at *
        have N:=(show U.fY wA.drew (r1+1) L2 from bz.out.gr (be.out.block _ bz.out.lt)).lookup (mt:=320) Tryz.underlying320 (yN _) v1
        rw [hp] at N
        unfold U.kV at N
        simp only [bR] at N
        go_still_tail 7,(by kernel_rfl)
        go_wp2_with fail
        refine (tf q 0 r T' v1 (.slice sa os.length bb) os wA.drew ⟨(s.out.below be.out).cell,(s.out.below be.out).tab.gr rfl⟩ ((HO.out.below be.out).sliceAt.below ((Below.rf wA).drew)) (by omega)).mono ?_
        rintro e w2 ⟨rfl,fn,bk⟩
        have fo:r≠w.heap.size:=fun e=>by
         have hl:=I.out
         unfold LogAt at hl
         exact s.out.tab.jZ hl e.symm
        have kk:r<wl.heap.size:=s.out.tab.lt
        have R2:w2.heap[wl.heap.size]?=_:=(bk.block _ (show wl.heap.size<wA.drew.heap.size from fO R6.out) (fun e=>by omega)).trans R6.out
        have d2:Ext (fun i=>i=r) wl w2:=(Ext.fT be.out).drew.trans bk
        have bv:LogAt w2 w.heap.size h ⟨gO H.seen,slot,nx⟩:=(d2.block _ (fO I.out) (fun e=>fo e.symm)).trans I.out
        have M:Hid (Ii wr J.heap.size r1 w.heap.size h q r (gO H.seen) slot s0 v0 p tb L1 L2 pk (.int .u64 (v1:Nat)) (.int .u64 (bi:Nat)) (w2.setCell ⟨w.heap.size,3,none⟩ (.int .i64 (bD:Nat)))):=ab (by
         have fr:Ext (fun i=>i=w.heap.size) w2 (w2.setCell ⟨w.heap.size,3,none⟩ (.int .i64 (bD:Nat))):=(Ext.refl (fun i=>i=w.heap.size) w2).setCell ⟨w.heap.size,3,none⟩ _ (.inl rfl)
         have d3:Ext (fun i=>i=w.heap.size∨i=r) wl (w2.setCell ⟨w.heap.size,3,none⟩ (.int .i64 (bD:Nat))):=(d2.mono fun _ => .inr).trans (fr.mono fun _ => .inl)
         have kd:=cv.out
         have h8:=da.out
         have h9:=bI.out
         have lf:=ec.out
         have li:=dc.out
         refine ⟨j+1,bi,v1,bD,foldS T' os,rfl,rfl,b1,⟨fr.cell (p:=⟨q,0,none⟩) (show ¬q=w.heap.size from ca.out.2.2) (d2.cell (p:=⟨q,0,none⟩) s.out.ne s.out.cell),fn.gr (fr.block _ fn.lt fo)⟩,heap_setCell _ _ 3 _ bv,c3.out.gr (d3.block _ c3.out.lt (show ¬(r1=w.heap.size∨r1=r) by omega)),bz.out.gr (d3.block _ bz.out.lt (show ¬(r1+1=w.heap.size∨r1+1=r) by omega)),hh.out.frame d3 (fun i e=>by omega),?_,hj.out.trans d3⟩
         have hc:=Ah hi.out (by rw [←ds.out];exact dT.out) V
         rw [←ds.out] at hc
         exact hc)
        have x2:=ae _ _ 2 _ _ _ R2
        have x0:=ae _ _ 0 _ _ _ R2
        have k4:=fO R2
        unfold LogAt at bv
        have l3:=ae _ _ 3 _ _ _ bv
        have z3:=aj _ _ 3 _ _ bv
        have eS:=fO bv
        have kl:=ab b1
        clear R2 d2 bv fn bk ag N hp b1 mC mE fo kk
        go_wp2
        go_roundw
        case rel=>exact M.out
        case measure =>
         have h1:=ds.out
         have h2:=kl.out
         simp [intOf]
         omega
end Go.Proofs.YtkkfmkhbdoeglabGreatDoor
namespace Go.Proofs.YtkkfmkhbdoeglabGreatDoor
open Go.RowKit Go.Conc
theorem EJ {P:Program} {Q:Goroutine→World→Prop} {ops:Array Oper} {i:Nat} {rest:List Nat} {o:Oper} {b:Frame} {a:Act} {k:List Item} {cs:List Frame} {f:FuncId} {fn:Func} {args:Array Operand} {q:Array TypeId} {w:World} {R:Ending→World→Prop}
  (x:ops[i]?=some o) (hw:Region.wanted o (yielded ops a.tmps)=true) (hk:b.kind≠.early) (r:o.op = .call {callee := .value (.func f),args,argTypes:=q})
  (y : P.funcs[f]? = some fn) (j : (fn.name == "runtime.NumGoroutine") = false) (B : fn.body.isNone = false) (d : Array Value) (l : args.map a.eval = d) (C : Calls P f d w R)
  (m:∀ e w',R e w'→∃ v,e = .returned v∧LoneTo P Q (G (b.at (a.put ((ops[i]?).bind (·.dst)) v) (.inRegion ops rest::k)) cs) w'):LoneTo P Q (G (b.at a (.inRegion ops (i::rest)::k)) cs) w:=by
 subst l
 refine LoneTo.step (step_solo_go rfl (stepG_enter x hw hk (run_call_body r y j B))) ?_
 obtain ⟨e,w',I,D,E,F,hl⟩:=C (b.at a (.inRegion ops (i::rest)::k)::cs)
 obtain ⟨v,rfl,hq⟩:=m e w' D
 have h1:=step_leave_returned (c:=b.at a (.inRegion ops (i::rest)::k)) (cs:=cs) hl
 rw [fu] at h1
 obtain ⟨g2,w2,s,u⟩:=hq
 exact ⟨g2,w2,Steps.trans E (Steps.head h1 s),u⟩
def pc (w:World) (G:Nat→Prop) (u:Value) (b:List UInt8):Prop:=OwnS w 0 1 u b.length (u8s b)∧0<b.length∧∀ k,u.ownBlock=some k→G k
def OutAt (w:World) (G:Nat→Prop) (c:Nat) (out:List (List UInt8)):Prop :=
 ∃ (s r:Nat) (vals:List Value),w.heap[c]?=some (.chan 6 vals.toArray false s r false)∧vals.length=out.length∧(∀ (i:Nat) (b:List UInt8),out[i]?=some b→∃ u,vals[i]?=some u∧pc w G u b)∧vals.Pairwise fun u v=>u.ownBlock≠v.ownBlock
def tN (out:List (List UInt8)) (k:UInt8) (body:List UInt8):List (List UInt8):=if out.length<6 then out++[sealB k body] else out
theorem OutAt.below {w w':World} {G:Nat→Prop} {c:Nat} {out:List (List UInt8)} (h:OutAt w G c out) (d:Below w.heap.size w w'):OutAt w' G c out:=by
 obtain ⟨s,r,vals,h1,h2,h3,h4⟩:=h
 refine ⟨s,r,vals,fQ d (fO h1) h1,h2,fun i b j => ?_,h4⟩
 obtain ⟨u,hu,f1,f2,f3⟩:=h3 i b j
 exact ⟨u,hu,f1.below d,f2,f3⟩
theorem OutAt.mono {w:World} {G G':Nat→Prop} {c:Nat} {out:List (List UInt8)} (h:OutAt w G c out) (d:∀ j,G j→G' j):OutAt w G' c out:=by
 obtain ⟨s,r,vals,h1,h2,h3,h4⟩:=h
 refine ⟨s,r,vals,h1,h2,fun i b l => ?_,h4⟩
 obtain ⟨u,hu,f1,f2,f3⟩:=h3 i b l
 exact ⟨u,hu,f1,f2,fun k e=>d k (f3 k e)⟩
theorem OutAt.push {w w1 w':World} {G:Nat→Prop} {c:Nat} {out:List (List UInt8)} {u:Value} {b:List UInt8} {s r:Nat} {vals:List Value} (m:Below w.heap.size w w1) (h1:w.heap[c]?=some (.chan 6 vals.toArray false s r false)) (h2:vals.length=out.length)
  (h3:∀ (i:Nat) (b:List UInt8),out[i]?=some b→∃ u,vals[i]?=some u∧pc w G u b) (h4:vals.Pairwise fun u v=>u.ownBlock≠v.ownBlock) (S:∀ k,G k→k<w.heap.size) (hu:OwnS w1 w.heap.size 1 u b.length (u8s b)) (E:0<b.length) (he:w'=w1.setChan c 6 (vals.toArray.push u) false (s+1) r false) :
  OutAt w' (fun j=>G j∨(w.heap.size≤j∧j<w'.heap.size)) c (out++[b])∧Ext (fun j=>j=c) w w':=by
 have W:=fO h1
 have X:=m.size
 have Y:w'.heap.size=w1.heap.size:=by rw [he,size_setChan]
 have l:∀ j,j≠c→w'.heap[j]?=w1.heap[j]?:=fun j o=>by
  rw [he]
  simp [World.setChan,bZ (dx o)]
 have F:w'.heap[c]?=some (.chan 6 (vals++[u]).toArray false (s+1) r false):=by
  rw [he,heap_setChan w1 c 6 _ false (s+1) r false (by omega)]
  simp
 have q:=hu.gh
 obtain ⟨hl,I⟩:=hu
 have J:∃ g,u.ownBlock=some g:=by
  rcases I with ⟨e,e2⟩ | ⟨g,off,cap,e,-⟩
  ·omega
  ·exact ⟨g,by rw [e];rfl⟩
 have B:OwnS w' 0 1 u b.length (u8s b):=(OwnS.mono ⟨hl,I⟩ (aM _)).frame (by omega) fun j e _=>l j (by have:=q j e;omega)
 refine ⟨⟨s+1,r,vals++[u],F,by rw [aq,aq,h2];rfl,fun i x d => ?_,?_⟩,⟨?_,?_,?_,by omega,fun j o M=>(l j M).trans (m.block j o)⟩⟩
 ·by_cases N:i<out.length
  ·rw [cG N] at d
   obtain ⟨v,D,f1,f2,f3⟩:=h3 i x d
   refine ⟨v,by rw [cG (by omega)];exact D,f1.frame (by omega) fun j e o=>(l j fun U => ?_).trans (m.block j o),f2,fun j e => .inl (f3 j e)⟩
   obtain ⟨-,⟨e0,e1⟩ | ⟨g,off,cap,e0,-,-,-,-,C,-⟩⟩:=f1
   ·omega
   ·rw [e0] at e
    cases e
    have hc:=C 0 (by rw [iY];exact f2)
    unfold World.cell? at hc
    rw [U,h1] at hc
    cases hc
  ·have O:i=out.length:=by
    have:=(aF.1 d).1
    simp at this
    omega
   subst O
   rw [cE (af _),ef] at d
   cases d
   refine ⟨u,by rw [cE (by omega),h2,ef];rfl,B,E,fun j e => .inr ⟨q j e,?_⟩⟩
   exact OwnS.gP B j e
 ·rw [dS]
  refine ⟨h4,List.pairwise_singleton _ _,fun x V y Q => ?_⟩
  rw [ax] at Q
  subst Q
  intro e
  obtain ⟨g,R⟩:=J
  obtain ⟨i,d⟩:=List.mem_iff_getElem?.1 V
  have Z:=(aF.1 d).1
  obtain ⟨v,D,f1,f2,f3⟩:=h3 i out[i] (ay (by omega))
  rw [D] at d
  cases d
  have h5:=S g (f3 g (e.trans R))
  have h6:=q g R
  omega
 ·rw [he];exact m.os
 ·rw [he];exact m.tape
 ·rw [he];exact m.output
theorem qJ (a c:Nat) (G:Nat→Prop) (out:List (List UInt8)) (kind:UInt8) (v:Value) (l:List UInt8) (w:World) (hc:w.cell? ⟨a,4,none⟩=some (.chan (some c))) (q:OutAt w G c out) (y:∀ k,G k→k<w.heap.size) (B:BytesAt w v l) (hl:l.length≤1000) :
  Calls Tryz.prog 148 #[.pointer (some ⟨a,0,none⟩),.int .u8 (kind.toNat:Int),v] w fun e w'=>e = .returned (.tuple #[])∧OutAt w' (fun j=>G j∨(w.heap.size≤j∧j<w'.heap.size)) c (tN out kind l)∧Ext (fun j=>j=c) w w':=by
 have D:=fU hc
 refine calls_of_loneTo (fun cs => ?_)
 have e:Frame.enter Tryz.prog 148 #[.pointer (some ⟨a,0,none⟩),.int .u8 (kind.toNat:Int),v] .normal=(base 148).at ⟨#[.pointer (some ⟨a,0,none⟩),.int .u8 (kind.toNat:Int),v,undef,undef,undef,undef,undef,undef,undef,undef,undef,undef,undef,undef,undef],[]⟩ [.code (Tryz.f148.body.getD .skip)]:=by
  simp [Frame.enter,Frame.at,Tryz.func148,base,Tryz.f148]
 rw [e]
 refine LoneTo.goes (n:=40) ?_
 simp only [Tryz.f148,bR]
 s_c stepG_seq
 s_c stepG_seq
 s_reg
 s_op
 s_op
 s_op
 s_op
 s_c stepG_region_end
 s_reg
 s_op
 s_op
 s_stop
 refine EJ (fn:=Tryz.f121) rfl rfl (by decide) rfl Tryz.func121 (by kernel_rfl) (by kernel_rfl) #[.int .u8 (kind.toNat:Int),v] (by simp [Act.eval]) (zX kind v l w B (by unfold gF;omega)) ?_
 rintro e w1 ⟨d,rfl,i,m⟩
 refine ⟨d,rfl,?_⟩
 walk_nrm
 refine LoneTo.goes (n:=40) ?_
 s_c stepG_region_end
 s_c stepG_seq
 s_reg
 s_stop
 have u:=q
 obtain ⟨s,r,vals,h1,h2,h3,h4⟩:=u
 have x:(sealB kind l).length=l.length+5:=by simp [sealB,zP]
 rw [←x] at i
 by_cases b:out.length<6
 ·refine LoneTo.step (step_lone_select_send_room (c:=c) (v:=d) (z' := .slice none 0 0) (cap:=6) (buf:=vals.toArray) (s:=s) (r:=r) (tm:=false)
   (stepG_comm (cases:=#[scase c d (.slice none 0 0)]) (blocking:=false) (shape := .select) (w':=w1) rfl rfl (by decide) (by simp [go_sem,execOp,scase,Act.eval])) (fQ m (fO h1) h1) (by simp;omega)) ?_
  have o:=OutAt.push m h1 h2 h3 h4 y i (by omega) rfl
  rw [fu]
  walk_nrm
  refine LoneTo.goes (n:=40) ?_
  s_op
  s_op
  s_c stepG_region_end
  s_c stepG_block
  s_cond true
  s_c stepG_skip
  s_c stepG_inBlock
  s_c stepG_end
  s_stop
  refine LoneTo.done ⟨.returned (.tuple #[]),_,rfl,⟨rfl,?_⟩,rfl,rfl,rfl,rfl,_,Tryz.func148,by simp [results,Tryz.f148,Frame.at]⟩
  unfold tN
  rw [aD b]
  simpa using o
 ·refine LoneTo.step (step_lone_select_send_full (c:=c) (v:=d) (z' := .slice none 0 0) (cap:=6) (buf:=vals.toArray) (s:=s) (r:=r) (tm:=false)
   (stepG_comm (cases:=#[scase c d (.slice none 0 0)]) (blocking:=false) (shape := .select) (w':=w1) rfl rfl (by decide) (by simp [go_sem,execOp,scase,Act.eval])) (fQ m (fO h1) h1) (by simp;omega)) ?_
  rw [fu]
  walk_nrm
  refine LoneTo.goes (n:=40) ?_
  s_op
  s_op
  s_c stepG_region_end
  s_c stepG_block
  s_cond false
  s_c stepG_skip
  s_c stepG_inBlock
  s_c stepG_end
  s_stop
  refine LoneTo.done ⟨.returned (.tuple #[]),_,rfl,⟨rfl,?_⟩,rfl,rfl,rfl,rfl,_,Tryz.func148,by simp [results,Tryz.f148,Frame.at]⟩
  unfold tN
  rw [au b]
  exact ⟨(q.below m).mono fun j C => .inl C,Ext.fT m⟩
def G9 (w:World) (G:Nat→Prop) (c:Nat) (e:Ending) (w':World):List (List UInt8)→Prop
 | []=>e = .returned (.tuple #[.slice none 0 0,.bool false])∧w'=w
 | b::out=>∃ u,e = .returned (.tuple #[u,.bool true])∧pc w' G u b∧OutAt w' (fun j=>G j∧u.ownBlock≠some j) c out∧Ext (fun j=>j=c) w w'
theorem OutAt.pop {w w':World} {G:Nat→Prop} {c:Nat} {b:List UInt8} {out:List (List UInt8)} {u:Value} {vals:List Value} {s r:Nat} (h1:w.heap[c]?=some (.chan 6 (u::vals).toArray false s r false)) (h2:(u::vals).length=(b::out).length)
  (h3:∀ (i:Nat) (x:List UInt8),(b::out)[i]?=some x→∃ v,(u::vals)[i]?=some v∧pc w G v x) (h4:(u::vals).Pairwise fun u v=>u.ownBlock≠v.ownBlock) (he:w'=w.setChan c 6 vals.toArray false s (r+1) false) :
  pc w' G u b∧OutAt w' (fun j=>G j∧u.ownBlock≠some j) c out∧Ext (fun j=>j=c) w w':=by
 have D:=fO h1
 have I:w'.heap.size=w.heap.size:=by rw [he,size_setChan]
 have d:∀ j,j≠c→w'.heap[j]?=w.heap[j]?:=fun j q=>by
  rw [he]
  simp [World.setChan,bZ (dx q)]
 have m:∀ v x,pc w G v x→pc w' G v x:=fun v x ⟨f1,f2,f3⟩=>⟨f1.frame (by omega) fun j e q=>d j fun y=>by
  obtain ⟨-,⟨e0,J⟩ | ⟨g,off,cap,e0,-,-,-,-,l,-⟩⟩:=f1
  ·omega
  ·rw [e0] at e
   cases e
   have hc:=l 0 (by rw [iY];exact f2)
   unfold World.cell? at hc
   rw [y,h1] at hc
   exact absurd hc (by simp),f2,f3⟩
 rw [fC] at h4
 refine ⟨?_,⟨s,r+1,vals,?_,by simpa using h2,fun i x F => ?_,h4.2⟩,⟨by rw [he];rfl,by rw [he];rfl,by rw [he];rfl,by omega,fun j q E=>d j E⟩⟩
 ·obtain ⟨v,B,C⟩:=h3 0 b rfl
  cases B
  exact m _ _ C
 ·rw [he,heap_setChan w c 6 _ false s (r+1) false D]
 ·obtain ⟨v,B,C⟩:=h3 (i+1) x (by simpa using F)
  obtain ⟨f1,f2,f3⟩:=m _ _ C
  have o:vals[i]?=some v:=by simpa using B
  exact ⟨v,o,f1,f2,fun k e=>⟨f3 k e,fun y=>h4.1 v (aV o) (y.trans e.symm)⟩⟩
theorem vC (a c:Nat) (G:Nat→Prop) (out:List (List UInt8)) (w:World) (hc:w.cell? ⟨a,4,none⟩=some (.chan (some c))) (j:OutAt w G c out) :
  Calls Tryz.prog 120 #[.pointer (some ⟨a,0,none⟩)] w fun e w'=>G9 w G c e w' out:=by
 have l:=fU hc
 refine calls_of_loneTo (fun cs => ?_) ?_
 rotate_left 1
 ·intro w' h
  cases out with
  | nil=>cases h.1
  | cons b out=>obtain ⟨u,h,-⟩:=h;cases h
 have e:Frame.enter Tryz.prog 120 #[.pointer (some ⟨a,0,none⟩)] .normal=(base 120).at ⟨#[.pointer (some ⟨a,0,none⟩),undef,undef,undef,undef,undef,undef,undef,undef,undef,undef,undef,undef,undef],[]⟩ [.code (Tryz.f120.body.getD .skip)]:=by
  simp [Frame.enter,Frame.at,Tryz.func120,base,Tryz.f120]
 rw [e]
 refine LoneTo.goes (n:=40) ?_
 simp only [Tryz.f120,bR]
 s_c stepG_seq
 s_reg
 s_op
 s_op
 s_c stepG_region_end
 s_c stepG_seq
 s_reg
 s_op
 s_op
 s_op
 s_op
 s_c stepG_region_end
 s_c stepG_seq
 s_reg
 s_stop
 have i:=j
 obtain ⟨s,r,vals,h1,h2,h3,h4⟩:=i
 cases out with
 | nil =>
  obtain rfl:vals=[]:=bK (by simpa using h2)
  refine LoneTo.step (step_lone_select_default (c:=c) (z := .slice none 0 0) (cap:=6) (s:=s) (r:=r) (tm:=false)
   (stepG_comm (cases:=#[rcase c (.slice none 0 0)]) (blocking:=false) (shape := .select) (w':=w) rfl rfl (by decide) (by simp [go_sem,execOp,rcase,Act.eval])) h1) ?_
  rw [fu]
  walk_nrm
  refine LoneTo.goes (n:=40) ?_
  s_op
  s_op
  s_c stepG_region_end
  s_c stepG_block
  s_cond false
  s_c stepG_seq
  s_reg
  s_op
  s_op
  s_c stepG_region_end
  s_c stepG_ret'
  s_stop
  exact LoneTo.done ⟨.returned (.tuple #[.slice none 0 0,.bool false]),_,rfl,⟨rfl,rfl⟩,rfl,rfl,rfl,rfl,_,Tryz.func120,by simp [results,Tryz.f120,Frame.at]⟩
 | cons b out =>
  cases vals with
  | nil=>simp at h2
  | cons u vals =>
   refine LoneTo.step (step_lone_select_recv_buf (c:=c) (z := .slice none 0 0) (cap:=6) (buf:=(u::vals).toArray) (closed:=false) (s:=s) (r:=r) (tm:=false)
    (stepG_comm (cases:=#[rcase c (.slice none 0 0)]) (blocking:=false) (shape := .select) (w':=w) rfl rfl (by decide) (by simp [go_sem,execOp,rcase,Act.eval])) h1 (by simp)) ?_
   have d:=OutAt.pop h1 h2 h3 h4 rfl
   rw [show (u::vals).toArray.extract 1 (u::vals).toArray.size=vals.toArray by simp]
   rw [fu]
   walk_nrm
   refine LoneTo.goes (n:=40) ?_
   s_op
   s_op
   s_c stepG_region_end
   s_c stepG_block
   s_cond true
   s_c stepG_seq
   s_reg
   s_op
   s_op
   s_c stepG_region_end
   s_c stepG_seq
   s_reg
   s_op
   s_op
   s_op
   s_c stepG_region_end
   s_c stepG_ret'
   s_stop
   exact LoneTo.done ⟨.returned (.tuple #[u,.bool true]),_,rfl,⟨u,rfl,d⟩,rfl,rfl,rfl,rfl,_,Tryz.func120,by simp [results,Tryz.f120,Frame.at]⟩
end Go.Proofs.YtkkfmkhbdoeglabGreatDoor
namespace Go.Proofs.YtkkfmkhbdoeglabGreatDoor
open Go.RowKit
theorem OutAt.frame {w w':World} {D O:Nat→Prop} {c:Nat} {out:List (List UInt8)} (h:OutAt w O c out) (d:Ext D w w') (hc:¬D c) (hO:∀ k,O k→¬D k):OutAt w' O c out:=by
 obtain ⟨s,r,vals,h1,h2,h3,h4⟩:=h
 refine ⟨s,r,vals,d.at hc h1,h2,fun i b j => ?_,h4⟩
 obtain ⟨u,hu,f1,f2,f3⟩:=h3 i b j
 exact ⟨u,hu,f1.frame d.size fun k e hk=>d.block k hk (hO k (f3 k e)),f2,f3⟩
def FltP (w:World) (G:Nat→Prop) (v:Value) (sec:Nat):Option (Nat×Nat)→Prop
 | none=>v = .pointer none
 | some f=>∃ b,v = .pointer (some ⟨b,0,none⟩)∧G b∧
  ((f.1≠12∧w.heap[b]?=some (.cells #[.int .i64 (f.1:Nat),.int .i64 (f.2:Nat),.nilIface] 186 (0,0)))∨
   (f.1=12∧∃ c,G c∧w.heap[b]?=some (.cells #[.int .i64 (f.1:Nat),.int .i64 (f.2:Nat),.iface 188 (.pointer (some ⟨c,0,none⟩))] 186 (0,0))∧w.heap[c]?=some (.cells #[.int .i64 ((sec:Int)-2)] 191 (0,0))))
theorem FltP.frame {w w':World} {D G:Nat→Prop} {v:Value} {sec:Nat} {f:Option (Nat×Nat)} (h:FltP w G v sec f) (d:Ext D w w') (i:∀ k C fz,G k→(w.heap[k]?=some (.cells C 186 fz)∨w.heap[k]?=some (.cells C 191 fz))→¬D k):FltP w' G v sec f:=by
 cases f with
 | none=>exact h
 | some f =>
  obtain ⟨b,h1,h2,h3⟩:=h
  refine ⟨b,h1,h2,?_⟩
  rcases h3 with ⟨h3,h4⟩ | ⟨h3,c,h4,h5,h6⟩
  ·exact .inl ⟨h3,d.at (i b _ _ h2 (.inl h4)) h4⟩
  ·exact .inr ⟨h3,c,h4,d.at (i b _ _ h2 (.inl h5)) h5,d.at (i c _ _ h4 (.inr h6)) h6⟩
theorem FltP.mono {w:World} {G G':Nat→Prop} {v:Value} {sec:Nat} {f:Option (Nat×Nat)} (h:FltP w G v sec f) (d:∀ k,G k→G' k):FltP w G' v sec f:=by
 cases f with
 | none=>exact h
 | some f =>
  obtain ⟨b,h1,h2,h3⟩:=h
  exact ⟨b,h1,d b h2,h3.imp id fun ⟨h3,c,h4,h5⟩=>⟨h3,c,d c h4,h5⟩⟩
def ComP (w:World) (G:Nat→Prop) (v:Value):Option (Nat×Nat×List (List UInt8))→Prop
 | none=>v = .pointer none
 | some (tv,of,got)=>∃ b bv,v = .pointer (some ⟨b,0,none⟩)∧G b∧w.heap[b]?=some (.cells #[.int .u64 (tv:Nat),.int .i64 (of:Nat),.int .i64 (got.length:Nat),bv] 257 (0,0))∧OwnS w 0 1 bv got.flatten.length (u8s got.flatten)∧CellsOf w bv 5∧∀ k,bv.ownBlock=some k→G k
theorem ComP.frame {w w':World} {D G:Nat→Prop} {v:Value} {m:Option (Nat×Nat×List (List UInt8))} (h:ComP w G v m) (d:Ext D w w') (i:∀ k C fz,G k→(w.heap[k]?=some (.cells C 257 fz)∨w.heap[k]?=some (.cells C 5 fz))→¬D k):ComP w' G v m:=by
 cases m with
 | none=>exact h
 | some m =>
  obtain ⟨tv,of,got⟩:=m
  obtain ⟨b,bv,h1,h2,h3,h4,h5,h6⟩:=h
  have hk:∀ k,bv.ownBlock=some k→k<w.heap.size→w'.heap[k]?=w.heap[k]?:=fun k e hk=>by
   obtain ⟨C,fz,j⟩:=h5 k e
   exact d.block k hk (i k _ _ (h6 k e) (.inr j))
  exact ⟨b,bv,h1,h2,d.at (i b _ _ h2 (.inl h3)) h3,h4.frame d.size hk,h5.frame hk,h6⟩
theorem ComP.mono {w:World} {G G':Nat→Prop} {v:Value} {m:Option (Nat×Nat×List (List UInt8))} (h:ComP w G v m) (d:∀ k,G k→G' k):ComP w G' v m:=by
 cases m with
 | none=>exact h
 | some m =>
  obtain ⟨tv,of,got⟩:=m
  obtain ⟨b,bv,h1,h2,h3,h4,h5,h6⟩:=h
  exact ⟨b,bv,h1,d b h2,h3,h4,h5,fun k e=>d k (h6 k e)⟩
structure AV where
 r:Nat
 lg:Nat
 c:Nat
 fp:Value
 cp:Value
def AV.cells (x:AV) (v h:Nat):Array Value:=#[.map (some x.r),.int .u64 (v:Nat),.pointer (some ⟨x.lg,0,none⟩),rY h,.chan (some x.c),x.fp,x.cp]
structure AgAt (w:World) (G O:Nat→Prop) (a h:Nat) (P:PAg) (x:AV):Prop where
 row:w.heap[a]?=some (.cells (x.cells P.a.V h) 174 (0,0))
 tab:TabAt w x.r P.a.T
 log:LogAt w x.lg h P.lg
 out:OutAt w O x.c P.a.out
 flt:FltP w G x.fp P.sec P.a.deg
 com:ComP w G x.cp P.a.com
 gin:G a∧G x.r∧G x.lg∧G x.c
 glt:∀ k,G k→k<w.heap.size
 olt:∀ k,O k→k<w.heap.size
 sep:∀ k,G k→¬O k
theorem AgAt.frame {w w':World} {D G O:Nat→Prop} {a h:Nat} {P:PAg} {x:AV} (ha:AgAt w G O a h P x) (b:Ext D w w') (d:∀ k,G k→¬D k) (hO:∀ k,O k→¬D k):AgAt w' G O a h P x :=
 ⟨b.at (d _ ha.gin.1) ha.row,ha.tab.gr (b.block _ ha.tab.lt (d _ ha.gin.2.1)),b.at (d _ ha.gin.2.2.1) ha.log,ha.out.frame b (d _ ha.gin.2.2.2) hO,ha.flt.frame b fun k _ _ hk _=>d k hk,ha.com.frame b fun k _ _ hk _=>d k hk,ha.gin,fun k hk=>aC (ha.glt k hk) b.size,fun k hk=>aC (ha.olt k hk) b.size,ha.sep⟩
theorem AgAt.below {w w':World} {G O:Nat→Prop} {a h:Nat} {P:PAg} {x:AV} (ha:AgAt w G O a h P x) (b:Below w.heap.size w w'):AgAt w' G O a h P x :=
 ha.frame (D:=fun _=>False) (Ext.fT b) (fun _ _=>id) (fun _ _=>id)
theorem nl {w:World} {c b cap s r:Nat} {vals C:Array Value} {t u:Bool} {T:TypeId} {fz:Nat×Nat} (h:w.heap[c]?=some (.chan cap vals t s r u)) (k:w.heap[b]?=some (.cells C T fz)):b≠c:=fun e=>by
 rw [e,h] at k
 cases k
theorem iQ {w:World} {b d:Nat} {C D:Array Value} {T U:TypeId} {fz i:Nat×Nat} (h:w.heap[b]?=some (.cells C T fz)) (k:w.heap[d]?=some (.cells D U i)) (j:T≠U):b≠d:=fun e=>by
 rw [e,k] at h
 injection h with h
 injection h with _ h
 exact j h.symm
theorem AgAt.outs {w w':World} {G O O':Nat→Prop} {a h:Nat} {P:PAg} {x:AV} {out:List (List UInt8)} (ha:AgAt w G O a h P x) (d:OutAt w' O' x.c out) (b:Ext (fun j=>j=x.c) w w') (hl:∀ k,O' k→k<w'.heap.size) (hs:∀ k,O' k→O k∨w.heap.size≤k):AgAt w' G O' a h {P with a := {P.a with out:=out}} x:=by
 obtain ⟨s,r,vals,h1,-⟩:=ha.out
 refine ⟨b.at (nl h1 ha.row) ha.row,ha.tab.gr (b.block _ ha.tab.lt fun e => ?_),b.at (nl h1 ha.log) ha.log,d,ha.flt.frame b fun k C fz _ hk e => ?_,ha.com.frame b fun k C fz _ hk e => ?_,ha.gin,fun k hk=>aC (ha.glt k hk) b.size,hl,fun k hk d => ?_⟩
 ·obtain ⟨-,L,hm,-⟩:=ha.tab
  obtain ⟨es,q,hq,-⟩:=hm
  rw [e,h1] at hq
  cases hq
 ·subst e
  rcases hk with hk | hk <;> exact nl h1 hk rfl
 ·subst e
  rcases hk with hk | hk <;> exact nl h1 hk rfl
 ·rcases hs k d with h | h
  ·exact ha.sep k hk h
  ·have:=ha.glt k hk
   omega
def pa (w:World) (G O:Nat→Prop) (a h:Nat) (P:PAg) (w':World):Prop:=∃ G' O' x,AgAt w' G' O' a h P x∧(∀ k,G' k∨O' k→G k∨O k∨w.heap.size≤k)∧Ext (fun k=>G k) w w'
theorem pa.gD {w w1 w':World} {G O:Nat→Prop} {a h:Nat} {P:PAg} (b:Below w.heap.size w w1) (d:pa w1 G O a h P w'):pa w G O a h P w':=by
 obtain ⟨G',O',x,h1,h2,h3⟩:=d
 exact ⟨G',O',x,h1,fun k hk=>(h2 k hk).imp id fun h=>h.imp id fun h=>aH b.size h,(Ext.fT b).trans h3⟩
theorem pa.below {w w1 w':World} {G O:Nat→Prop} {a h:Nat} {P:PAg} (d:pa w G O a h P w1) (b:Below w1.heap.size w1 w'):pa w G O a h P w':=by
 obtain ⟨G',O',x,h1,h2,h3⟩:=d
 exact ⟨G',O',x,h1.below b,h2,h3.trans (Ext.fT b)⟩
theorem pa.trans {w w1 w':World} {G O b d:Nat→Prop} {a h:Nat} {P:PAg} (h1:∀ k,b k∨d k→G k∨O k∨w.heap.size≤k) (h2:Ext (fun k=>G k) w w1) (h3:∀ k,b k→G k∨w.heap.size≤k) (i:pa w1 b d a h P w'):pa w G O a h P w':=by
 obtain ⟨G',O',x,g1,g2,g3⟩:=i
 refine ⟨G',O',x,g1,fun k hk => ?_,h2.trans' g3 h3⟩
 rcases g2 k hk with h | h | h
 ·exact h1 k (.inl h)
 ·exact h1 k (.inr h)
 ·exact .inr (.inr (aH h2.size h))
end Go.Proofs.YtkkfmkhbdoeglabGreatDoor
namespace Go.Proofs.YtkkfmkhbdoeglabGreatDoor
open Go.RowKit
theorem IX (a:AgA) (k:UInt8) (b:List UInt8):a.put k b = {a with out:=tN a.out k b} := by
 unfold AgA.put tN
 split <;> rfl
def ku (w:World) (G O:Nat→Prop) (a h:Nat) (P:PAg) (x:AV) (w':World):Prop:=∃ O',AgAt w' G O' a h P x∧(∀ k,O' k→O k∨w.heap.size≤k)∧Ext (fun j=>j=x.c) w w'
theorem ku.gD {w w1 w':World} {G O:Nat→Prop} {a h:Nat} {P:PAg} {x:AV} (b:Below w.heap.size w w1) (d:ku w1 G O a h P x w'):ku w G O a h P x w':=by
 obtain ⟨O',h1,h2,h3⟩:=d
 exact ⟨O',h1,fun k hk=>(h2 k hk).imp id fun h=>aH b.size h,(Ext.fT b).trans h3⟩
theorem ku.trans {w w1 w':World} {G O b:Nat→Prop} {a h:Nat} {P:PAg} {x:AV} (h1:∀ k,b k→O k∨w.heap.size≤k) (h2:Ext (fun j=>j=x.c) w w1) (d:ku w1 G b a h P x w'):ku w G O a h P x w':=by
 obtain ⟨O',g1,g2,g3⟩:=d
 exact ⟨O',g1,fun k hk=>(g2 k hk).elim (h1 k) fun h => .inr (aH h2.size h),h2.trans g3⟩
theorem ku.go {w w':World} {G O:Nat→Prop} {a h:Nat} {P:PAg} {x:AV} (b:ku w G O a h P x w') (hc:G x.c):pa w G O a h P w':=by
 obtain ⟨O',h1,h2,h3⟩:=b
 exact ⟨G,O',x,h1,fun k hk=>hk.elim .inl fun h => .inr (h2 k h),h3.mono fun k e=>e▸hc⟩
theorem AgAt.put {w w':World} {G O:Nat→Prop} {a h:Nat} {P:PAg} {x:AV} (ha:AgAt w G O a h P x) {k:UInt8} {l:List UInt8} (i:OutAt w' (fun j=>O j∨(w.heap.size≤j∧j<w'.heap.size)) x.c (tN P.a.out k l)) (d:Ext (fun j=>j=x.c) w w'):ku w G O a h {P with a:=P.a.put k l} x w':=by
 rw [IX]
 exact ⟨fun j=>O j∨(w.heap.size≤j∧j<w'.heap.size),ha.outs i d (fun j b=>b.elim (fun h=>aC (ha.olt j h) d.size) fun h=>h.2) (fun j b=>b.imp id fun h=>h.1),fun j b=>b.imp id fun h=>h.1,d⟩
theorem jY (a h:Nat) (P:PAg) (x:AV) (G O:Nat→Prop) (w:World) (ha:AgAt w G O a h P x) (r:P.a.V<18446744073709551616) :
  Calls Tryz.prog 115 #[.pointer (some ⟨a,0,none⟩)] w fun e w'=>e = .returned (.tuple #[])∧ku w G O a h {P with a:=P.a.iW} x w':=by
 have s:=ab ha
 have r0:=ha.row
 unfold AV.cells at r0
 have c1:=ae _ _ 1 _ _ _ r0
 have c4:=ae _ _ 4 _ _ _ r0
 have j:=fO r0
 clear ha r0
 go_enter Tryz.func115,Tryz.ntmps115
 go_wp2_with fail
 refine (rS w.heap.size (.slice none 0 0) [] P.a.V w (OwnS.nil _ _ _) (af _) (by simp [gF]) r).mono ?_
 rintro e w2 ⟨bv,rfl,b,d⟩
 simp only [aJ,bG,aO] at b
 have i:=ab (s.out.below d)
 have d4:=(d.cell (p:=⟨a,4,none⟩) j).trans c4
 have l:=ab d
 have m:=ab b
 clear d c1 c4 b
 go_wp2_with fail
 refine (qJ a x.c O P.a.out 16 bv (be8 P.a.V) w2 d4 i.out.out i.out.olt (by have:=m.out.bytes;simpa [gm] using this) (by rw [gm];omega)).mono ?_
 rintro e w3 ⟨rfl,o,q⟩
 have u:=ab (ku.gD l.out (i.out.put o q))
 clear o q d4
 go_wp2
 go_end0
 exact ⟨rfl,u.out⟩
theorem pe (a h:Nat) (P:PAg) (x:AV) (G O:Nat→Prop) (w:World) (ha:AgAt w G O a h P x) (r:P.a.V<18446744073709551616) :
  Calls Tryz.prog 152 #[.pointer (some ⟨a,0,none⟩)] w fun e w'=>e = .returned (.tuple #[])∧ku w G O a h {P with a:=P.a.lQ} x w':=by
 have s:=ab ha
 have r0:=ha.row
 unfold AV.cells at r0
 have c1:=ae _ _ 1 _ _ _ r0
 have c4:=ae _ _ 4 _ _ _ r0
 have j:=fO r0
 clear ha r0
 go_enter Tryz.func152,Tryz.ntmps152
 go_wp2_with fail
 refine (rS w.heap.size (.slice none 0 0) [] P.a.V w (OwnS.nil _ _ _) (af _) (by simp [gF]) r).mono ?_
 rintro e w2 ⟨bv,rfl,b,d⟩
 simp only [aJ,bG,aO] at b
 have i:=ab (s.out.below d)
 have d4:=(d.cell (p:=⟨a,4,none⟩) j).trans c4
 have l:=ab d
 have m:=ab b
 clear d c1 c4 b
 go_wp2_with fail
 refine (qJ a x.c O P.a.out 17 bv (be8 P.a.V) w2 d4 i.out.out i.out.olt (by have:=m.out.bytes;simpa [gm] using this) (by rw [gm];omega)).mono ?_
 rintro e w3 ⟨rfl,o,q⟩
 have u:=ab (ku.gD l.out (i.out.put o q))
 clear o q d4
 go_wp2
 go_end0
 exact ⟨rfl,u.out⟩
theorem lM (a h k:Nat) (P:PAg) (x:AV) (G O:Nat→Prop) (w:World) (ha:AgAt w G O a h P x) (hk:k<256) :
  Calls Tryz.prog 109 #[.pointer (some ⟨a,0,none⟩),.int .i64 (k:Nat)] w fun e w'=>e = .returned (.tuple #[])∧ku w G O a h {P with a:=P.a.gW k} x w':=by
 have s:=ab ha
 have r0:=ha.row
 unfold AV.cells at r0
 have c4:=ae _ _ 4 _ _ _ r0
 have i:=fO r0
 have j:Hid (((k:Nat):Int)%256=((UInt8.ofNat k).toNat:Int)):=ab (by simp)
 have l:Hid (((k:Nat):Int)=((UInt8.ofNat k).toNat:Int)):=ab (by simp;omega)
 have b:Below w.heap.size w (w.alloc (.cells #[.int .u8 ((UInt8.ofNat k).toNat:Int)] 5)):=(Below.rf w).alloc (af _) _
 have d:=ab (s.out.below b)
 have m:=ab (qn w (UInt8.ofNat k))
 have d4:=(b.cell (p:=⟨a,4,none⟩) i).trans c4
 have o:=ab b
 clear ha r0 b c4
 go_enter Tryz.func109,Tryz.ntmps109
 go_wp2_with fail
 first | rw [j.out] | rw [l.out]
 refine (qJ a x.c O P.a.out 18 _ [UInt8.ofNat k] _ d4 d.out.out d.out.olt m.out (by simp)).mono ?_
 rintro e w3 ⟨rfl,q,r⟩
 have u:=ab (ku.gD o.out (d.out.put q r))
 clear q r d4
 go_wp2
 go_end0
 exact ⟨rfl,u.out⟩
theorem og (a h:Nat) (P:PAg) (x:AV) (G O:Nat→Prop) (w:World) (ha:AgAt w G O a h P x) (tv of:Nat) (got:List (List UInt8)) (hc:P.a.com=some (tv,of,got)) (E:got.length<256) :
  Calls Tryz.prog 124 #[.pointer (some ⟨a,0,none⟩)] w fun e w'=>e = .returned (.tuple #[])∧ku w G O a h {P with a:=P.a.jM} x w':=by
 have B:=ab ha
 have r0:=ha.row
 have d:=ha.com
 rw [hc] at d
 obtain ⟨F,bv,l,-,i,-⟩:=d
 unfold AV.cells at r0
 rw [l] at r0
 have c4:=ae _ _ 4 _ _ _ r0
 have I:=ae _ _ 6 _ _ _ r0
 have g2:=ae _ _ 2 _ _ _ i
 have m:=fO r0
 have o:Hid (((got.length:Nat):Int)%256=((UInt8.ofNat got.length).toNat:Int)):=ab (by simp)
 have q:Hid (((got.length:Nat):Int)=((UInt8.ofNat got.length).toNat:Int)):=ab (by simp;omega)
 have b:Below w.heap.size w (w.alloc (.cells #[.int .u8 ((UInt8.ofNat got.length).toNat:Int)] 5)):=(Below.rf w).alloc (af _) _
 have j:=ab (B.out.below b)
 have r:=ab (qn w (UInt8.ofNat got.length))
 have d4:=(b.cell (p:=⟨a,4,none⟩) m).trans c4
 have s:=ab b
 have C:Hid (P.a.jM=P.a.put 19 [UInt8.ofNat got.length]):=ab (by unfold AgA.jM AgA.Ez;rw [hc])
 clear ha r0 b c4 i l hc
 go_enter Tryz.func124,Tryz.ntmps124
 go_wp2_with fail
 first | rw [o.out] | rw [q.out]
 refine (qJ a x.c O P.a.out 19 _ [UInt8.ofNat got.length] _ d4 j.out.out j.out.olt r.out (by simp)).mono ?_
 rintro e w3 ⟨rfl,u,y⟩
 have D:=ab (ku.gD s.out (j.out.put u y))
 clear u y d4
 go_wp2
 go_end0
 exact ⟨rfl,by rw [C.out];exact D.out⟩
theorem AgAt.FT {w:World} {G O:Nat→Prop} {a h:Nat} {P:PAg} {x:AV} (ha:AgAt w G O a h P x):(P.a.deg=none∧x.fp = .pointer none)∨(∃ f b,P.a.deg=some f∧x.fp = .pointer (some ⟨b,0,none⟩)):=by
 have d:=ha.flt
 cases hd:P.a.deg with
 | none=>rw [hd] at d;exact .inl ⟨rfl,d⟩
 | some f=>rw [hd] at d;obtain ⟨b,i,-⟩:=d;exact .inr ⟨f,b,rfl,i⟩
theorem AgAt.ID {w:World} {G O:Nat→Prop} {a h:Nat} {P:PAg} {x:AV} (ha:AgAt w G O a h P x):(P.a.com=none∧x.cp = .pointer none)∨(∃ tv of got b,P.a.com=some (tv,of,got)∧x.cp = .pointer (some ⟨b,0,none⟩)):=by
 have d:=ha.com
 cases hd:P.a.com with
 | none=>rw [hd] at d;exact .inl ⟨rfl,d⟩
 | some m=>obtain ⟨tv,of,got⟩:=m;rw [hd] at d;obtain ⟨b,bv,i,-⟩:=d;exact .inr ⟨tv,of,got,b,rfl,i⟩
theorem BY (a h:Nat) (P:PAg) (x:AV) (G O:Nat→Prop) (w:World) (ha:AgAt w G O a h P x) (y:P.a.V<18446744073709551616) (q:P.a.Ez<256) :
  Calls Tryz.prog 85 #[.pointer (some ⟨a,0,none⟩)] w fun e w'=>e = .returned (.tuple #[])∧ku w G O a h {P with a:=P.a.tick} x w':=by
 have r:=ab ha
 have r0:=ha.row
 unfold AV.cells at r0
 have D:=fO r0
 have s:=ha.FT
 have o:=ha.ID
 clear ha
 rcases s with ⟨hd,i⟩ | ⟨f,b,hd,i⟩
 ·rw [i] at r0
  have c5:=ae _ _ 5 _ _ _ r0
  rcases o with ⟨hc,j⟩ | ⟨tv,of,got,E,hc,j⟩
  ·rw [j] at r0
   have B:=ae _ _ 6 _ _ _ r0
   have l:Hid (P.a.tick=P.a.iW):=ab (by unfold AgA.tick;rw [hd,hc];rfl)
   clear hd hc i j r0
   go_enter Tryz.func85,Tryz.ntmps85
   go_wp2_with fail
   refine (jY a h P x G O w r.out y).mono ?_
   rintro e w1 ⟨rfl,d⟩
   have m:=ab d
   clear d
   go_wp2
   go_end0
   exact ⟨rfl,by rw [l.out];exact m.out⟩
  ·rw [j] at r0
   have B:=ae _ _ 6 _ _ _ r0
   have l:Hid (P.a.tick=P.a.jM):=ab (by unfold AgA.tick;rw [hd,hc];rfl)
   have u:got.length<256:=by unfold AgA.Ez at q;rw [hc] at q;exact q
   have C:=ab (og a h P x G O w r.out tv of got hc u)
   clear hd hc i j r0
   go_enter Tryz.func85,Tryz.ntmps85
   go_wp2_with fail
   refine C.out.mono ?_
   rintro e w1 ⟨rfl,d⟩
   have m:=ab d
   clear d
   go_wp2
   refine aI (dF rfl _ _ _) rfl ?_
   exact ⟨rfl,by rw [l.out];exact m.out⟩
 ·rw [i] at r0
  have c5:=ae _ _ 5 _ _ _ r0
  have l:Hid (P.a.tick=P.a.gW 13):=ab (by unfold AgA.tick;rw [hd];rfl)
  clear hd i r0 o
  go_enter Tryz.func85,Tryz.ntmps85
  go_wp2_with fail
  refine (lM a h 13 P x G O w r.out (by omega)).mono ?_
  rintro e w1 ⟨rfl,d⟩
  have m:=ab d
  clear d
  go_wp2
  refine aI (dF rfl _ _ _) rfl ?_
  exact ⟨rfl,by rw [l.out];exact m.out⟩
end Go.Proofs.YtkkfmkhbdoeglabGreatDoor
namespace Go.Proofs.YtkkfmkhbdoeglabGreatDoor
open Go.RowKit
theorem xw (a h:Nat) (P:PAg) (x:AV) (G O:Nat→Prop) (w:World) (ha:AgAt w G O a h P x) :
  Calls Tryz.prog 87 #[.pointer (some ⟨a,0,none⟩)] w fun e w'=>e = .returned (.int .u64 (P.a.V:Nat))∧w'=w:=by
 have r0:=ha.row
 unfold AV.cells at r0
 have c1:=ae _ _ 1 _ _ _ r0
 have b:=fO r0
 clear ha r0
 go_enter Tryz.func87,Tryz.ntmps87
 go_wp2
 go_ret
 exact ⟨rfl,rfl⟩
def I7 (w:World) (ev:Value) (sec:Nat) (f:Nat×Nat):Prop:=∃ b,ev = .iface 171 (.pointer (some ⟨b,0,none⟩))∧
  ((f.1≠12∧w.heap[b]?=some (.cells #[.int .i64 (f.1:Nat),.int .i64 (f.2:Nat),.nilIface] 186 (0,0)))∨
   (f.1=12∧∃ c,w.heap[b]?=some (.cells #[.int .i64 (f.1:Nat),.int .i64 (f.2:Nat),.iface 188 (.pointer (some ⟨c,0,none⟩))] 186 (0,0))∧w.heap[c]?=some (.cells #[.int .i64 ((sec:Int)-2)] 191 (0,0))))
theorem vB (a h:Nat) (P:PAg) (x:AV) (G O:Nat→Prop) (w:World) (ha:AgAt w G O a h P x) :
  Calls Tryz.prog 88 #[.pointer (some ⟨a,0,none⟩)] w fun e w'=>Below w.heap.size w w'∧match P.a.deg with
   | none=>e = .returned .nilIface
   | some f=>∃ ev,e = .returned ev∧I7 w' ev P.sec f:=by
 have r0:=ha.row
 have i:=ha.flt
 unfold AV.cells at r0
 have y:=fO r0
 clear ha
 cases hd:P.a.deg with
 | none =>
  rw [hd] at i
  have i:x.fp = .pointer none:=i
  rw [i] at r0
  have c5:=ae _ _ 5 _ _ _ r0
  clear r0 i hd
  go_enter Tryz.func88,Tryz.ntmps88
  go_wp2
  go_ret
  exact ⟨Below.rf w,rfl⟩
 | some f =>
  rw [hd] at i
  obtain ⟨b,q,-,i⟩:=i
  rw [q] at r0
  have c5:=ae _ _ 5 _ _ _ r0
  clear r0 q hd
  rcases i with ⟨j,d⟩ | ⟨j,c,-,d,l⟩
  ·have f0:=ae _ _ 0 _ _ _ d
   have f1:=ae _ _ 1 _ _ _ d
   have f2:=ae _ _ 2 _ _ _ d
   have r:=fO d
   have o:=ab (fR w (.cells #[.int .i64 (f.1:Nat),.int .i64 (f.2:Nat),.nilIface] 186))
   have m:=ab ((Below.rf w).alloc (af _) (.cells #[.int .i64 (f.1:Nat),.int .i64 (f.2:Nat),.nilIface] 186))
   clear d
   go_enter Tryz.func88,Tryz.ntmps88
   go_wp2
   go_ret
   exact ⟨m.out,_,rfl,_,rfl,.inl ⟨j,o.out⟩⟩
  ·have f0:=ae _ _ 0 _ _ _ d
   have f1:=ae _ _ 1 _ _ _ d
   have f2:=ae _ _ 2 _ _ _ d
   have r:=fO d
   have o:=ab (fR w (.cells #[.int .i64 (f.1:Nat),.int .i64 (f.2:Nat),.iface 188 (.pointer (some ⟨c,0,none⟩))] 186))
   have m:=ab ((Below.rf w).alloc (af _) (.cells #[.int .i64 (f.1:Nat),.int .i64 (f.2:Nat),.iface 188 (.pointer (some ⟨c,0,none⟩))] 186))
   have s:=ab (fQ m.out (fO l) l)
   have u:=ab j
   clear d l j
   go_enter Tryz.func88,Tryz.ntmps88
   go_wp2
   go_ret
   exact ⟨m.out,_,rfl,_,rfl,.inr ⟨u.out,c,o.out,s.out⟩⟩
def qH (w:World) (G O:Nat→Prop) (a h:Nat) (b:PAg) (r:Option Nat) (e:Ending) (w':World):Prop :=
 pa w G O a h b w'∧match r with
  | none=>e = .returned .nilIface
  | some k=>∃ ev p,e = .returned ev∧ja w' w.heap.size ev (k:Nat) p
theorem z7 (a h:Nat) (P:PAg) (x:AV) (G O:Nat→Prop) (bv:Value) (body:List UInt8) (w:World) (ha:AgAt w G O a h P x) (j:P.a.V<18446744073709551616) (d:BytesAt w bv body) (hl:body.length≤gF) :
  Calls Tryz.prog 112 #[.pointer (some ⟨a,0,none⟩),bv] w (qH w G O a h (if body=[] then {P with a:=P.a.iW} else P) (if body=[] then none else some 2)):=by
 obtain ⟨s,m,rfl,-,-⟩:=d.opened
 have i:=ab ha
 have r:gF≤1000000000000000000:=by decide
 cases body with
 | nil =>
  rw [aD rfl,aD rfl]
  clear ha d
  go_enter Tryz.func112,Tryz.ntmps112
  go_wp2_with fail
  refine (jY a h P x G O w i.out j).mono ?_
  rintro e w1 ⟨rfl,b⟩
  have o:=ab b
  clear b
  go_wp2
  go_ret
  exact ⟨o.out.go i.out.gin.2.2.2,rfl⟩
 | cons y l =>
  rw [au (by simp),au (by simp)]
  have q:(0:Int)<((y::l).length:Int):=by rw [ar];omega
  generalize (y::l).length=n at *
  clear ha d
  go_enter Tryz.func112,Tryz.ntmps112
  go_wp2_with fail
  refine (gI 2 0 w).mono ?_
  rintro e w1 ⟨rfl,rfl⟩
  go_wp2
  go_ret
  exact ⟨⟨G,O,x,i.out.below ((Below.rf w).alloc (af _) _),fun k hk=>hk.imp id .inl,Ext.fT ((Below.rf w).alloc (af _) _)⟩,_,0,rfl,ja.new w _ 2 0 (af _)⟩
end Go.Proofs.YtkkfmkhbdoeglabGreatDoor
