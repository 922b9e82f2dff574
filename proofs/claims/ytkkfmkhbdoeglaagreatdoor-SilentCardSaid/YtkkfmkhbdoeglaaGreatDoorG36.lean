/- A part of what is proved here: lemmas and contracts of single functions. No condition but those that each names. -/
import Derived.Test.YtkkfmkhbdoeglaaGreatDoorG00
import Derived.Test.YtkkfmkhbdoeglaaGreatDoorG24
import Derived.Test.YtkkfmkhbdoeglaaGreatDoorG26
import Derived.Test.YtkkfmkhbdoeglaaGreatDoorG27
import Derived.Test.YtkkfmkhbdoeglaaGreatDoorG28
import Derived.Test.YtkkfmkhbdoeglaaGreatDoorG35
set_option maxHeartbeats 4000000
set_option maxRecDepth 100000
namespace Go.Proofs.YtkkfmkhbdoeglaaGreatDoor
open Go.RowKit
theorem OwnS.GQ {w:World} {base n cap:Nat} {a:Option Addr} {xs:List Value} (h:OwnS w base 1 (.slice a n cap) n xs) (k:Nat) (hk:k≤n):OwnS w base 1 (.slice a k cap) k (xs.take k):=by
 obtain ⟨hl,b | ⟨g,off,cap',e,h1,h2,h3,h4,h5,h6⟩⟩:=h
 ·obtain ⟨e,j⟩:=b
  cases e
  obtain rfl:k=0:=by omega
  exact ⟨by simp,.inl ⟨rfl,rfl⟩⟩
 ·cases e
  refine ⟨by rw [aD];omega,.inr ⟨g,off,cap,rfl,h1,h2,by omega,h4,fun i d => ?_,h6⟩⟩
  rw [aD] at d
  rw [h5 i (by omega),List.getElem_take]
theorem RowsAt.ni {w:World} {F:Nat→Prop} {a:Option Addr} {n cap:Nat} {rows:List (List UInt8)} (h:RowsAt w F (.slice a n cap) rows) (o:n=rows.length) (k:Nat) (hk:k≤n):RowsAt w F (.slice a k cap) (rows.take k):=by
 obtain ⟨vals,h1,h2,h3,h4⟩:=h
 rw [←o] at h1
 have l:(rows.take k).length=k:=by rw [aD];omega
 have he:∀ b,(Value.slice a k cap).ownBlock=some b→(Value.slice a n cap).ownBlock=some b:=fun b d=>by cases a <;> simp [Value.ownBlock] at d⊢<;> exact d
 refine ⟨vals.take k,by rw [l];exact h1.GQ k hk,fun b d=>h2 b (he b d),fun b d=>h3 b (he b d),fun i b m => ?_⟩
 obtain ⟨j,q⟩:=aF.1 m
 rw [l] at j
 rw [bh j] at m
 obtain ⟨u,hu,hs⟩:=h4 i b m
 exact ⟨u,by rw [bh j];exact hu,hs⟩
def accS (d:List Part) (p:Nat):Nat→Nat×Nat×Nat×List E
 | 0=>(0,0,0,[])
 | 1=>lz decSB d p (0,0,0,[]) 0
 | _=>rz decSB d p []
def jf (d:List Part) (p k ver:Nat):Option (Nat×Nat×List OpB):=(List.range' (2*p) (k-2*p)).foldl (iW decDB d ver) none
theorem sm (d:List Part) (p k ver:Nat) (h:2*p≤k):jf d p (k+1) ver=iW decDB d ver (jf d p k ver) k:=by
 unfold jf
 rw [show k+1-2*p=(k-2*p)+1 by omega,List.range'_concat,dx]
 simp only [List.foldl_cons,List.foldl_nil,Nat.one_mul]
 rw [show 2*p+(k-2*p)=k by omega]
def mf (w:World) (B:Nat) (b d:List (U.K×Value)) (j:Nat→Option (Nat×Nat×List OpB)):Prop :=
 ∀ ver,match j ver with
  | none=>U.mu ver b=none∧U.mu ver d=none
  | some (st,tt,os)=>ver<18446744073709551615∧tt≤1000∧os.length≤8∧∃ l m o i,U.mu ver b=some (.agg #[.int .u64 (st:Nat),.slice l m o,.int .i64 (tt:Nat)])∧U.mu ver d=some (.agg #[.int .u64 (ver:Nat),i])∧OwnS w B 4 i os.length (fM os)
theorem mf.frame {w w':World} {B:Nat} {i j:List (U.K×Value)} {d:Nat→Option (Nat×Nat×List OpB)} (h:mf w B i j d) {D:Nat→Prop} (l:Ext D w w') (q:∀ k,D k→k<B):mf w' B i j d:=fun ver=>by
 have h1:=h ver
 cases m:d ver with
 | none=>rw [m] at h1;exact h1
 | some r =>
  obtain ⟨st,tt,os⟩:=r
  rw [m] at h1
  obtain ⟨a1,a3,a4,s,u,x,y,a5,C,o⟩:=h1
  exact ⟨a1,a3,a4,s,u,x,y,a5,C,o.frame l.size fun b e E=>l.block b E fun hd=>by have:=o.fL b e;have:=q b hd;omega⟩
theorem zr (a b c:Value) (w:World) (k:IntKind) (n:Int) (ha:a = .int k n):(Instr.field 278 (.agg #[a,b,c]) 0).run Tryz.prog w = .ok (.int k n) w:=by
 subst ha
 kernel_rfl
theorem vW:∀ u:World,(zeroValue 278).run Tryz.prog u = .ok (.agg #[.int .u64 0,.slice none 0 0,.int .i64 0]) u:=fun u=>by kernel_rfl
theorem vS:∀ u:World,(zeroValue 34).run Tryz.prog u = .ok (.agg #[.int .u64 0,.slice none 0 0]) u:=fun u=>by kernel_rfl
theorem Ci {d:List Part} {p k:Nat} (hk:k<2):accS d p (k+1)=lz decSB d p (accS d p k) k:=by
 match k,hk with
 | 0,_=>rfl
 | 1,_=>rfl
theorem wo (d:List Part) (p:Nat) (acc:Nat×Nat×Nat×List E) (s:Nat) (h:acc.2.2.1<18446744073709551615):(lz decSB d p acc s).2.2.1<18446744073709551615:=by
 unfold lz
 split
 ·split
  ·split
   ·rename_i v t hd
    unfold decSB at hd
    split at hd
    ·rename_i r b
     cases hd
     exact jH (np b).1
    ·cases hd
   ·exact h
  ·exact h
 ·exact h
theorem Ak (d:List Part) (p:Nat):(rz decSB d p []).2.2.1<18446744073709551615:=wo d p _ 1 (wo d p _ 0 (by decide))
def FV (wr:World) (B r1 lg h q r ms slot s v0 p:Nat) (u:List E) (l m:List (U.K×Value)) (d:Nat→Option (Nat×Nat×List OpB)) (vv nv:Value) (b:World):Prop :=
 ∃ j st v' o T',vv = .int .u64 (v':Nat)∧nv = .int .u64 (st:Nat)∧v'<18446744073709551615∧EntAt b q 0 r T'∧LogAt b lg h ⟨ms,slot,o⟩∧U.fF b r1 l∧U.fF b (r1+1) m∧mf b B l m d∧(∀ f,jV foldS d (f+j) s v0 u (2*p)=jV foldS d f st v' T' o)∧Ext (fun i=>i=lg∨i=r) wr b
theorem yT {b:Nat→Option (Nat×Nat×List OpB)} {l v0 j st v q d i:Nat} {m T:List E} {os:List OpB} {o:Nat} (h:∀ f,jV foldS b (f+j) l v0 m o=jV foldS b f st v T q) (r:b (v+1)=some (d,i,os)) (hs:¬d<st) :
  ∀ f,jV foldS b (f+(j+1)) l v0 m o=jV foldS b f d (v+1) (foldS T os) i:=fun f=>by
 rw [show f+(j+1)=(f+1)+j by omega,h (f+1)]
 conv=>lhs;unfold jV
 simp only [r]
 rw [au hs]
theorem AW {d:Nat→Option (Nat×Nat×List OpB)} {l v0 j st v m:Nat} {q T:List E} {r:Nat} (h:∀ f,jV foldS d (f+j) l v0 q r=jV foldS d f st v T m) (i:d (v+1)=none∨∃ a b o,d (v+1)=some (a,b,o)∧a<st) (N:Nat):jV foldS d (N+1+j) l v0 q r=(v,T,m):=by
 rw [h (N+1)]
 conv=>lhs;unfold jV
 rcases i with i | ⟨a,b,o,i,hs⟩
 ·simp only [i]
 ·simp only [i]
  rw [aB hs]
theorem El (h:Nat) (F:Nat→Prop) (H:fx) (B:Nat) (w:World) (s:HostAt w F h H) (d:HostOk H B) (f:Nat) (D:(readAll H).2=some f) :
  Calls Tryz.prog 136 #[.iface 188 (.agg #[.pointer (some ⟨h,0,none⟩)])] w fun e w'=>∃ v,e = .returned (.tuple #[.pointer none,.int .u64 0,.pointer none,v])∧jZ w w' v f∧HostAt w' F h (readAll H).1∧Ext F w w':=by
 have b:Below w.heap.size w (w.alloc (.cells #[.iface 188 (.agg #[.pointer (some ⟨h,0,none⟩)]),.int .u64 0,.int .i64 0,.int .i64 0] 253)):=(Below.rf w).alloc (af _) _
 have hl:LogAt (w.alloc (.cells #[.iface 188 (.agg #[.pointer (some ⟨h,0,none⟩)]),.int .u64 0,.int .i64 0,.int .i64 0] 253)) w.heap.size h ⟨0,0,0⟩:=fA w _
 have u:¬F w.heap.size:=fun e=>by have:=s.lt _ e;omega
 have j:=ab (uk w.heap.size h F H ⟨0,0,0⟩ B _ hl (s.below b) d u)
 have l:=ab b
 clear s d b hl
 go_enter Tryz.func136,Tryz.ntmps136
 go_wp2_with fail
 refine j.out.mono ?_
 rintro e w2 ⟨m,o,q⟩
 rw [D] at q
 obtain ⟨v,rfl,r⟩:=q
 have x:=ab r
 obtain ⟨E,rfl,-,-⟩:=r
 have y:=ab m
 have C:=ab o
 clear m o j
 go_wp2
 refine aI (v := .tuple #[.pointer none,.int .u64 0,.pointer none,.iface 168 (.pointer (some ⟨E,0,none⟩))]) (by simp [results,Tryz.results136,go_sem]) rfl ?_
 exact ⟨_,rfl,x.out.mono l.out.size,y.out,(Ext.fD l.out).trans' C.out fun i e=>e.imp id fun e=>by rw [e];exact af _⟩
structure sT (w3:World) (B lg h st0 p:Nat) (d:List Part) (k q r:Nat) (vv tv nv:Value) (wr:World):Prop where
 nv:nv = .int .u64 ((accS d p k).1:Nat)
 vv:vv = .int .u64 ((accS d p k).2.2.1:Nat)
 tv:tv = .pointer (some ⟨q,0,none⟩)
 ent:EntAt wr q 0 r (accS d p k).2.2.2
 qr:B≤q∧B≤r∧q≠lg
 log:LogAt wr lg h ⟨st0,(accS d p k).2.1,0⟩
 ext:Ext (fun j=>j=lg) w3 wr
theorem CF (h:Nat) (F:Nat→Prop) (H:fx) (B:Nat) (w:World) (mm:HostAt w F h H) (c4:HostOk H B) (mA:ShapesVar w) (hY:∀ k,F k→2≤k) (slot v next:Nat) (T:List E) (hinv:DiskInv decSB decDB foldS [] (H.seen.map parseSec) (placeOf H.seen.length) slot v T next) (mI:(readAll H).2=none) :
  Calls Tryz.prog 136 #[.iface 188 (.agg #[.pointer (some ⟨h,0,none⟩)])] w fun e w'=>∃ lg q r,e = .returned (.tuple #[.pointer (some ⟨lg,0,none⟩),.int .u64 (v:Nat),.pointer (some ⟨q,0,none⟩),.nilIface])∧LogAt w' lg h ⟨gm H.seen,slot,next⟩∧EntAt w' q 0 r T∧w.heap.size≤lg∧w.heap.size≤q∧w.heap.size≤r∧q≠lg∧HostAt w' F h (readAll H).1∧Ext F w w':=by
 obtain ⟨n,mk⟩:∃ n,n=H.seen.length:=⟨_,rfl⟩
 have b2:=c4.n
 rw [←mk] at b2 hinv
 have hZ:=iT b2.1 b2.2
 obtain ⟨d,hd⟩:∃ d,d=H.seen.map parseSec:=⟨_,rfl⟩
 rw [←hd] at hinv
 have h0:d.length=n:=by rw [hd,aG,mk]
 obtain ⟨p,ma⟩:∃ p,p=placeOf n:=⟨_,rfl⟩
 rw [←ma] at hZ hinv
 have d9:=ab hinv
 have HD:=ab hd
 have HN:=ab mk
 have HP:=ab ma
 have eb:Below w.heap.size w (w.alloc (.cells #[.iface 188 (.agg #[.pointer (some ⟨h,0,none⟩)]),.int .u64 0,.int .i64 0,.int .i64 0] 253)):=(Below.rf w).alloc (af _) _
 have hl:LogAt (w.alloc (.cells #[.iface 188 (.agg #[.pointer (some ⟨h,0,none⟩)]),.int .u64 0,.int .i64 0,.int .i64 0] 253)) w.heap.size h ⟨0,0,0⟩:=fA w _
 have ec:¬F w.heap.size:=fun e=>by have:=mm.lt _ e;omega
 have ld:=ab ec
 have h7:=ab mm.lt
 have gg:=ab (uk w.heap.size h F H ⟨0,0,0⟩ B _ hl (mm.below eb) c4 ec)
 have cq:=ab c4.s64
 have ii:=ab eb
 have HG:=ab mA
 clear mm c4 eb hl mA hinv hd ma ec
 go_enter Tryz.func136,Tryz.ntmps136
 go_wp2_with fail
 have b3:(w.alloc (.cells #[.iface 188 (.agg #[.pointer (some ⟨h,0,none⟩)]),.int .u64 0,.int .i64 0,.int .i64 0] 253)).heap.size=w.heap.size+1:=ax _ _
 refine gg.out.mono ?_
 rintro e w2 ⟨gl,bk,gn⟩
 rw [mI] at gn
 obtain ⟨av,rfl,bS,c5⟩:=gn
 have ip:=ab gl
 have i0:=ab ((Ext.fD ii.out).trans' bk (T:=fun i=>F i∨i=w.heap.size) fun i e=>e.imp id fun e=>by rw [e];exact af _:Ext F w w2)
 have bI:Hid (w.heap.size+1≤w2.heap.size):=ab (by have:=bk.size;rw [b3] at this;exact this)
 have go:=ab bS
 have ed:=ab c5
 obtain ⟨ga,cr,rfl,i1,-⟩:=bS.get
 rw [←mk] at i1⊢
 clear gl bk bS c5 gg b3 mk
 go_wp2_with fail
 refine (vK n w2 b2.1 b2.2).mono ?_
 rintro e w3 ⟨rfl,rfl⟩
 rw [←HP.out]
 go_wp2_with fail
 refine (nA w3).mono ?_
 rintro e w4 ⟨rfl,gp,c6,gq⟩
 have i2:=ab gp
 have gs:=ab c6
 have i3:Hid (LogAt w4 w.heap.size h ⟨gm H.seen,0,0⟩):=ab (by
  have h1:=fy c6 (fw ed.out) ed.out
  have e:ju ⟨0,0,0⟩ H.seen H.seen.length=gm H.seen:=by unfold ju;rw [bp];exact Nat.zero_max _
  rw [e] at h1
  exact h1)
 have gt:Hid (∀ W,Ext (fun j=>j=w.heap.size) w4 W→RowsAt W (fun j=>w.heap.size+1≤j∧j<w3.heap.size) (.slice ga n cr) H.seen):=ab (fun W hW=>by
  have mC:=go.out
  rw [ax] at mC
  rw [HN.out]
  have G:Ext (fun j=>j=w.heap.size) w3 W:=(Ext.fD gs.out).trans hW
  exact mC.fP G.size fun k C t fz hk _ hF=>G.block k (fw hk) fun e'=>by
   have le:w.heap.size+1≤k∧_:=hF
   omega)
 have eg:Hid (w3.heap.size+2=w4.heap.size):=ab gq.symm
 have gu:Hid (Ext F w w4):=ab (i0.out.trans (Ext.fD c6))
 have gv:Hid (∀ W,Ext (fun j=>j=w.heap.size) w4 W→ShapesVar W):=ab (fun W hW=>by
  have h2:=HG.out.two
  have G:Ext (fun j=>F j∨j=w.heap.size) w W:=(gu.out.mono fun k => .inl).trans (hW.mono fun k => .inr)
  refine HG.out.fP G.size (G.block _ (by omega) fun e => ?_)
  rcases e with e | e
  ·have:=hY _ e
   omega
  ·omega)
 clear gp c6 gq go ed
 go_wp2_with fail
 go_loopw [10,11,12,43] (fun vv tv nv i wr=>∃ k q r:Nat,k≤2∧i = .int .i64 (k:Int)∧sT w4 w.heap.size w.heap.size h (gm H.seen) p d k q r vv tv nv wr) (fun _ _ _ i _=>2-(intOf i).toNat)
 case atStart=>exact ⟨0,w3.heap.size+1,w3.heap.size,by omega,rfl,⟨rfl,rfl,rfl,i2.out,⟨by have:=bI.out;omega,by have:=bI.out;omega,by have:=bI.out;omega⟩,i3.out,Ext.refl _ _⟩⟩
 case round =>
  obtain ⟨k,q,r,hk,rfl,hrel⟩:=hrel
  obtain ⟨rfl,rfl,rfl,bl,gz,bn,R⟩:=hrel
  have s:=ab bl
  have c7:=ab gz
  have I:=ab bn
  have bc:=ab R
  clear bl gz bn R
  by_cases Y:k<2
  ·have hz:(k:Int)<2:=by omega
   have g0:Hid (k*p≤100):=ab (by
    obtain rfl | rfl:k=0∨k=1:=by omega
    ·omega
    ·omega)
   have i5:Hid (wrap64 ((k:Int)*(p:Int))=((k*p:Nat):Int)):=ab (by
    rw [←Int.natCast_mul]
    have:=g0.out
    generalize k*p=m at *
    exact IntWalk.wrap64_in (m:Int) (by omega))
   have hA:p≤37:=by omega
   have b4:Hid (RowsAt wr (fun j=>w.heap.size+1≤j∧j<w3.heap.size) (.slice ga (2*p) cr) (H.seen.take (2*p))):=ab ((gt.out wr bc.out).ni HN.out (2*p) (by omega))
   have g1:Hid ((H.seen.take (2*p)).map parseSec=d.take (2*p)):=ab (by rw [HD.out,List.map_take])
   have g2:Hid (∀ b∈H.seen.take (2*p),b.length=64):=ab fun b md=>cq.out b (dr md)
   have ej:Hid ((H.seen.take (2*p)).length≤1000):=ab (by rw [aD,←HN.out];omega)
   have el:=ab (Ci (d:=d) (p:=p) Y)
   go_wp2_with fail
   rw [i5.out]
   refine (vJ _ _ (H.seen.take (2*p)) (k*p) wr b4.out g2.out ej.out (by have:=g0.out;omega)).mono ?_
   rintro e w5 ⟨bL,st,tt,mK,data,rfl,bo,br,bs⟩
   rw [g1.out] at bs⊢
   obtain ⟨mb,u,rfl,-,-⟩:=bo.opened
   have t6:Below w5.heap.size w5 (w5.alloc (.cells #[.int .u64 (st:Nat),.slice mb data.length u,.int .i64 (tt:Nat)] 278)):=(Below.rf w5).alloc (af _) _
   have R6:=ab (fA w5 (.cells #[.int .u64 (st:Nat),.slice mb data.length u,.int .i64 (tt:Nat)] 278))
   have Z:=ab (bL.tn t6)
   have em:=ab (bo.below t6)
   have en:=ab (fun b (e:(Value.slice mb data.length u).ownBlock=some b)=>ay (br b e).2 t6.size)
   have er:=ab bs
   clear bL bo br bs t6 b4
   go_upto_region 13 with fail
   generalize w5.alloc (.cells #[.int .u64 (st:Nat),.slice mb data.length u,.int .i64 (tt:Nat)] 278)=w6 at *
   have O:Hid (accS d p (k+1)=accS d p k→sT w4 w.heap.size w.heap.size h (gm H.seen) p d (k+1) q r (.int .u64 ((accS d p k).2.2.1:Nat)) (.pointer (some ⟨q,0,none⟩)) (.int .u64 ((accS d p k).1:Nat)) w6):=ab (fun e=>⟨by rw [e],by rw [e],rfl,by rw [e];exact s.out.below Z.out,c7.out,by rw [e];exact fy Z.out (fw I.out) I.out,bc.out.trans (Ext.fD Z.out)⟩)
   have x0:=ae _ _ 0 _ _ _ R6.out
   have x1:=ae _ _ 1 _ _ _ R6.out
   have c8:=fw R6.out
   obtain ⟨nw,eD⟩:∃ nw,nw=(accS d p k).1:=⟨_,rfl⟩
   have g3:=ab eD
   rw [←eD] at O⊢
   clear eD
   cases X:iz (d.take (2*p)) (k*p) with
   | none =>
    have M:=ab (O.out (by rw [el.out];unfold lz;rw [X]))
    clear X
    go_wp2
    go_roundw
    case rel=>exact ⟨k+1,q,r,by omega,by go_num,M.out⟩
    case measure=>simp [intOf];omega
   | some x =>
    have G:=er.out x X
    by_cases V:nw<st
    ·have bt:(nw:Int)<(st:Int):=by omega
     have eS:Hid (data.length≤fX):=ab (by
      obtain ⟨m,-,-,b5,am,-⟩:=iI.1 X
      have Y:=(iI.1 X).lt.2
      rw [G] at b5 am
      have hm:m≤300:=by
       rw [G] at Y
       have bv:(d.take (2*p)).length≤n:=by rw [aD];omega
       simp only at b5 Y
       omega
      have:=rG g2.out (at':=k*p) hm
      rw [g1.out] at this
      simp only at am
      rw [am]
      unfold fX
      omega)
     have g4:Hid (accS d p (k+1)=match decSB data with
      | some (v,t)=>(st,k,v,t)
      | none=>accS d p k):=ab (by rw [el.out];unfold lz;rw [X,G];simp only;rw [aB (by rw [←g3.out];exact V)];cases decSB data <;> rfl)
     clear X G V
     go_wp2_with fail
     refine (qe (.slice mb data.length u) data w6 em.out en.out eS.out (gv.out w6 (bc.out.trans (Ext.fD Z.out)))).mono ?_
     rintro e w7 ⟨Q,a0⟩
     have b6:=ab (Z.out.tn Q)
     have R7:=ab (fy Q c8 R6.out)
     cases l:im data with
     | inr f =>
      obtain ⟨mU,fp⟩:=f
      rw [l] at a0
      obtain ⟨ev,rfl,g,rfl,-,-⟩:=a0
      have M:Hid (sT w4 w.heap.size w.heap.size h (gm H.seen) p d (k+1) q r (.int .u64 ((accS d p k).2.2.1:Nat)) (.pointer (some ⟨q,0,none⟩)) (.int .u64 (nw:Nat)) w7):=ab (by
       have e:accS d p (k+1)=accS d p k:=by rw [g4.out];unfold decSB;rw [l]
       obtain ⟨a1,a2,a3,a4,a5,a6,m0⟩:=O.out e
       exact ⟨a1,a2,a3,a4.below Q,a5,fy Q (fw a6) a6,m0.trans (Ext.fD Q)⟩)
      clear Q l
      go_wp2
      go_roundw
      case rel=>exact ⟨k+1,q,r,by omega,by go_num,M.out⟩
      case measure=>simp [intOf];omega
     | inl y =>
      obtain ⟨vn,S⟩:=y
      rw [l] at a0
      obtain ⟨r',rfl,g5,g6⟩:=a0
      have eV:=ab g5
      have i7:=ab g6
      have g7:=ab (show LogAt w7 w.heap.size h ⟨gm H.seen,(accS d p k).2.1,0⟩ from fy b6.out (fw I.out) I.out)
      have b7:=g7.out
      unfold LogAt at b7
      have l2:=ae _ _ 2 _ _ _ b7
      have z2:=aj _ _ 2 _ _ b7
      have e0:=fw b7
      have y0:=ae _ _ 0 _ _ _ R7.out
      have k2:=fw R7.out
      have c9:Hid (accS d p (k+1)=(st,k,vn,S)):=ab (by rw [g4.out];unfold decSB;rw [l])
      have M:Hid (sT w4 w.heap.size w.heap.size h (gm H.seen) p d (k+1) (r'+1) r' (.int .u64 (vn:Nat)) (.pointer (some ⟨r'+1,0,none⟩)) (.int .u64 (st:Nat)) (w7.setCell ⟨w.heap.size,2,none⟩ (.int .i64 (k:Int)))):=ab (by
       have G:Ext (fun j=>j=w.heap.size) w7 (w7.setCell ⟨w.heap.size,2,none⟩ (.int .i64 (k:Int))):=(Ext.refl (fun j=>j=w.heap.size) w7).setCell ⟨w.heap.size,2,none⟩ _ (.inl rfl)
       have h4:=bc.out.size
       have h6:=Z.out.size
       have h2:=bI.out
       have h3:=eg.out
       have h8:=i7.out
       refine ⟨by rw [c9.out],by rw [c9.out],rfl,by rw [c9.out];exact ⟨G.cell (p:=⟨r'+1,0,none⟩) (fun e:r'+1=w.heap.size=>by omega) eV.out.cell,eV.out.tab.fP (G.block _ eV.out.tab.lt (fun e:r'=w.heap.size=>by omega))⟩,⟨by omega,by omega,by omega⟩,by rw [c9.out];exact heap_setCell _ _ 2 _ g7.out,(bc.out.trans (Ext.fD b6.out)).trans G⟩)
      clear g5 g6 b7 Q l
      go_wp2
      go_roundw
      case rel=>exact ⟨k+1,r'+1,r',by omega,by go_num,M.out⟩
      case measure=>simp [intOf];omega
    ·have bt:¬(nw:Int)<(st:Int):=by omega
     have M:=ab (O.out (by rw [el.out];unfold lz;rw [X,G];simp only;rw [au (by rw [←g3.out];exact V)]))
     clear X G V
     go_wp2
     go_roundw
     case rel=>exact ⟨k+1,q,r,by omega,by go_num,M.out⟩
     case measure=>simp [intOf];omega
  ·obtain rfl:k=2:=by omega
   obtain ⟨s0,v0,tb,f1,f2⟩:=d9.out.found
   have e1:accS d p 2=(s0,slot,v0,tb):=f1
   rw [e1] at s I⊢
   have g8:=ab f2
   have i8:Hid (v0<18446744073709551615):=ab (by
    have h:=Ak d p
    rw [f1] at h
    exact h)
   have i9:¬((2:Nat):Int)<2:=by omega
   clear f1 f2 e1
   simp only at s I⊢
   have b8:=I.out
   unfold LogAt at b8
   have l3:=ae _ _ 3 _ _ _ b8
   have z3:=aj _ _ 3 _ _ b8
   have e0:=fw b8
   have hA:p≤37:=by omega
   have j0 := @run_makeMap Tryz.prog
   clear b8
   have e2:Hid (∀ W,W=((wr.setCell ⟨w.heap.size,3,none⟩ (.int .i64 (2*(p:Int)))).alloc (.map #[] 0)).alloc (.map #[] 0)→LogAt W w.heap.size h ⟨gm H.seen,slot,2*p⟩∧EntAt W q 0 r tb∧U.fF W wr.heap.size []∧U.fF W (wr.heap.size+1) []∧W.heap.size=wr.heap.size+2∧Ext (fun j=>j=w.heap.size) w4 W):=ab (by
    rintro W rfl
    have G:Ext (fun j=>j=w.heap.size) wr (wr.setCell ⟨w.heap.size,3,none⟩ (.int .i64 (2*(p:Int)))):=(Ext.refl (fun j=>j=w.heap.size) wr).setCell ⟨w.heap.size,3,none⟩ _ (.inl rfl)
    have j1:q≠w.heap.size:=c7.out.2.2
    have j2:r≠w.heap.size:=fun e=>by
     have hl:=I.out
     unfold LogAt at hl
     exact s.out.tab.jC hl e.symm
    have he:EntAt (wr.setCell ⟨w.heap.size,3,none⟩ (.int .i64 (2*(p:Int)))) q 0 r tb:=⟨G.cell (p:=⟨q,0,none⟩) j1 s.out.cell,s.out.tab.fP (G.block _ s.out.tab.lt j2)⟩
    have md:Below (wr.setCell ⟨w.heap.size,3,none⟩ (.int .i64 (2*(p:Int)))).heap.size (wr.setCell ⟨w.heap.size,3,none⟩ (.int .i64 (2*(p:Int)))) (((wr.setCell ⟨w.heap.size,3,none⟩ (.int .i64 (2*(p:Int)))).alloc (.map #[] 0)).alloc (.map #[] 0)):=Below.al (Below.al (Below.rf _) _) _
    have e3:=heap_setCell _ _ 3 (.int .i64 (2*(p:Int))) I.out
    have m1:=U.fF.new (wr.setCell ⟨w.heap.size,3,none⟩ (.int .i64 (2*(p:Int))))
    have m2:=U.fF.new ((wr.setCell ⟨w.heap.size,3,none⟩ (.int .i64 (2*(p:Int)))).alloc (.map #[] 0))
    rw [size_setCell] at m1
    rw [ax,size_setCell] at m2
    refine ⟨?_,he.below md,m1.fP (heap_alloc_old _ _ m1.lt),m2,by rw [ax,ax,size_setCell],(bc.out.trans G).trans (Ext.fD md)⟩
    have h9:=fy md (fw e3) e3
    rw [show (2:Int)*(p:Int)=((2*p:Nat):Int) by omega] at h9⊢
    exact h9)
   go_upto_region 22 with fail
   generalize hC:((wr.setCell ⟨w.heap.size,3,none⟩ (.int .i64 (2*(p:Int)))).alloc (.map #[] 0)).alloc (.map #[] 0)=J at *
   obtain ⟨e4,cu,e5,e6,cv,hD⟩:Hid (LogAt J w.heap.size h ⟨gm H.seen,slot,2*p⟩)∧Hid (EntAt J q 0 r tb)∧Hid (U.fF J wr.heap.size [])∧Hid (U.fF J (wr.heap.size+1) [])∧Hid (J.heap.size=wr.heap.size+2)∧Hid (Ext (fun j=>j=w.heap.size) w4 J):=by
    obtain ⟨a1,a2,a3,a4,a5,a6⟩:=e2.out J rfl
    exact ⟨ab a1,ab a2,ab a3,ab a4,ab a5,ab a6⟩
   have da:Hid (w4.heap.size≤wr.heap.size):=ab bc.out.size
   have ca:=c7
   have dc:Hid (q<wr.heap.size∧r<wr.heap.size):=ab ⟨s.out.lt,s.out.tab.lt⟩
   clear e2 hC s I l3 z3 e0 j0 bc c7
   obtain ⟨r1,e7⟩:∃ r1,r1=wr.heap.size:=⟨_,rfl⟩
   have lf:=ab e7
   rw [←e7] at e5 e6 cv da dc⊢
   clear e7
   go_loopw [21] (fun i wx=>∃ (k:Nat) (L1 L2:List (U.K×Value)),2*p≤k∧k≤n∧i = .int .i64 (k:Int)∧U.fF wx r1 L1∧U.fF wx (r1+1) L2∧mf wx J.heap.size L1 L2 (jf d p k)∧Ext (fun j=>j=r1∨j=r1+1) J wx) (fun i _=>n-(intOf i).toNat)
   case atStart=>exact ⟨2*p,[],[],af _,by omega,by simp,e5.out,e6.out,(fun ver=>by unfold jf;rw [dU];exact ⟨rfl,rfl⟩),Ext.refl _ _⟩
   case round =>
    obtain ⟨k,L1,L2,g9,hk,rfl,bM,cb,ce,R⟩:=hrel
    have e8:Hid (Ext (fun j=>j=w.heap.size) w4 wr):=ab (hD.out.trans' R fun i e => .inr (by have:=da.out;rcases e with e | e <;> omega))
    have bN:=ab bM
    have bO:=ab cb
    have ci:=ab ce
    have bP:=ab R
    clear bM cb ce R
    by_cases Y:k<n
    ·have hz:(k:Int)<(n:Int):=by omega
     have b4:Hid (RowsAt wr (fun j=>w.heap.size+1≤j∧j<w3.heap.size) (.slice ga n cr) H.seen):=ab (gt.out wr e8.out)
     have ej:Hid (H.seen.length≤1000):=ab (by rw [←HN.out];omega)
     go_wp2_with fail
     refine (vJ _ _ H.seen k wr b4.out cq.out ej.out (by omega)).mono ?_
     rintro e w5 ⟨bL,st,tt,mK,data,rfl,bo,br,bs⟩
     rw [←HD.out] at bs⊢
     obtain ⟨mb,u,rfl,-,-⟩:=bo.opened
     have t6:Below w5.heap.size w5 (w5.alloc (.cells #[.int .u64 (st:Nat),.slice mb data.length u,.int .i64 (tt:Nat)] 278)):=(Below.rf w5).alloc (af _) _
     have R6:=ab (fA w5 (.cells #[.int .u64 (st:Nat),.slice mb data.length u,.int .i64 (tt:Nat)] 278))
     have Z:=ab (bL.tn t6)
     have em:=ab (bo.below t6)
     have en:=ab (fun b (e:(Value.slice mb data.length u).ownBlock=some b)=>ay (br b e).2 t6.size)
     have er:=ab bs
     have j3:=ab bL
     clear bL bo br bs t6 b4
     go_upto_region 25 with fail
     generalize w5.alloc (.cells #[.int .u64 (st:Nat),.slice mb data.length u,.int .i64 (tt:Nat)] 278)=w6 at *
     have O:Hid (∀ W,Below wr.heap.size wr W→(∀ ver,jf d p (k+1) ver=jf d p k ver)→∃ (k':Nat) (L1 L2:List (U.K×Value)),2*p≤k'∧k'≤n∧Value.int .i64 ((k:Int)+1) = .int .i64 (k':Int)∧U.fF W r1 L1∧U.fF W (r1+1) L2∧mf W J.heap.size L1 L2 (jf d p k')∧Ext (fun j=>j=r1∨j=r1+1) J W):=ab (fun W hW ma=>by
      refine ⟨k+1,L1,L2,by omega,by omega,by simp,bN.out.fP (hW.block _ bN.out.lt),bO.out.fP (hW.block _ bO.out.lt),?_,bP.out.trans (Ext.fD hW)⟩
      rw [show jf d p (k+1)=jf d p k from funext ma]
      exact mf.frame ci.out (D:=fun _=>False) (Ext.fD hW) fun _ h=>h.elim)
     have x0:=ae _ _ 0 _ _ _ R6.out
     have x1:=ae _ _ 1 _ _ _ R6.out
     have x2:=ae _ _ 2 _ _ _ R6.out
     have c8:=fw R6.out
     cases X:iz d k with
     | none =>
      have M:=ab (O.out w6 Z.out (fun ver=>by rw [sm d p k ver g9];unfold iW;rw [X]))
      clear X
      go_wp2
      go_roundw
      case rel=>exact M.out
      case measure=>simp [intOf];omega
     | some x =>
      have G:=er.out x X
      have eS:Hid (data.length≤fX):=ab (by
       obtain ⟨m,-,-,b5,am,-⟩:=iI.1 X
       have Y:=(iI.1 X).lt.2
       rw [G] at b5 am
       have hm:m≤300:=by
        rw [G] at Y
        simp only at b5 Y
        omega
       have:=rG cq.out (at':=k) hm
       rw [←HD.out] at this
       simp only at am
       rw [am]
       unfold fX
       omega)
      have kd:Hid (tt≤1000):=ab (by
       have Y:=(iI.1 X).lt.2
       rw [G] at Y
       simp only at Y
       omega)
      have e9:Hid (∀ ver,jf d p (k+1) ver=match decDB data with
       | some (v,o)=>if v=ver∧((jf d p k ver).elim 0 (·.1))<st then some (st,tt,o) else jf d p k ver
       | none=>jf d p k ver):=ab (fun ver=>by
        rw [sm d p k ver g9]
        unfold iW
        rw [X,G]
        simp only
        cases decDB data <;> rfl)
      clear X G
      go_wp2_with fail
      refine (uK (.slice mb data.length u) data w6 em.out en.out eS.out (gv.out w6 (e8.out.trans (Ext.fD Z.out)))).mono ?_
      rintro e w7 ⟨Q,a0⟩
      have b6:=ab (Z.out.tn Q)
      have R7:=ab (fy Q c8 R6.out)
      have hE:Hid (w6.heap.size≤w7.heap.size):=ab Q.size
      cases l:oU data with
      | inr f =>
       obtain ⟨mU,fp⟩:=f
       rw [l] at a0
       obtain ⟨ev,rfl,g,rfl,-,-⟩:=a0
       have M:=ab (O.out (w7.alloc (.cells #[.int .u64 0,.slice none 0 0] 34)) (b6.out.tn ((Below.rf w7).alloc (af _) _)) (fun ver=>by rw [e9.out];unfold decDB;rw [l]))
       clear Q l
       go_wp2
       go_roundw
       case rel=>exact M.out
       case measure=>simp [intOf];omega
      | inl y =>
       obtain ⟨vn,os⟩:=y
       rw [l] at a0
       obtain ⟨sv,rfl,b0⟩:=a0
       obtain ⟨sa,bb,rfl⟩:=b0.shape
       have fb:=l
       rw [nP] at fb
       have cl:=(sY _ _ _ fb).1
       have hb:Hid (vn<18446744073709551615∧os.length≤8):=ab (by
        refine ⟨?_,(pW cl).1⟩
        unfold gE at cl
        split at cl
        ·cases cl
        ·rename_i m3
         exact jH (by simpa using m3))
       have hf:Hid (decDB data=some (vn,os)):=ab (tZ l)
       have t8:Below w7.heap.size w7 (w7.alloc (.cells #[.int .u64 (vn:Nat),.slice sa os.length bb] 34)):=(Below.rf w7).alloc (af _) _
       have D8:=ab (fA w7 (.cells #[.int .u64 (vn:Nat),.slice sa os.length bb] 34))
       have co:=ab (b6.out.tn t8)
       have R8:=ab (fy t8 (fw R7.out) R7.out)
       have hg:=ab ((b0.mono (show J.heap.size≤w6.heap.size from aH bP.out.size Z.out.size)).below t8)
       clear fb cl b0 Q t8 l
       go_upto_region 27 with fail
       generalize w7.alloc (.cells #[.int .u64 (vn:Nat),.slice sa os.length bb] 34)=w8 at *
       have cB:Hid (U.fF w8 r1 L1):=ab (bN.out.fP (co.out.block _ bN.out.lt))
       have c0:Hid (U.fF w8 (r1+1) L2):=ab (bO.out.fP (co.out.block _ bO.out.lt))
       obtain ⟨cur,c1⟩:∃ cur,cur=(jf d p k vn).elim 0 (·.1):=⟨_,rfl⟩
       have hh:=ab c1
       have hG:∃ fg fi,(U.mu vn L1).getD (.agg #[.int .u64 0,.slice none 0 0,.int .i64 0]) = .agg #[.int .u64 (cur:Nat),fg,fi]:=by
        have h1:=ci.out vn
        rw [c1]
        cases ma:jf d p k vn with
        | none=>rw [ma] at h1;rw [h1.1];exact ⟨_,_,rfl⟩
        | some y =>
         obtain ⟨s',t',o'⟩:=y
         rw [ma] at h1
         obtain ⟨-,-,-,li,lk,ll,lm,a5,-⟩:=h1
         rw [a5]
         exact ⟨_,_,rfl⟩
       obtain ⟨fg,fi,fk⟩:=hG
       have ag:=cB.out.lookup (mt:=281) Tryz.underlying281 (vW w8) vn
       rw [fk] at ag
       unfold U.kV at ag
       have hH:=fun w=>zr (.int .u64 (cur:Nat)) fg fi w .u64 (cur:Nat) rfl
       have y0:=ae _ _ 0 _ _ _ R8.out
       have y1:=ae _ _ 1 _ _ _ R8.out
       have y2:=ae _ _ 2 _ _ _ R8.out
       have d0:=ae _ _ 0 _ _ _ D8.out
       have d1:=ae _ _ 1 _ _ _ D8.out
       have kf:=fw R8.out
       have kk:=fw D8.out
       clear c1 fk x0 x1 x2 c8
       by_cases V:cur<st
       ·have bt:(cur:Int)<(st:Int):=by omega
        have cp:Hid (∀ ver,jf d p (k+1) ver=if ver=vn then some (st,tt,os) else jf d p k ver):=ab (fun ver=>by
         rw [e9.out,hf.out]
         simp only
         by_cases e:ver=vn
         ·subst e
          rw [aB ⟨rfl,by rw [←hh.out];exact V⟩,aB rfl]
         ·rw [au (fun h=>e h.1.symm),au e])
        go_upto_region 28 with fail
        have hI:r1<wr.heap.size∧r1+1<wr.heap.size:=⟨bN.out.lt,bO.out.lt⟩
        have h5:=j3.out.size
        have kl:=hE.out
        have kn:w5.heap.size<w6.heap.size:=fw R6.out
        obtain ⟨W1,dk,bM,a7,b3⟩:=cB.out.update (mt:=281) Tryz.underlying281 vn (.agg #[.int .u64 (st:Nat),.slice mb data.length u,.int .i64 (tt:Nat)])
        obtain ⟨W2,dl,cb,bx,hi⟩:=(c0.out.fP (w':=W1) (a7.block _ c0.out.lt (fun e=>by cases e))).update (mt:=282) Tryz.underlying282 vn (.agg #[.int .u64 (vn:Nat),.slice sa os.length bb])
        have ko:W1.heap[w5.heap.size]?=_:=(a7.block _ kf (fun e=>by cases e;omega)).trans R8.out
        have dn:W1.heap[w7.heap.size]?=_:=(a7.block _ kk (fun e=>by cases e;omega)).trans D8.out
        have p0:=ae _ _ 0 _ _ _ dn
        have p1:=ae _ _ 1 _ _ _ dn
        have k5:=fw dn
        have hJ:Hid (U.fF W2 r1 (U.lR vn (.agg #[.int .u64 (st:Nat),.slice mb data.length u,.int .i64 (tt:Nat)]) L1)):=ab (bM.fP (bx.block _ bM.lt (fun e=>by cases e)))
        have hL:=ab cb
        have fl:Hid (Ext (fun j=>j=r1∨j=r1+1) w8 W2):=ab ((⟨a7.os,a7.tape,a7.output,a7.size,fun j mp fn=>a7.block j mp fun e=>fn (.inl (by cases e;rfl))⟩:Ext (fun j=>j=r1∨j=r1+1) w8 W1).trans ⟨bx.os,bx.tape,bx.output,bx.size,fun j mp fn=>bx.block j mp fun e=>fn (.inr (by cases e;rfl))⟩)
        have kp:Hid (W2.heap.size=w8.heap.size):=ab (by rw [hi,b3])
        have fo:Hid (∀ m,∃ (k':Nat) (L1 L2:List (U.K×Value)),2*p≤k'∧k'≤n∧Value.int .i64 ((k:Int)+1) = .int .i64 (k':Int)∧U.fF (W2.drewN m) r1 L1∧U.fF (W2.drewN m) (r1+1) L2∧mf (W2.drewN m) J.heap.size L1 L2 (jf d p k')∧Ext (fun j=>j=r1∨j=r1+1) J (W2.drewN m)):=ab (fun m=>by
         refine ⟨k+1,_,_,by omega,by omega,by simp,hJ.out,hL.out,fun ver => ?_,((bP.out.trans (Ext.fD co.out)).trans fl.out).drewN m⟩
         rw [cp.out ver,U.kU _ _ _ cB.out.yQ,U.kU _ _ _ c0.out.yQ]
         have kr:=cv.out
         by_cases e:ver=vn
         ·subst e
          rw [aB rfl,aB rfl,aB rfl]
          refine ⟨hb.out.1,kd.out,hb.out.2,_,_,_,_,rfl,rfl,?_⟩
          exact hg.out.frame (by rw [show (W2.drewN m).heap.size=W2.heap.size from rfl,kp.out];exact af _) fun b e md=>fl.out.block b md fun h=>by have:=hg.out.fL b e;omega
         ·rw [au e,au e,au e]
          exact mf.frame ci.out (D:=fun j=>j=r1∨j=r1+1) (((Ext.fD co.out).trans fl.out).drewN m) (fun j h=>by omega) ver)
        unfold U.kV at dk dl
        have hN:=dk 0
        have hO:=dk 1
        have hP:=dl 0
        have hQ:=dl 1
        have fr:∀ w:World,w.drewN 1=w.drew:=fun _=>rfl
        have fv:∀ w:World,w.drewN 0=w:=fun _=>rfl
        rw [fr,fr] at hO hQ
        rw [fv,fv] at hN hP
        clear fr fv dk dl bM cb a7 bx b3 hi ko dn V ag hH hI h5 kl kn
        go_region
        all_goals
         go_wp2
         go_roundw
         case rel=>first | exact fo.out 0 | exact fo.out 1
         case measure=>simp [intOf];omega
       ·have bt:¬(cur:Int)<(st:Int):=by omega
        have M:=ab (O.out w8 co.out (fun ver=>by
         rw [e9.out,hf.out]
         simp only
         by_cases e:vn=ver
         ·subst e
          rw [au (fun h=>V (by rw [hh.out];exact h.2))]
         ·rw [au (fun h=>e h.1)]))
        clear V
        go_wp2
        go_roundw
        case rel=>exact M.out
        case measure=>simp [intOf];omega
    ·obtain rfl:k=n:=by omega
     have i9:¬(k:Int)<(k:Int):=by omega
     have dp:jf d p k=vQ decDB d (ia d p):=by
      funext ver
      unfold jf vQ ia
      rw [h0]
     have cp:=ab dp
     clear dp
     go_upto_region 29 with fail
     obtain ⟨pk,ce⟩:∃ pk,pk=jf d p k:=⟨_,rfl⟩
     rw [←ce] at ci cp
     rw [←cp.out] at g8
     clear ce cp d9 e5 e6
     go_loopw [10,12] (fun vv nv wx=>FV wr J.heap.size r1 w.heap.size h q r (gm H.seen) slot s0 v0 p tb L1 L2 pk vv nv wx) (fun vv _ _=>18446744073709551616-(intOf vv).toNat)
     case atStart=>exact ⟨0,s0,v0,2*p,tb,rfl,rfl,i8.out,⟨bP.out.cell (p:=⟨q,0,none⟩) (show ¬(q=r1∨q=r1+1) from by have:=dc.out;omega) cu.out.cell,cu.out.tab.fP (bP.out.block _ cu.out.tab.lt fun e=>by have:=dc.out;omega)⟩,(bP.out.block _ (fw e4.out) fun e=>by have:=da.out;have:=bI.out;have:=eg.out;omega).trans e4.out,bN.out,bO.out,ci.out,fun _=>rfl,Ext.refl _ _⟩
     case round =>
      obtain ⟨j,st,v',nx,T',rfl,rfl,ln,bl,bn,hj,hn,ho,hp,R⟩:=hrel
      rename World=>wl
      have s:=ab bl
      have I:=ab bn
      have c3:=ab hj
      have bz:=ab hn
      have hr:=ab ho
      have hs:=ab hp
      have ht:=ab R
      have hu:IntKind.u64.wrap ((v':Int)+1)=((v'+1:Nat):Int):=by rw [show ((v':Int)+1)=((v'+1:Nat):Int) by omega];exact IntWalk.u64_in _ (by omega)
      have lo:=ab hu
      obtain ⟨v1,f0⟩:∃ v1,v1=v'+1:=⟨_,rfl⟩
      have ds:=ab f0
      rw [←f0] at hu
      have ag:=c3.out.jW (mt:=281) Tryz.underlying281 (vW _) v1
      have N:=bz.out.lookup (mt:=282) Tryz.underlying282 (vS _) v1
      have h1:=hr.out v1
      have hv:Hid (Ext (fun i=>w.heap.size≤i) w4 wl):=ab ((e8.out.mono fun i e=>by rw [e];exact af _).trans (ht.out.mono fun i e=>by rcases e with e | e;rw [e];exact af _;rw [e];exact ca.out.2.1))
      have dv:Hid (∀ W,Below wl.heap.size wl W→(pk v1=none∨∃ a b o,pk v1=some (a,b,o)∧a<st)→∃ lg q' r',Ending.returned (.tuple #[.pointer (some ⟨w.heap.size,0,none⟩),.int .u64 (v':Nat),.pointer (some ⟨q,0,none⟩),.nilIface]) = .returned (.tuple #[.pointer (some ⟨lg,0,none⟩),.int .u64 (v:Nat),.pointer (some ⟨q',0,none⟩),.nilIface])∧LogAt W lg h ⟨gm H.seen,slot,next⟩∧EntAt W q' 0 r' T∧w.heap.size≤lg∧w.heap.size≤q'∧w.heap.size≤r'∧q'≠lg∧HostAt W F h (readAll H).1∧Ext F w W):=ab (fun W hW m4=>by
       have h1:=AW hs.out (by rw [←ds.out];exact m4) d.length
       rw [g8.out _ (by omega)] at h1
       injection h1 with h1 h2
       injection h2 with h2 h3
       subst h1 h2 h3
       refine ⟨w.heap.size,q,r,rfl,fy hW (fw I.out) I.out,s.out.below hW,af _,ca.out.1,ca.out.2.1,ca.out.2.2,?_,(gu.out.trans' hv.out fun i e => .inr e).trans (Ext.fD hW)⟩
       exact ip.out.ext (S:=fun i=>w.heap.size≤i) ((Ext.fD gs.out).trans (hv.out.trans (Ext.fD hW))) fun k hk e=>by have:=h7.out k hk;omega)
      clear bl bn hj hn ho hp R f0
      cases ma:pk v1 with
      | none =>
       rw [ma] at h1
       rw [h1.1] at ag
       unfold U.kV at ag
       simp only [Option.getD_none,Option.isSome_none] at ag
       have d2:=ab ma
       have bd:Hid (Below wl.heap.size wl (wl.alloc (.cells #[.int .u64 0,.slice none 0 0,.int .i64 0] 278))):=ab ((Below.rf wl).alloc (af _) _)
       clear ma h1 N
       go_wp2
       refine aI (v := .tuple #[.pointer (some ⟨w.heap.size,0,none⟩),.int .u64 (v':Nat),.pointer (some ⟨q,0,none⟩),.nilIface]) (by simp [results,Tryz.results136,go_sem]) rfl ?_
       exact dv.out _ bd.out (.inl d2.out)
      | some y =>
       obtain ⟨bi,bD,os⟩:=y
       rw [ma] at h1
       obtain ⟨b1,m5,m6,ta,tn,tc,sv,mE,ms,mv⟩:=h1
       rw [mE] at ag
       rw [ms] at N
       have hw:=ms
       unfold U.kV at ag N
       simp only [bF,Option.isSome_some] at ag N
       obtain ⟨sa,bb,rfl⟩:=mv.shape
       have HO:=ab mv
       have d2:=ab ma
       have t6:Below wl.heap.size wl (wl.alloc (.cells #[.int .u64 (bi:Nat),.slice ta tn tc,.int .i64 (bD:Nat)] 278)):=(Below.rf wl).alloc (af _) _
       have R6:=ab (fA wl (.cells #[.int .u64 (bi:Nat),.slice ta tn tc,.int .i64 (bD:Nat)] 278))
       have bd:=ab t6
       clear ma mE ms mv t6
       by_cases V:bi<st
       ·have bt:(bi:Int)<(st:Int):=by omega
        clear N
        go_wp2
        refine aI (v := .tuple #[.pointer (some ⟨w.heap.size,0,none⟩),.int .u64 (v':Nat),.pointer (some ⟨q,0,none⟩),.nilIface]) (by simp [results,Tryz.results136,go_sem]) rfl ?_
        exact dv.out _ bd.out (.inr ⟨_,_,_,d2.out,V⟩)
       ·have bt:¬(bi:Int)<(st:Int):=by omega
        clear N
        go_upto_region 33 with fail
        generalize wl.alloc (.cells #[.int .u64 (bi:Nat),.slice ta tn tc,.int .i64 (bD:Nat)] 278)=wA at *
        have N:=(show U.fF wA.drew (r1+1) L2 from bz.out.fP (bd.out.block _ bz.out.lt)).lookup (mt:=282) Tryz.underlying282 (vS _) v1
        rw [hw] at N
        unfold U.kV at N
        simp only [bF] at N
        go_still_tail 7,(by kernel_rfl)
        go_wp2_with fail
        refine (vM q 0 r T' v1 (.slice sa os.length bb) os wA.drew ⟨(s.out.below bd.out).cell,(s.out.below bd.out).tab.fP rfl⟩ ((HO.out.below bd.out).sliceAt.below ((Below.rf wA).drew)) (by omega)).mono ?_
        rintro e w2 ⟨rfl,f3,bk⟩
        have f4:r≠w.heap.size:=fun e=>by
         have hl:=I.out
         unfold LogAt at hl
         exact s.out.tab.jC hl e.symm
        have kt:r<wl.heap.size:=s.out.tab.lt
        have R2:w2.heap[wl.heap.size]?=_:=(bk.block _ (show wl.heap.size<wA.drew.heap.size from fw R6.out) (fun e=>by omega)).trans R6.out
        have d3:Ext (fun i=>i=r) wl w2:=(Ext.fD bd.out).drew.trans bk
        have bv:LogAt w2 w.heap.size h ⟨gm H.seen,slot,nx⟩:=(d3.block _ (fw I.out) (fun e=>f4 e.symm)).trans I.out
        have M:Hid (FV wr J.heap.size r1 w.heap.size h q r (gm H.seen) slot s0 v0 p tb L1 L2 pk (.int .u64 (v1:Nat)) (.int .u64 (bi:Nat)) (w2.setCell ⟨w.heap.size,3,none⟩ (.int .i64 (bD:Nat)))):=ab (by
         have f5:Ext (fun i=>i=w.heap.size) w2 (w2.setCell ⟨w.heap.size,3,none⟩ (.int .i64 (bD:Nat))):=(Ext.refl (fun i=>i=w.heap.size) w2).setCell ⟨w.heap.size,3,none⟩ _ (.inl rfl)
         have d4:Ext (fun i=>i=w.heap.size∨i=r) wl (w2.setCell ⟨w.heap.size,3,none⟩ (.int .i64 (bD:Nat))):=(d3.mono fun _ => .inr).trans (f5.mono fun _ => .inl)
         have kr:=cv.out
         have h8:=da.out
         have h9:=bI.out
         have lq:=eg.out
         have ls:=dc.out
         refine ⟨j+1,bi,v1,bD,foldS T' os,rfl,rfl,b1,⟨f5.cell (p:=⟨q,0,none⟩) (show ¬q=w.heap.size from ca.out.2.2) (d3.cell (p:=⟨q,0,none⟩) s.out.ne s.out.cell),f3.fP (f5.block _ f3.lt f4)⟩,heap_setCell _ _ 3 _ bv,c3.out.fP (d4.block _ c3.out.lt (show ¬(r1=w.heap.size∨r1=r) by omega)),bz.out.fP (d4.block _ bz.out.lt (show ¬(r1+1=w.heap.size∨r1+1=r) by omega)),hr.out.frame d4 (fun i e=>by omega),?_,ht.out.trans d4⟩
         have hc:=yT hs.out (by rw [←ds.out];exact d2.out) V
         rw [←ds.out] at hc
         exact hc)
        have x2:=ae _ _ 2 _ _ _ R2
        have x0:=ae _ _ 0 _ _ _ R2
        have lc:=fw R2
        unfold LogAt at bv
        have l3:=ae _ _ 3 _ _ _ bv
        have z3:=aj _ _ 3 _ _ bv
        have e0:=fw bv
        have kw:=ab b1
        clear R2 d3 bv f3 bk ag N hw b1 m5 m6 f4 kt
        go_wp2
        go_roundw
        case rel=>exact M.out
        case measure =>
         have h1:=ds.out
         have h2:=kw.out
         simp [intOf]
         omega
end Go.Proofs.YtkkfmkhbdoeglaaGreatDoor
