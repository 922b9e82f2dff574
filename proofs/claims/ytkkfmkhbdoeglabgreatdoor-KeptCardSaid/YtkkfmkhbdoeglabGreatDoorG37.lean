/- A part of what is proved here: lemmas and contracts of single functions. No condition but those that each names. -/
import Derived.Test.YtkkfmkhbdoeglabGreatDoorG00
import Derived.Test.YtkkfmkhbdoeglabGreatDoorG13
import Derived.Test.YtkkfmkhbdoeglabGreatDoorG20
import Derived.Test.YtkkfmkhbdoeglabGreatDoorG29
import Derived.Test.YtkkfmkhbdoeglabGreatDoorG36
set_option maxHeartbeats 8000000
set_option maxRecDepth 100000
namespace Go.Proofs.YtkkfmkhbdoeglabGreatDoor
open Go.RowKit Go.Shelf
theorem DE (H:fP) (n:Nat) (s:List UInt8):H.dp.Same (H.write n s).1.dp:=by
 unfold fP.write
 split
 ·exact DpS.Same.refl _
 ·exact mB _
theorem CE (H:fP):H.dp.Same H.flush.1.dp:=by
 unfold fP.flush
 split
 ·exact DpS.Same.refl _
 ·split <;> exact mB _
theorem uJ:∀ (l:List (List UInt8)) (H:fP) (n:Nat),H.dp.Same (gH l H n).1.dp
 | [],_,_=>DpS.Same.refl _
 | s::l,H,n=>by
  unfold gH
  have h1:=DE H n s
  generalize H.write n s=q at h1⊢
  obtain ⟨b,d⟩:=q
  cases d with
  | some f=>exact h1
  | none=>exact h1.trans (uJ l b (n+1))
theorem rq (H:fP) (g:LogS) (at':Nat) (data:List UInt8):H.dp.Same (fV H g at' data).1.dp:=by
 unfold fV
 have h1:=uJ (gA (g.stamp+1) data) H at'
 generalize gH (gA (g.stamp+1) data) H at'=q at h1⊢
 obtain ⟨b,d⟩:=q
 cases d with
 | some f=>exact h1
 | none=>exact h1.trans (CE b)
theorem sJ (H:fP) (g:LogS) (v:Nat) (T:List E):H.dp.Same (gd H g v T).1.dp:=by
 unfold gd
 have h1:=rq H g ((1-g.slot)*placeOf H.seen.length) (gX v T)
 generalize fV H g ((1-g.slot)*placeOf H.seen.length) (gX v T)=q at h1⊢
 obtain ⟨d,b⟩:=q
 cases b <;> exact h1
theorem sK (H:fP) (g:LogS) (b:List UInt8):H.dp.Same (gM H g b).1.dp:=by
 unfold gM
 have h1:=rq H g g.next b
 generalize fV H g g.next b=q at h1⊢
 obtain ⟨i,d⟩:=q
 cases d <;> exact h1
theorem AQ (H:fP) (g:LogS) (b:List UInt8) (v:Nat) (T:List E):H.dp.Same (gY H g b v T).1.dp:=by
 unfold gY
 split
 ·have h1:=sJ H g v T
  generalize gd H g v T=q at h1⊢
  obtain ⟨d,g1,i⟩:=q
  cases i with
  | some f=>exact h1
  | none=>exact h1.trans (sK d g1 b)
 ·exact sK H g b
theorem EntGood.small {x:E} (h:EntGood x):0≤x.1.1∧x.1.1<256∧x.1.2.length≤100∧x.2.length≤100:=by
 obtain ⟨h1,h2,h3,h4⟩:=h
 have b:=js h3
 have d:=iT h1 h2 h4
 have i:=tE x.1.1
 have j:=tT x.1.1
 exact ⟨h1,by omega,by omega,by omega⟩
theorem wZ {S:List E} (h:∀ x∈S,EntGood x):sizeS S≤201*S.length:=by
 induction S with
 | nil=>simp [sizeS]
 | cons x S ih =>
  have h1:=ih fun y b=>h y (aR _ b)
  obtain ⟨-,-,h3,h4⟩:=(h x (by simp)).small
  unfold sizeS at h1⊢
  rw [bq,List.sum_cons,ar]
  omega
theorem FJ (n B a h d i:Nat) (l:List Int) (F G O:Nat→Prop) (H:fP) (P:PAg) (x:AV) (bv:Value) (body:List UInt8) (w:World) (hm:ic w F G O a h H P x) (hu:UpAg n l H P) (Q:HostOk H B) (hB:B≤800000000) (R:P.lg.stamp<8999999999999999999)
  (I:BytesAt w bv body) (u:∀ k,bv.ownBlock=some k→¬F k∧k≠x.lg∧k<w.heap.size) (S:body.length≤700) (ha:w.cell? ⟨d,0,none⟩=some (.pointer (some ⟨a,0,none⟩))) (C:w.cell? ⟨i,0,none⟩=some bv) (o:(¬F d∧d≠x.lg)∧¬F i∧i≠x.lg) :
  uU 154 #[.pointer (some ⟨d,0,none⟩),.pointer (some ⟨i,0,none⟩)] w x F h (gY H P.lg body P.a.V P.a.T):=by
 intro W D
 have b:=hm.below D
 have j:=b.ag.row
 unfold AV.cells rY at j
 have c1:=ae _ _ 1 _ _ _ j
 have c2:=ae _ _ 2 _ _ _ j
 have c0:=ae _ _ 0 _ _ _ j
 have U:=fO j
 have J:=(D.cell (p:=⟨d,0,none⟩) (fU ha)).trans ha
 have M:=(D.cell (p:=⟨i,0,none⟩) (fU C)).trans C
 obtain ⟨X,Z,rfl,-,-⟩:=I.opened
 have E:=I.below D
 have m:=b.ag.gin
 have aa:=ab (fun (Y:World) (s:Below W.heap.size W Y)=>CV x.lg h F H P.lg B a 0 x.r P.a.V P.a.T (.slice X body.length Z) body Y (fQ s (fO b.ag.log) b.ag.log) (b.host.below s) Q hB (fun e=>b.fg _ e m.2.2.1)
  ⟨(s.cell (p:=⟨a,0,none⟩) U).trans c0,b.ag.tab.gr (s.block _ b.ag.tab.lt)⟩ ⟨fun e=>b.fg _ e m.1,fun e=>iQ b.ag.row b.ag.log (by decide) e⟩ ⟨fun e=>b.fg _ e m.2.1,fun e=>b.ag.tab.jZ b.ag.log e.symm⟩
  hu.slot (by rw [hu.len];exact hu.tab.size) (by have:=hu.tab.len;omega) (by have:=hu.tab.v64;omega) (fun y hy=>(hu.tab.good y hy).small) R (E.below s) (fun k e=>⟨(u k e).1,(u k e).2.1,by have:=(u k e).2.2;have:=D.size;have:=s.size;omega⟩) S (by rw [hu.len];exact hu.disk.next))
 have halt:=fU J
 have am:=fU M
 have q:=ab (show ¬(F d∨d=x.lg)∧¬(F i∨i=x.lg)∧¬(F a∨a=x.lg) from ⟨fun e=>e.elim o.1.1 o.1.2,fun e=>e.elim o.2.1 o.2.2,fun e=>e.elim (fun e=>b.fg _ e m.1) fun e=>iQ b.ag.row b.ag.log (by decide) e⟩)
 clear hm b j I E m ha C
 go_enter Tryz.func154,Tryz.ntmps154
 go_wp2
 go_region_held3 (fun w'=>w'.cell? ⟨d,0,none⟩=some (.pointer (some ⟨a,0,none⟩))∧w'.cell? ⟨i,0,none⟩=some (.slice X body.length Z)∧w'.cell? ⟨a,2,none⟩=some (.pointer (some ⟨x.lg,0,none⟩))∧w'.cell? ⟨a,1,none⟩=some (.int .u64 (P.a.V:Nat)))
  (first | exact ⟨J,M,c2,c1⟩ | (obtain ⟨F',g1,g2,g3⟩:=h3;exact ⟨g3.cell (p:=⟨d,0,none⟩) q.out.1 J,g3.cell (p:=⟨i,0,none⟩) q.out.2.1 M,g3.cell (p:=⟨a,2,none⟩) q.out.2.2 c2,g3.cell (p:=⟨a,1,none⟩) q.out.2.2 c1⟩))
  (first | (go_at_call 155;refine (aa.out _ (by first | exact (Below.rf W).drew | exact Below.rf W)).mono ?_;rintro e w1 ⟨rv,rfl,h1,h2,h3,h4⟩))
 all_goals
  have N:=ab (⟨h1,h2,h3⟩:xU _ w1 rv (gY H P.lg body P.a.V P.a.T).2.2∧LogAt w1 x.lg h (gY H P.lg body P.a.V P.a.T).2.1∧iy _ F (fun k=>k=x.lg) h (gY H P.lg body P.a.V P.a.T).1 w1)
  clear h1 h2 h3 h4
  go_wp2
  go_ret
  exact ⟨_,rfl,N.out.1,N.out.2.1,iy.gD ((Below.rf W).drew) N.out.2.2⟩
def iv (w:World) (M:Nat→Prop) (a h:Nat) (R:(fP×PAg)×Option Nat) (e:Ending) (w':World):Prop :=
 kv w M a h R.1.1 R.1.2 w'∧match R.2 with
  | none=>e = .returned .nilIface
  | some k=>∃ ev p,e = .returned ev∧ja w' w.heap.size ev (k:Nat) p
def nO (H:fP) (P:PAg) (body:List UInt8):(fP×PAg)×Option Nat:=match pt body with
 | .inr f=>((H,P),some f.1)
 | .inl (v,os)=>(if v≤P.a.V then (H,{P with a:=P.a.lQ}) else if P.a.V+1<v then (H,{P with a:=P.a.iW}) else oC H P v (foldS P.a.T os) (gY H P.lg body P.a.V P.a.T),none)
theorem Gw {k:K} {v:List UInt8} {S:List E} {l:List E} (h:∀ x,x∈S↔x∈l) (hk:k∉l.map (·.1)) (x:E):x∈ke k v S↔x∈l++[(k,v)]:=by
 rw [jA,bE,ax,h]
 constructor
 ·rintro (h | ⟨h,-⟩)
  ·exact .inr h
  ·exact .inl h
 ·rintro (h1 | h1)
  ·exact .inr ⟨h1,fun e=>hk (aB.2 ⟨x,h1,e⟩)⟩
  ·exact .inl h1
theorem z8 (n B a h:Nat) (l:List Int) (F G O M:Nat→Prop) (H:fP) (P:PAg) (x:AV) (bv:Value) (body:List UInt8) (w:World) (hm:ic w F G O a h H P x) (hM:∀ k,F k∨G k∨O k→M k) (hu:UpAg n l H P) (hQ:32≤n∧n≤128) (c4:HostOk H B) (hB:B≤800000000) (fa:P.lg.stamp<8999999999999999999) (hL:H.dp.log.length≤7500000000000)
  (hJ:BytesAt w bv body) (c5:∀ k,bv.ownBlock=some k→¬F k∧k≠x.lg∧k<w.heap.size) (fb:body.length≤gF) (bx:ShapesVar w) :
  Calls Tryz.prog 111 #[.pointer (some ⟨a,0,none⟩),bv] w (iv w M a h (nO H P body)):=by
 obtain ⟨hH,hI,rfl,-,-⟩:=hJ.opened
 have W:Below w.heap.size w ((w.alloc (.cells #[.pointer (some ⟨a,0,none⟩)] 134)).alloc (.cells #[.slice hH body.length hI] 112)):=Below.al (Below.al (Below.rf w) _) _
 have ba:=fX (w.alloc (.cells #[.pointer (some ⟨a,0,none⟩)] 134)) (.cells #[.slice hH body.length hI] 112) (fR w (.cells #[.pointer (some ⟨a,0,none⟩)] 134))
 have X:=fR (w.alloc (.cells #[.pointer (some ⟨a,0,none⟩)] 134)) (.cells #[.slice hH body.length hI] 112)
 have hd:((w.alloc (.cells #[.pointer (some ⟨a,0,none⟩)] 134)).alloc (.cells #[.slice hH body.length hI] 112)).heap.size=w.heap.size+2:=by rw [aw,aw]
 rw [aw] at X
 have J:=ab hm
 have bb:=ab hM
 have m:=ab hu
 have fc:=ab c4
 have D:=ab c5
 obtain ⟨R,hR⟩:∃ R,R=nO H P body:=⟨_,rfl⟩
 have HR:=ab hR
 rw [←hR]
 have b:=hJ.below W
 have bz:=bx.gr W.size (W.block _ bx.two)
 clear hm hM hu c4 c5 hR bx hJ
 go_enter Tryz.func111,Tryz.ntmps111
 go_upto_region 1 with fail
 generalize (w.alloc (.cells #[.pointer (some ⟨a,0,none⟩)] 134)).alloc (.cells #[.slice hH body.length hI] 112)=w0 at *
 have c6:=ab W
 have fd:=ab (vq (.slice hH body.length hI) body w0 b (fun k e=>by have:=(D.out k e).2.2;omega) fb bz)
 have a0:=ae _ _ 0 _ _ _ ba
 have b0:=ae _ _ 0 _ _ _ X
 have bD:=fO ba
 have bH:=fO X
 have fg:=ab ba
 have e1:=ab X
 have fi:=ab b
 clear W ba X b bz
 go_wp2_with fail
 refine fd.out.mono ?_
 rintro e w1 ⟨b,bc⟩
 have bI:=ab (c6.out.tn b)
 have be:=fQ b bD fg.out
 have N:=fQ b bH e1.out
 cases i:pt body with
 | inr f =>
  obtain ⟨hO,fp⟩:=f
  rw [i] at bc
  obtain ⟨ev,rfl,c7⟩:=bc
  have fk:=ab c7
  obtain ⟨g,rfl,-,-⟩:=c7
  have d:Hid (R=((H,P),some hO)):=ab (by rw [HR.out];unfold nO;rw [i])
  have c8:Below w1.heap.size w1 (w1.alloc (.cells #[.int .u64 0,.slice none 0 0] 51)):=(Below.rf w1).alloc (af _) _
  have bL:=ab c8
  clear i b c8 be N
  go_wp2
  refine aI (v := .iface 171 (.pointer (some ⟨g,0,none⟩))) (by simp [results,Tryz.results111,go_sem]) rfl ?_
  unfold iv
  rw [d.out]
  refine ⟨⟨M,⟨F,G,O,x,(J.out.below bI.out).below bL.out,bb.out⟩,fun k => .inl,(Ext.fT bI.out).trans (Ext.fT bL.out)⟩,_,fp,rfl,?_⟩
  obtain ⟨g',hP,hS,hN⟩:=fk.out
  exact ⟨g',hP,by omega,fQ bL.out (fO hN) hN⟩
 | inl y =>
  obtain ⟨v,os⟩:=y
  rw [i] at bc
  obtain ⟨sv,rfl,a1⟩:=bc
  obtain ⟨sa,s,rfl⟩:=a1.shape
  have bN:=i
  rw [nN] at bN
  obtain ⟨bO,bi⟩:=uZ _ _ _ bN
  have fn:=ab bi
  have bP:=ab bO
  have fo:=ab (lN bO)
  have d:Hid (R=(if v≤P.a.V then (H,{P with a:=P.a.lQ}) else if P.a.V+1<v then (H,{P with a:=P.a.iW}) else oC H P v (foldS P.a.T os) (gY H P.lg body P.a.V P.a.T),none)):=ab (by rw [HR.out];unfold nO;rw [i])
  have t2:Below w1.heap.size w1 (w1.alloc (.cells #[.int .u64 (v:Nat),.slice sa os.length s] 51)):=(Below.rf w1).alloc (af _) _
  have D2:=fR w1 (.cells #[.int .u64 (v:Nat),.slice sa os.length s] 51)
  have fr:=ab (a1.below t2)
  have u:=ab (bI.out.tn t2)
  have bk:=fQ t2 (fO be) be
  have Q:=fQ t2 (fO N) N
  have hf:=b.size
  clear bN bO bi a1 i b be N HR
  go_upto_region 11 with fail
  generalize w1.alloc (.cells #[.int .u64 (v:Nat),.slice sa os.length s] 51)=w2 at *
  have bX:=J.out.below u.out
  have j:=bX.ag.row
  unfold AV.cells rY at j
  have c1:=ae _ _ 1 _ _ _ j
  have c0:=ae _ _ 0 _ _ _ j
  have gv:=fO j
  have d0:=ae _ _ 0 _ _ _ D2
  have d1:=ae _ _ 1 _ _ _ D2
  have gz:=fO D2
  have a2:=ae _ _ 0 _ _ _ bk
  have b2:=ae _ _ 0 _ _ _ Q
  have g0:=fO bk
  have g1:=fO Q
  have I:=ab bX
  have c9:=ab D2
  have b1:=ab bk
  have e2:=ab Q
  have e3:=m.out.tab.v64
  clear bX j D2 bk Q a0 b0 bD bH t2
  obtain ⟨V,hV⟩:∃ V,V=P.a.V:=⟨_,rfl⟩
  have HV:=ab hV
  rw [←hV] at c1 e3 d
  clear hV
  by_cases h1:v≤V
  ·have fv:(v:Int)≤(V:Int):=by omega
   rw [aD h1] at d
   clear h1
   go_region
   all_goals
    go_wp2_with fail
    refine (pe a h P x G O _ (I.out.below ((Below.rf w2).drew)).ag (by rw [←HV.out];omega)).mono ?_
    rintro e w3 ⟨rfl,Y⟩
    have HG:=ab (ic.oX (M:=M) (I.out.below ((Below.rf w2).drew)) (fun k hk => .inl (bb.out k hk)) (Ext.fT (u.out.tn ((Below.rf w2).drew))) Y)
    clear Y
    go_wp2
    go_ret
    unfold iv
    rw [d.out]
    exact ⟨HG.out,rfl⟩
  ·have fv:¬(v:Int)≤(V:Int):=by omega
   rw [au h1] at d
   have hg:IntKind.u64.wrap ((V:Int)+1)=((V+1:Nat):Int):=by rw [show ((V:Int)+1)=((V+1:Nat):Int) by omega];exact IntWalk.u64_in _ (by omega)
   by_cases h2:V+1<v
   ·have fz:((V+1:Nat):Int)<(v:Int):=by omega
    rw [aD h2] at d
    clear h1 h2
    go_region
    all_goals
     go_wp2
     go_region
     all_goals
      go_wp2_with fail
      refine (jY a h P x G O _ (I.out.below ((Below.rf w2).drew.drew)).ag (by rw [←HV.out];omega)).mono ?_
      rintro e w3 ⟨rfl,Y⟩
      have HG:=ab (ic.oX (M:=M) (I.out.below ((Below.rf w2).drew.drew)) (fun k hk => .inl (bb.out k hk)) (Ext.fT (u.out.tn ((Below.rf w2).drew.drew))) Y)
      clear Y
      go_wp2
      go_ret
      unfold iv
      rw [d.out]
      exact ⟨HG.out,rfl⟩
   ·have fz:¬((V+1:Nat):Int)<(v:Int):=by omega
    rw [au h2] at d
    obtain rfl:v=V+1:=by omega
    clear h1 h2
    go_region
    all_goals
     go_wp2
     go_region
     all_goals
      go_wp2_with fail
      refine (mM _).mono ?_
      rintro e w3 ⟨rfl,b3,da,dc⟩
      have bl:Below w2.heap.size w2 w3:=(Below.rf w2).drew.drew.tn da
      have dk:=ab (show w3.heap.size=w2.heap.size+2 from dc)
      have bn:=I.out.below bl
      have o:=bn.ag.row
      unfold AV.cells rY at o
      have e0:=ae _ _ 0 _ _ _ o
      have gg:=fO o
      have b4:=fQ bl (fO b1.out) b1.out
      have a3:=ae _ _ 0 _ _ _ b4
      have gl:=fO b4
      have fB:=ab bn
      have f0:=ab bl
      have dl:=ab b3
      obtain ⟨dn,L,b5,Y⟩:=bn.ag.tab
      have HP:=ab Y
      have ds:=ab dn
      have b6:w3.cell? ⟨w2.heap.size+1,0,none⟩=some (.map (some w2.heap.size)):=b3.cell
      have g2:=fU b6
      clear b3 da bl bn o b4 dn Y c0 c1 dc
      go_upto_region 3 with fail
      go_wp2_with (first | (refine kg rfl _ rfl Tryz.underlying162 rfl b5 ?_;intro w4 e5 dv hh) | fail)
      clear b5
      have g3:x.r<w3.heap.size:=fB.out.ag.tab.lt
      have f2:Hid (x.r≠w2.heap.size):=ab (by have:=I.out.ag.tab.lt;omega)
      try go_frame
      go_loopw [8] (fun _ wr=>∃ (pl Sl:List E),gB wr x.r w3.heap.size L (pl.map zS)∧TabAt wr w2.heap.size Sl∧(∀ y,y∈Sl↔y∈pl)∧Ext (fun k=>k=w2.heap.size) w3 wr) (fun _ wr=>wr.rangeLeft x.r w3.heap.size)
      case atStart=>exact ⟨[],[],e5,dl.out.tab.gr (dv.block _ dl.out.tab.lt),fun y=>Iff.rfl,Ext.fT dv⟩
      case round =>
       obtain ⟨pl,Sl,Z,dT,b7,b8⟩:=hrel
       have aa:=ab dT
       have ca:=ab b8
       have d2:=ab b7
       clear dT b8 b7
       go_wp2_with (first | (refine kK rfl _ rfl rfl Z ?_ ?_) | fail)
       ·intro d3
        have d4:=qS (kH Z.sub.2.2) ds.out.nodup (d3.trans HP.out)
        have d5:Sl=P.a.T:=aa.out.sorted.ext ds.out fun y=>(d2.out y).trans d4.mem_iff
        rw [d5] at aa
        have ak:Ext (fun k=>k=w2.heap.size) w2 wr:=(Ext.fT f0.out).trans ca.out
        have tq:=ca.out.cell (p:=⟨w2.heap.size+1,0,none⟩) (show ¬w2.heap.size+1=w2.heap.size by omega) b6
        have hi:=fU tq
        have Dr:=ak.at (show ¬w1.heap.size=w2.heap.size by omega) c9.out
        have y0:=ae _ _ 0 _ _ _ Dr
        have y1:=ae _ _ 1 _ _ _ Dr
        have hj:=fO Dr
        have d6:ix wr (.slice sa os.length s) os:=(fr.out.frame ak.size fun k e hk=>ak.block k hk (show ¬k=w2.heap.size by omega)).sliceAt
        have f3:=ab d6
        have f4:=ab ak
        have f5:=ab aa.out
        clear d4 d5 Dr d6 ak Z d3 a3
        go_upto_region 7 with fail
        go_still_tail 4,(by kernel_rfl)
        go_wp2_with fail
        refine (tf (w2.heap.size+1) 0 w2.heap.size P.a.T (V+1) (.slice sa os.length s) os wr.drew ⟨tq,f5.out.gr rfl⟩ (f3.out.below ((Below.rf wr).drew)) (by have:=(o9 bP.out).1;omega)).mono ?_
        rintro e w5 ⟨rfl,cb,d7⟩
        have am:Ext (fun k=>k=w2.heap.size) w2 w5:=f4.out.drew.trans d7
        have d8:Below w.heap.size w w5:=u.out.trans (am.below u.out.size fun k hk e=>by have:=u.out.size;omega)
        have ap:=ab d8
        have hl:=ab cb
        have t5:=d7.cell (p:=⟨w2.heap.size+1,0,none⟩) (show ¬w2.heap.size+1=w2.heap.size by omega) (show wr.drew.cell? _=_ from tq)
        have f6:=ab (⟨t5,cb⟩:EntAt w5 (w2.heap.size+1) 0 w2.heap.size (foldS P.a.T os))
        have ce:=ab (am.at (show ¬w.heap.size=w2.heap.size by omega) b1.out)
        have e7:=ab (am.at (show ¬w.heap.size+1=w2.heap.size by omega) e2.out)
        have d9:=ab (am.at (show ¬w1.heap.size=w2.heap.size by omega) c9.out)
        have a5:=ae _ _ 0 _ _ _ ce.out
        have hn:=ae _ _ 0 _ _ _ d9.out
        have g6:=fO ce.out
        have g7:=fO d9.out
        clear am d8 cb t5 y0 y1
        go_wp2_with fail
        have g8:=ap.out.size
        have bo:=J.out.ag.glt
        have br:=J.out.host.lt
        have f7:=J.out.ag.olt
        have g9:=u.out.size
        have ea:∀ y∈foldS P.a.T os,EntGood y:=((⟨af _,m.out.tab.sorted,m.out.tab.good⟩:jQ P.a.T.length P.a.T).fold bP.out).good
        have gn:(foldS P.a.T os).length≤128:=by
         have h1:=qg os m.out.tab.sorted
         have h2:=m.out.tab.len
         have h3:=(o9 bP.out).1
         omega
        have q:=AQ H P.lg body P.a.V P.a.T
        have hb:=wZ ea
        have ho:(100:Nat)≤gF:=by unfold gF;omega
        have eb:=vD a h F G O M H P x (w2.heap.size+1) w2.heap.size (V+1) (foldS P.a.T os) 154 #[.pointer (some ⟨w.heap.size,0,none⟩),.pointer (some ⟨w.heap.size+1,0,none⟩)] (fun _ _=>by kernel_rfl) (gY H P.lg body P.a.V P.a.T) w5 (J.out.below ap.out) bb.out f6.out
         ⟨fun e=>by have:=br _ e;omega,fun e=>by have:=bo _ e;omega⟩ ⟨fun e=>by have:=br _ e;omega,fun e=>by have:=bo _ e;omega,fun e=>by have:=f7 _ e;omega⟩
         (fun _=>FJ n B a h w.heap.size (w.heap.size+1) l F G O H P x (.slice hH body.length hI) body w5 (J.out.below ap.out) m.out fc.out hB fa (fW.frame fi.out fun k e _=>(ap.out.block k (D.out k e).2.2).trans (c6.out.block k (D.out k e).2.2).symm) (fun k e=>⟨(D.out k e).1,(D.out k e).2.1,by have:=(D.out k e).2.2;omega⟩) (by have:=fo.out.2;rw [fn.out] at this;omega) (ae _ _ 0 _ _ _ ce.out) (ae _ _ 0 _ _ _ e7.out) ⟨⟨fun e=>by have:=br _ e;omega,fun e=>by have:=bo _ (e▸J.out.ag.gin.2.2.1);omega⟩,fun e=>by have:=br _ e;omega,fun e=>by have:=bo _ (e▸J.out.ag.gin.2.2.1);omega⟩)
         (by rw [m.out.len];omega) (by omega) (by omega) ⟨by rw [q.1,m.out.dpS];have:=m.out.tab.len;omega,by rw [q.2.1];exact hL,q.2.2⟩ (fun y hy=>by rw [q.1,m.out.dpS] at hy;have:=(m.out.tab.good y hy).small;omega) (fun y hy=>by have:=(ea y hy).small;omega) m.out.deg (by omega)
        rw [show ((V:Int)+1)=((V+1:Nat):Int) by omega]
        refine eb.mono ?_
        rintro e C ⟨rfl,ec⟩
        have HG:=ab (kv.trans (fun k hk=>hk.imp id fun e=>by omega) (Ext.fT ap.out) ec)
        clear eb ec
        go_wp2
        go_ret
        unfold iv
        rw [d.out]
        have ed:=HG.out
        rw [HV.out] at ed⊢
        exact ⟨ed,rfl⟩
       ·intro S U v' C hx f9 ci cl eg bi hp
        obtain ⟨⟨k',vb⟩,ga,e⟩:=aB.1 (HP.out.mem_iff.1 hx)
        cases e
        have a6:gB C x.r w3.heap.size L ((pl++[((S,U),vb)]).map zS):=by rw [bm];exact ci
        have co:=ab a6
        have gb:=ab Z
        have cp:Ext (fun k=>k=w2.heap.size) w3 C:=ca.out.grow cl (.inr (af _))
        have cq:=a6.sub.2.2
        rw [qM,bm,cf] at cq
        have gc:=ab (show (S,U)∉pl.map (·.1) from fun e=>cq.2.2 _ e _ (by simp) rfl)
        clear ci a6 hx f9 ga Z cq
        unfold kU at bi
        unfold kU
        have hT:=cp.cell (p:=⟨w.heap.size,0,none⟩) (fun e=>by have e':w.heap.size=w2.heap.size:=e;omega) a3
        have al:=Below.al (Below.al (Below.rf C) (.cells #[.int .i64 S,.string ⟨U.toArray⟩] 103)) (.cells #[.string ⟨vb.toArray⟩] 226)
        have K7:=fX (C.alloc (.cells #[.int .i64 S,.string ⟨U.toArray⟩] 103)) (.cells #[.string ⟨vb.toArray⟩] 226) (fR C (.cells #[.int .i64 S,.string ⟨U.toArray⟩] 103))
        have V7:=fR (C.alloc (.cells #[.int .i64 S,.string ⟨U.toArray⟩] 103)) (.cells #[.string ⟨vb.toArray⟩] 226)
        rw [aw] at V7
        have hr:=ab (show C.heap.size=wr.heap.size from eg)
        clear eg
        go_upto_region 6 with fail
        generalize (C.alloc (.cells #[.int .i64 S,.string ⟨U.toArray⟩] 103)).alloc (.cells #[.string ⟨vb.toArray⟩] 226)=w7 at *
        have cr:Ext (fun k=>k=w2.heap.size) w3 w7:=cp.rT al
        have t7:=cr.cell (p:=⟨w2.heap.size+1,0,none⟩) (show ¬w2.heap.size+1=w2.heap.size by omega) b6
        have k0:=ae _ _ 0 _ _ _ K7
        have k1:=ae _ _ 1 _ _ _ K7
        have v0:=ae _ _ 0 _ _ _ V7
        have hs:=fO K7
        have ht:=fO V7
        have hv:=fU t7
        have a7:TabAt C w2.heap.size Sl:=aa.out.gr (cl.block _ aa.out.lt (fun e=>by have:=dk.out;have:=Option.some.inj e;omega))
        have cs:TabAt w7 w2.heap.size Sl:=a7.gr (al.block _ a7.lt)
        obtain ⟨W8,hu,ej,bs,gf⟩:=cs.put (mt:=162) Tryz.underlying162 (S,U) vb
        have el:=hu 1
        have ct:∀ w:World,w.drewN 1=w.drew:=fun _=>rfl
        rw [ct,ct] at el
        simp only [kV,jh,kU] at el
        have em:Ext (fun k=>k=w2.heap.size) w3 W8:=cr.grow bs (.inl rfl)
        have bt:=co.out.frame (al.block _ co.out.lt.1) (al.block _ co.out.lt.2)
        have cu:gB W8 x.r w3.heap.size L ((pl++[((S,U),vb)]).map zS):=bt.frame (bs.block _ bt.lt.1 (fun e=>f2.out (Option.some.inj e))) (bs.block _ bt.lt.2 (fun e=>by have:=dk.out;have:=Option.some.inj e;omega))
        have en:=cu.left
        have er:=gb.out.left
        simp only [aG,aq,ar,aJ] at en er
        have e8:=ab (show (∃ (eC eD:List E),gB W8.drew x.r w3.heap.size L (eC.map zS)∧TabAt W8.drew w2.heap.size eD∧(∀ y,y∈eD↔y∈eC)∧Ext (fun k=>k=w2.heap.size) w3 W8.drew)∧W8.drew.rangeLeft x.r w3.heap.size<wr.rangeLeft x.r w3.heap.size from
         ⟨⟨_,_,cu,ej,Gw d2.out gc.out,em.drew⟩,(show W8.rangeLeft x.r w3.heap.size<wr.rangeLeft x.r w3.heap.size by omega)⟩)
        clear hu ct ej bs gf em bt cu en er a7 cs cr K7 V7 al cp cl
        go_region
        all_goals
         go_wp2
         exact e8.out
end Go.Proofs.YtkkfmkhbdoeglabGreatDoor
namespace Go.Proofs.YtkkfmkhbdoeglabGreatDoor
open Go.RowKit Go.Shelf
def Ca:(fP×PAg)×Option Nat→fP×PAg
 | (R,none)=>R
 | ((H,P),some k)=>(H,{P with a:=P.a.bad k})
def zG (H:fP) (P:PAg) (k:UInt8) (body:List UInt8) (b:(fP×PAg)×Option Nat):(fP×PAg)×Option Nat :=
 if k=1 then nO H P body else if k=2 then ((H,if body=[] then {P with a:=P.a.iW} else P),if body=[] then none else some 2) else if k=3 then ((H,{P with a:=(P.a.ia body).1}),(P.a.ia body).2) else if k=4 then b else ((H,P),some 6)
def uD (H:fP) (P:PAg) (frame:List UInt8) (b:(fP×PAg)×Option Nat):fP×PAg :=
 if P.a.deg.isSome then (H,{P with a:=P.a.gW 13}) else match ig frame with
 | .inr f=>Ca ((H,P),some f.1)
 | .inl (k,body)=>Ca (zG H P k body b)
theorem Ix (t:Value) (w:World):Calls Tryz.prog 104 #[.nilIface,t] w fun e w'=>e = .returned (.bool false)∧w'=w:=by
 go_enter Tryz.func104,Tryz.ntmps104
 go_wp2
 go_ret
 exact ⟨rfl,rfl⟩
theorem qH.out {w w':World} {F G O M:Nat→Prop} {a h:Nat} {H:fP} {P b:PAg} {x:AV} {r:Option Nat} {e:Ending} (hm:ic w F G O a h H P x) (d:∀ k,F k∨G k∨O k→M k) (hs:qH w G O a h b r e w'):iv w M a h ((H,b),r) e w' :=
 ⟨hs.1.G5 hm d,hs.2⟩
theorem iv.gD {w w1 w':World} {M:Nat→Prop} {a h:Nat} {R:(fP×PAg)×Option Nat} {e:Ending} (b:Below w.heap.size w w1) (hs:iv w1 M a h R e w'):iv w M a h R e w':=by
 obtain ⟨h1,h2⟩:=hs
 refine ⟨h1.gD b,?_⟩
 obtain ⟨R,r⟩:=R
 cases r with
 | none=>exact h2
 | some k =>
  obtain ⟨ev,p,d,g,i,j,l⟩:=h2
  exact ⟨ev,p,d,g,i,aH b.size j,l⟩
theorem BG {l:List UInt8} {f:Nat×Nat} (h:ig l = .inr f):f.1<256:=by
 unfold ig at h
 split at h
 ·cases h;simp
 ·split at h
  ·split at h
   ·cases h
   ·cases h;simp
  ·cases h;simp
theorem ku.two {w w1 w':World} {G O b:Nat→Prop} {a h:Nat} {P:PAg} {x:AV} (h1:∀ k,b k→O k∨w.heap.size≤k) (h2:Ext (fun j=>j=x.c) w w1) (d:ku w1 G b a h P x w'):ku w G O a h P x w':=d.trans h1 h2
theorem xh {l:List UInt8} {k:UInt8} {p:List UInt8} (h:ig l = .inl (k,p)):p.length≤l.length:=by
 unfold ig at h
 split at h
 ·cases h
 ·split at h
  ·split at h
   ·cases h
    simp
    omega
   ·cases h
  ·cases h
theorem Cl (H:fP) (P:PAg) (body:List UInt8) (d:P.a.V<18446744073709551615) (k:Nat) (h:(nO H P body).2=some k):k<256∧(nO H P body).1.2.a.V<18446744073709551616:=by
 unfold nO at h⊢
 split at h
 ·rename_i f b
  cases h
  have:=Dm (by rw [←nN];exact b)
  exact ⟨by omega,by show P.a.V<_;omega⟩
 ·cases h
theorem DL (a:AgA) (k:Nat):(a.gW k).V=a.V:=(jc a 18 [UInt8.ofNat k]).2.1
theorem Eh (H:fP) (P:PAg) (body:List UInt8) (d:P.a.V<18446744073709551615) (k:Nat) (h:(((H,if body=[] then {P with a:=P.a.iW} else P),if body=[] then none else some 2):(fP×PAg)×Option Nat).2=some k):k<256∧(((H,if body=[] then {P with a:=P.a.iW} else P),if body=[] then none else some 2):(fP×PAg)×Option Nat).1.2.a.V<18446744073709551616:=by
 by_cases b:body=[]
 ·rw [aD b,aD b] at h
  cases h
 ·rw [au b,au b] at h
  rw [au b,au b]
  cases h
  exact ⟨by omega,by show P.a.V<_;omega⟩
theorem Cc (H:fP) (P:PAg) (body:List UInt8) (b:P.a.V<18446744073709551615) (k:Nat) (h:(((H,{P with a:=(P.a.ia body).1}),(P.a.ia body).2):(fP×PAg)×Option Nat).2=some k):k<256∧(((H,{P with a:=(P.a.ia body).1}),(P.a.ia body).2):(fP×PAg)×Option Nat).1.2.a.V<18446744073709551616:=by
 have key:∀ k,(P.a.ia body).2=some k→k<256∧(P.a.ia body).1.V<18446744073709551616:=by
  intro k h
  unfold AgA.ia at h⊢
  split at h
  ·rename_i c;rw [aD c];cases h;exact ⟨by omega,by show P.a.V<_;omega⟩
  ·rename_i c1;rw [au c1]
   split at h
   ·rename_i c;rw [aD c];cases h;exact ⟨by omega,by show P.a.V<_;omega⟩
   ·rename_i c2;rw [au c2]
    split at h
    ·rename_i c;rw [aD c];cases h;exact ⟨by omega,by show P.a.V<_;omega⟩
    ·rename_i c3;rw [au c3]
     split at h
     ·rename_i c;rw [aD c];cases h;exact ⟨by omega,by show P.a.V<_;omega⟩
     ·split at h <;> cases h
 exact key k h
theorem iv.ev {w w':World} {M:Nat→Prop} {a h:Nat} {R:(fP×PAg)×Option Nat} {e:Ending} (hs:iv w M a h R e w'):∃ ev,e = .returned ev:=by
 obtain ⟨-,h2⟩:=hs
 obtain ⟨R,r⟩:=R
 cases r with
 | none=>exact ⟨_,h2⟩
 | some k =>
  obtain ⟨ev,p,b,-⟩:=h2
  exact ⟨ev,b⟩
theorem GP (H:fP) (P:PAg) (k:UInt8) (body:List UInt8) (b:(fP×PAg)×Option Nat) (d:P.a.V<18446744073709551615) (h4:∀ k,b.2=some k→k<256∧b.1.2.a.V<18446744073709551616) (j:Nat) (h:(zG H P k body b).2=some j):j<256∧(zG H P k body b).1.2.a.V<18446744073709551616:=by
 unfold zG at h⊢
 by_cases i:k=1
 ·rw [aD i] at h⊢;exact Cl H P body d j h
 ·rw [au i] at h⊢
  by_cases l:k=2
  ·rw [aD l] at h⊢;exact Eh H P body d j h
  ·rw [au l] at h⊢
   by_cases m:k=3
   ·rw [aD m] at h⊢;exact Cc H P body d j h
   ·rw [au m] at h⊢
    by_cases o:k=4
    ·rw [aD o] at h⊢;exact h4 j h
    ·rw [au o] at h⊢
     cases h
     exact ⟨by omega,by show P.a.V<_;omega⟩
theorem xu (n B a h:Nat) (l:List Int) (F G O M:Nat→Prop) (H:fP) (P:PAg) (x:AV) (bv:Value) (frame:List UInt8) (S4:(fP×PAg)×Option Nat) (w:World) (hm:ic w F G O a h H P x) (hM:∀ k,F k∨G k∨O k→M k) (hu:P.a.deg=none→UpAg n l H P) (hn:32≤n∧n≤128) (cq:HostOk H B) (hB:B≤800000000) (dk:P.lg.stamp<8999999999999999999) (hL:H.dp.log.length≤7500000000000)
  (hb:BytesAt w bv frame) (dl:frame.length≤gF) (cr:ShapesVar w) (cs:ErrVar w) (hv:P.a.V<18446744073709551615) (ct:∀ k,M k→2≤k)
  (cu:∀ body W v',P.a.deg=none→ig frame = .inl (4,body)→Below w.heap.size w W→OwnS W w.heap.size 1 v' body.length (u8s body)→Calls Tryz.prog 114 #[.pointer (some ⟨a,0,none⟩),v'] W (iv W M a h S4))
  (cv:∀ k,S4.2=some k→k<256∧S4.1.2.a.V<18446744073709551616) :
  Calls Tryz.prog 68 #[.pointer (some ⟨a,0,none⟩),bv] w fun e w'=>e = .returned (.tuple #[])∧kv w M a h (uD H P frame S4).1 (uD H P frame S4).2 w':=by
 obtain ⟨e3,e4,rfl,-,-⟩:=hb.opened
 have a3:=hm.ag.row
 unfold AV.cells rY at a3
 have c5:=ae _ _ 5 _ _ _ a3
 have er:=fO a3
 have HM:=ab hm
 have a1:=ab hM
 have HU:=ab hu
 have dn:=ab cq
 have ds:=ab cr
 have cB:=ab cs
 have dv:=ab cu
 have dT:=ab cv
 have c1:=ab (rH (.slice e3 frame.length e4) frame w hb dl)
 obtain ⟨R,hR⟩:∃ R,R=uD H P frame S4:=⟨_,rfl⟩
 have HR:=ab hR
 rw [←hR]
 have I:=hm.ag.FT
 clear hm hM hu cq cr cs cu cv hR a3 hb
 rcases I with ⟨J,I⟩ | ⟨f,fb,J,I⟩
 ·rw [I] at c5
  have bz:=ab J
  clear J I
  go_enter Tryz.func68,Tryz.ntmps68
  go_wp2_with fail
  refine c1.out.mono ?_
  rintro e w1 ⟨bM,bD⟩
  have q:=ab bM
  have N:=ab (HM.out.below bM)
  clear bM
  cases s:ig frame with
  | inr f =>
   obtain ⟨fk,fp⟩:=f
   rw [s] at bD
   obtain ⟨ev,rfl,d0⟩:=bD
   have HK:=ab (BG s)
   have Q:Hid (R=Ca ((H,P),some fk)):=ab (by rw [HR.out];unfold uD;rw [bz.out,s];rfl)
   obtain ⟨g,rfl,d1,o⟩:=d0
   have a6:Hid (fk<256∧P.a.V<18446744073709551616):=ab ⟨HK.out,by omega⟩
   clear s
   have a7:kv w M a h H P w1:=⟨M,⟨F,G,O,x,N.out,a1.out⟩,fun k => .inl,Ext.fT q.out⟩
   obtain ⟨M2,a4,U,X⟩:=a7
   obtain ⟨F2,G2,O2,x2,i,Y⟩:=a4
   have e0:Below w1.heap.size w1 (w1.alloc (.cells #[.pointer none] 171)):=(Below.rf w1).alloc (af _) _
   have t0:=fR w1 (.cells #[.pointer none] 171)
   have Z:ErrVar w1:=cB.out.ext X ct
   have aa:=Z.new e0
   have a9:=i.below e0
   have ak:=fQ e0 (fO o) o
   have bP:=ab X
   have bS:=ab (show ∀ k,F2 k∨G2 k∨O2 k→M k∨w.heap.size≤k from fun k hk=>U k (Y k hk))
   have bX:=ab a9
   have ba:=ab ak
   have d2:=fO ak
   have al:=ab (⟨i.host.lt,i.ag.glt,i.ag.olt⟩:(∀ k,F2 k→k<w1.heap.size)∧(∀ k,G2 k→k<w1.heap.size)∧∀ k,O2 k→k<w1.heap.size)
   clear i X U Y o Z a9 ak
   go_wp2_with fail
   generalize w1.alloc (.cells #[.pointer none] 171)=wA at *
   refine (uY ⟨g,0,none⟩ ⟨w1.heap.size,0,none⟩ (.pointer none) wA aa.2 (ae _ _ 0 _ _ _ t0) (by rw [aj _ _ 0 _ _ t0])).mono ?_
   rintro e w3 ⟨rfl,bb⟩
   have x1:=sD ⟨g,0,none⟩ ⟨w1.heap.size,0,none⟩ wA
   have t1:=vf ⟨g,0,none⟩ w1.heap.size wA t0
   rw [←bb] at x1 t1
   have ap:g≠w1.heap.size:=iQ ba.out t0 (by decide)
   have bc:Below w1.heap.size w1 w3:=e0.trans (x1.below (by have:=e0.size;omega) (fun k hk e=>by have e':k=w1.heap.size:=e;omega))
   have av:=x1.at (fun e=>ap e) ba.out
   have c0:=ae _ _ 0 _ _ _ t1
   have g0:=ae _ _ 0 _ _ _ av
   have b0:=fO t1
   have b1:=fO av
   have be:=bX.out.frame x1 (fun k hk e=>by
    have e':k=w1.heap.size:=e
    rcases hk with hk | hk | hk
    ·exact absurd (al.out.1 k hk) (by omega)
    ·exact absurd (al.out.2.1 k hk) (by omega)
    ·exact absurd (al.out.2.2 k hk) (by omega))
   have bi:=ab be
   have b2:=ab bc
   clear bb x1 t1 ap bc av be t0 e0 aa
   go_wp2_with fail
   refine (lM a h fk P x2 G2 O2 w3 bi.out.ag a6.out.1).mono ?_
   rintro e w4 ⟨rfl,E⟩
   obtain ⟨O4,bk,bl,bn⟩:=E
   have b3:=ab bk
   have b4:=ab bl
   have b5:=ab bn
   clear bk bl bn c0 g0 b0 b1
   go_wp2_with fail
   refine (jY a h _ x2 G2 O4 w4 b3.out (by show (AgA.gW _ _).V<_;rw [DL];exact a6.out.2)).mono ?_
   rintro e w5 ⟨rfl,E⟩
   have bo:=ku.trans b4.out b5.out E
   have HG:=ab (ic.oX (M:=M) (w:=w) bi.out bS.out (bP.out.trans (Ext.fT b2.out)) bo)
   clear E bo
   go_wp2
   go_end0
   refine ⟨rfl,?_⟩
   rw [Q.out]
   exact HG.out
  | inl y =>
   obtain ⟨u,body⟩:=y
   rw [s] at bD
   obtain ⟨bH,rfl,j⟩:=bD
   have br:=ab j
   have b6:=ab (xh s)
   have d3:=ab s
   have c2:=ab (GP H P u body S4 hv dT.out)
   have Q:Hid (R=Ca (zG H P u body S4)):=ab (by rw [HR.out];unfold uD;rw [bz.out,s];rfl)
   obtain ⟨S,hS⟩:∃ S,S=zG H P u body S4:=⟨_,rfl⟩
   rw [←hS] at c2 Q
   have HS:=ab hS
   clear s hS j
   go_upto_if 22 with fail
   go_cut [6] (fun ev wx=>iv w M a h S (.returned ev) wx)
   case first =>
    have kf:∀ m:Nat,u≠UInt8.ofNat m→m<256→¬((u.toNat:Int)=(m:Int)):=fun m ap hm e=>by
     have h2:(UInt8.ofNat m).toNat=m:=by rw [dQ];omega
     exact ap (by rw [←eu,h2];omega)
    by_cases k1:u=1
    ·subst k1
     have C:Hid (S=nO H P body):=ab (by rw [HS.out];unfold zG;rw [aD rfl])
     have j:=br.out
     have hD:=z8 n B a h l F G O M H P x bH body w1 N.out a1.out (HU.out bz.out) hn dn.out hB dk hL j.bytes (fun k e=>⟨fun e'=>by have:=j.gh k e;have:=HM.out.host.lt k e';omega,fun e'=>by have:=j.gh k e;have:=HM.out.ag.glt x.lg HM.out.ag.gin.2.2.1;omega,j.gP k e⟩) (by have:=b6.out;omega) (ds.out.new q.out)
     clear j
     go_wp2_with fail
     refine hD.mono ?_
     rintro e w2 d
     have b:=iv.gD q.out d
     rw [←C.out] at b
     obtain ⟨ev,rfl⟩:=b.ev
     have D:=ab b
     clear d b hD
     go_wp2
     go_meet
     case rel=>exact D.out
    ·by_cases k2:u=2
     ·subst k2
      have C:Hid (S=((H,if body=[] then {P with a:=P.a.iW} else P),if body=[] then none else some 2)):=ab (by rw [HS.out];rfl)
      have hD:=z7 a h P x G O bH body w1 N.out.ag (by omega) br.out.bytes (by have:=b6.out;omega)
      go_wp2_with fail
      refine hD.mono ?_
      rintro e w2 d
      have b:=iv.gD q.out (qH.out N.out a1.out d)
      rw [←C.out] at b
      obtain ⟨ev,rfl⟩:=b.ev
      have D:=ab b
      clear d b hD
      go_wp2
      go_meet
      case rel=>exact D.out
     ·by_cases k3:u=3
      ·subst k3
       have C:Hid (S=((H,{P with a:=(P.a.ia body).1}),(P.a.ia body).2)):=ab (by rw [HS.out];rfl)
       have hD:=yU a h P x G O bH body w1 N.out.ag (by omega) br.out.bytes br.out.gP (by have:=b6.out;omega)
       go_wp2_with fail
       refine hD.mono ?_
       rintro e w2 d
       have b:=iv.gD q.out (qH.out N.out a1.out d)
       rw [←C.out] at b
       obtain ⟨ev,rfl⟩:=b.ev
       have D:=ab b
       clear d b hD
       go_wp2
       go_meet
       case rel=>exact D.out
      ·by_cases k4:u=4
       ·subst k4
        have C:Hid (S=S4):=ab (by rw [HS.out];rfl)
        have hD:=dv.out body w1 bH bz.out d3.out q.out br.out
        go_wp2_with fail
        refine hD.mono ?_
        rintro e w2 d
        have b:=iv.gD q.out d
        rw [←C.out] at b
        obtain ⟨ev,rfl⟩:=b.ev
        have D:=ab b
        clear d b hD
        go_wp2
        go_meet
        case rel=>exact D.out
       ·have C:Hid (S=((H,P),some 6)):=ab (by rw [HS.out];unfold zG;rw [au k1,au k2,au k3,au k4])
        have n1:=kf 1 k1 (by omega)
        have n2:=kf 2 k2 (by omega)
        have n3:=kf 3 k3 (by omega)
        have n4:=kf 4 k4 (by omega)
        have q1:(((u.toNat:Int))==1)=false:=aA.2 n1
        have q2:(((u.toNat:Int))==2)=false:=aA.2 n2
        have q3:(((u.toNat:Int))==3)=false:=aA.2 n3
        have q4:(((u.toNat:Int))==4)=false:=aA.2 n4
        clear k1 k2 k3 k4 kf
        generalize u.toNat=eC at *
        go_wp2_with fail
        refine (gI 6 0 w1).mono ?_
        rintro e w2 ⟨rfl,ca⟩
        have cb:Below w1.heap.size w1 w2:=by rw [ca];exact (Below.rf w1).alloc (af _) _
        have o:w2.heap[w1.heap.size]?=some (.cells #[.int .i64 ((6:Nat):Int),.int .i64 0,.nilIface] 186 (0,0)):=by rw [ca];exact fR w1 _
        have D:Hid (iv w M a h S (.returned (.iface 171 (.pointer (some ⟨w1.heap.size,0,none⟩)))) w2):=ab (by
         rw [C.out]
         exact ⟨⟨M,⟨F,G,O,x,N.out.below cb,a1.out⟩,fun k => .inl,(Ext.fT q.out).trans (Ext.fT cb)⟩,_,0,rfl,_,rfl,q.out.size,o⟩)
        clear ca cb o
        go_wp2
        go_meet
        case rel=>exact D.out
   case rest =>
    have d:=hcut
    clear hcut
    obtain ⟨⟨H2,P2⟩,r⟩:=S
    obtain ⟨a7,bx⟩:=d
    cases r with
    | none =>
     have a2:Ending.returned u6 = .returned .nilIface:=bx
     obtain rfl:=Ending.returned.inj a2
     have HG:=ab a7
     clear a7 bx a2
     go_wp2_with fail
     refine (Ix _ _).mono ?_
     rintro e w3 ⟨rfl,rfl⟩
     go_wp2
     go_end0
     refine ⟨rfl,?_⟩
     rw [Q.out]
     exact HG.out.below ((Below.rf wc).alloc (af _) _)
    | some k =>
     obtain ⟨eD,p,a2,g,ce,d1,o⟩:=bx
     rw [ce] at a2
     obtain rfl:=Ending.returned.inj a2
     have a6:Hid (k<256∧P2.a.V<18446744073709551616):=ab (c2.out k rfl)
     clear a2 ce
     obtain ⟨M2,a4,U,X⟩:=a7
     obtain ⟨F2,G2,O2,x2,i,Y⟩:=a4
     have e0:Below wc.heap.size wc (wc.alloc (.cells #[.pointer none] 171)):=(Below.rf wc).alloc (af _) _
     have t0:=fR wc (.cells #[.pointer none] 171)
     have Z:ErrVar wc:=cB.out.ext X ct
     have aa:=Z.new e0
     have a9:=i.below e0
     have ak:=fQ e0 (fO o) o
     have bP:=ab X
     have bS:=ab (show ∀ k,F2 k∨G2 k∨O2 k→M k∨w.heap.size≤k from fun k hk=>U k (Y k hk))
     have bX:=ab a9
     have ba:=ab ak
     have d2:=fO ak
     have al:=ab (⟨i.host.lt,i.ag.glt,i.ag.olt⟩:(∀ k,F2 k→k<wc.heap.size)∧(∀ k,G2 k→k<wc.heap.size)∧∀ k,O2 k→k<wc.heap.size)
     clear i X U Y o Z a9 ak
     go_wp2_with fail
     generalize wc.alloc (.cells #[.pointer none] 171)=wA at *
     refine (uY ⟨g,0,none⟩ ⟨wc.heap.size,0,none⟩ (.pointer none) wA aa.2 (ae _ _ 0 _ _ _ t0) (by rw [aj _ _ 0 _ _ t0])).mono ?_
     rintro e w3 ⟨rfl,bb⟩
     have x1:=sD ⟨g,0,none⟩ ⟨wc.heap.size,0,none⟩ wA
     have t1:=vf ⟨g,0,none⟩ wc.heap.size wA t0
     rw [←bb] at x1 t1
     have ap:g≠wc.heap.size:=iQ ba.out t0 (by decide)
     have bc:Below wc.heap.size wc w3:=e0.trans (x1.below (by have:=e0.size;omega) (fun k hk e=>by have e':k=wc.heap.size:=e;omega))
     have av:=x1.at (fun e=>ap e) ba.out
     have c0:=ae _ _ 0 _ _ _ t1
     have g0:=ae _ _ 0 _ _ _ av
     have b0:=fO t1
     have b1:=fO av
     have be:=bX.out.frame x1 (fun k hk e=>by
      have e':k=wc.heap.size:=e
      rcases hk with hk | hk | hk
      ·exact absurd (al.out.1 k hk) (by omega)
      ·exact absurd (al.out.2.1 k hk) (by omega)
      ·exact absurd (al.out.2.2 k hk) (by omega))
     have bi:=ab be
     have b2:=ab bc
     clear bb x1 t1 ap bc av be t0 e0 aa
     go_wp2_with fail
     refine (lM a h k P2 x2 G2 O2 w3 bi.out.ag a6.out.1).mono ?_
     rintro e w4 ⟨rfl,E⟩
     obtain ⟨O4,bk,bl,bn⟩:=E
     have b3:=ab bk
     have b4:=ab bl
     have b5:=ab bn
     clear bk bl bn c0 g0 b0 b1
     go_wp2_with fail
     refine (jY a h _ x2 G2 O4 w4 b3.out (by show (AgA.gW _ _).V<_;rw [DL];exact a6.out.2)).mono ?_
     rintro e w5 ⟨rfl,E⟩
     have bo:=ku.trans b4.out b5.out E
     have HG:=ab (ic.oX (M:=M) (w:=w) bi.out bS.out (bP.out.trans (Ext.fT b2.out)) bo)
     clear E bo
     go_wp2
     go_end0
     refine ⟨rfl,?_⟩
     rw [Q.out]
     exact HG.out
 ·rw [I] at c5
  have Q:Hid (R=(H,{P with a:=P.a.gW 13})):=ab (by rw [HR.out];unfold uD;rw [J];rfl)
  clear J I c1
  go_enter Tryz.func68,Tryz.ntmps68
  go_wp2_with fail
  refine (lM a h 13 P x G O w HM.out.ag (by omega)).mono ?_
  rintro e w1 ⟨rfl,E⟩
  have HG:=ab (ic.oX (M:=M) HM.out (fun k hk => .inl (a1.out k hk)) (Ext.refl M w) E)
  clear E
  go_wp2
  refine aI (dF rfl _ _ _) rfl ?_
  refine ⟨rfl,?_⟩
  rw [Q.out]
  exact HG.out
end Go.Proofs.YtkkfmkhbdoeglabGreatDoor
namespace Go.Proofs.YtkkfmkhbdoeglabGreatDoor
open Go.RowKit Go.Shelf
def ky (H:fP) (P:PAg) (tv:Nat) (bytes:List UInt8):(fP×PAg)×Option Nat:=match iG bytes with
 | .inr f=>((H,P),some f.1)
 | .inl (v,T)=>if v≠tv then ((H,P),some 4) else if v≤P.a.V then ((H,{P with a:=P.a.lQ}),none) else (oC H P v T (gd H P.lg v T),none)
def mw (H:fP) (P:PAg) (body:List UInt8):(fP×PAg)×Option Nat :=
 if body.length<2 then ((H,P),some 1) else if 65<body.length then ((H,P),some 2)
 else match P.a.com with
 | none=>((H,{P with a:=P.a.iW}),none)
 | some (tv,of,got) =>
  if (body.getD 0 0).toNat≠got.length then ((H,{P with a:=P.a.jM}),none)
  else if got.length+1<of then ((H,{P with a:=AgA.jM {P.a with com:=some (tv,of,got++[body.drop 1])}}),none)
  else ky H {P with a := {P.a with com:=none}} tv (got++[body.drop 1]).flatten
theorem GK (n B a h d i j q r v:Nat) (l:List Int) (F G O:Nat→Prop) (H:fP) (P:PAg) (x:AV) (T:List E) (w:World) (hm:ic w F G O a h H P x) (hu:UpAg n l H P) (U:HostOk H B) (hB:B≤800000000) (aE:P.lg.stamp<8999999999999999999) (hv:v<18446744073709551616)
  (he:EntAt w q 0 r T) (V:sizeS T≤16*(H.seen.length-8)) (X:T.length<65536) (hg:∀ y∈T,EntGood y)
  (ha:w.cell? ⟨d,0,none⟩=some (.pointer (some ⟨a,0,none⟩))) (u:w.cell? ⟨i,0,none⟩=some (.int .u64 (v:Nat))) (C:w.cell? ⟨j,0,none⟩=some (.pointer (some ⟨q,0,none⟩))) (m:(¬F d∧d≠x.lg)∧(¬F i∧i≠x.lg)∧¬F j∧j≠x.lg) :
  uU 193 #[.pointer (some ⟨d,0,none⟩),.pointer (some ⟨i,0,none⟩),.pointer (some ⟨j,0,none⟩)] w x F h (gd H P.lg v T):=by
 intro W D
 have b:=hm.below D
 have o:=b.ag.row
 unfold AV.cells rY at o
 have c2:=ae _ _ 2 _ _ _ o
 have a0:=fO o
 have M:=(D.cell (p:=⟨d,0,none⟩) (fU ha)).trans ha
 have N:=(D.cell (p:=⟨i,0,none⟩) (fU u)).trans u
 have Q:=(D.cell (p:=⟨j,0,none⟩) (fU C)).trans C
 have J:=he.below D
 have I:=b.ag.gin
 have Z:=ab (fun (Y:World) (R:Below W.heap.size W Y)=>uq x.lg h F H P.lg B q 0 r v T Y (fQ R (fO b.ag.log) b.ag.log) (b.host.below R) U (by omega) (fun e=>b.fg _ e I.2.2.1)
  (J.below R) hu.slot V X hv (fun y hy=>(hg y hy).small) (by omega))
 have halt:=fU M
 have am:=fU N
 have ap:=fU Q
 have s:=ab (show ¬(F d∨d=x.lg)∧¬(F i∨i=x.lg)∧¬(F j∨j=x.lg)∧¬(F a∨a=x.lg) from ⟨fun e=>e.elim m.1.1 m.1.2,fun e=>e.elim m.2.1.1 m.2.1.2,fun e=>e.elim m.2.2.1 m.2.2.2,fun e=>e.elim (fun e=>b.fg _ e I.1) fun e=>iQ b.ag.row b.ag.log (by decide) e⟩)
 clear hm b o I ha u C he J
 go_enter Tryz.func193,Tryz.ntmps193
 go_wp2
 go_region_held3 (fun w'=>w'.cell? ⟨d,0,none⟩=some (.pointer (some ⟨a,0,none⟩))∧w'.cell? ⟨i,0,none⟩=some (.int .u64 (v:Nat))∧w'.cell? ⟨j,0,none⟩=some (.pointer (some ⟨q,0,none⟩))∧w'.cell? ⟨a,2,none⟩=some (.pointer (some ⟨x.lg,0,none⟩)))
  (first | exact ⟨M,N,Q,c2⟩ | (obtain ⟨F',g1,g2,g3⟩:=h3;exact ⟨g3.cell (p:=⟨d,0,none⟩) s.out.1 M,g3.cell (p:=⟨i,0,none⟩) s.out.2.1 N,g3.cell (p:=⟨j,0,none⟩) s.out.2.2.1 Q,g3.cell (p:=⟨a,2,none⟩) s.out.2.2.2 c2⟩))
  (first | (go_at_call 190;refine (Z.out _ (by first | exact (Below.rf W).drew | exact Below.rf W)).mono ?_;rintro e w1 ⟨rv,rfl,h1,h2,h3,h4⟩))
 all_goals
  have S:=ab (⟨h1,h2,h3⟩:xU _ w1 rv (gd H P.lg v T).2.2∧LogAt w1 x.lg h (gd H P.lg v T).2.1∧iy _ F (fun k=>k=x.lg) h (gd H P.lg v T).1 w1)
  clear h1 h2 h3 h4
  go_wp2
  go_ret
  exact ⟨_,rfl,S.out.1,S.out.2.1,iy.gD ((Below.rf W).drew) S.out.2.2⟩
theorem xr (n B a h d3:Nat) (l:List Int) (F G O M:Nat→Prop) (H:fP) (P:PAg) (x:AV) (bv ov gv:Value) (tv:Nat) (bytes:List UInt8) (w:World) (hm:ic w F G O a h H P x) (hM:∀ k,F k∨G k∨O k→M k) (hu:UpAg n l H P) (hn:32≤n∧n≤128) (a5:HostOk H B) (hB:B≤800000000) (b0:P.lg.stamp<8999999999999999999) (hL:H.dp.log.length≤7500000000000)
  (hc:w.heap[d3]?=some (.cells #[.int .u64 (tv:Nat),ov,gv,bv] 257 (0,0))) (hb:BytesAt w bv bytes) (a6:∀ k,bv.ownBlock=some k→k<w.heap.size) (b1:bytes.length≤gF) (W:ShapesVar w) (da:tv<18446744073709551616) :
  Calls Tryz.prog 159 #[.pointer (some ⟨a,0,none⟩),.pointer (some ⟨d3,0,none⟩)] w (iv w M a h (ky H P tv bytes)):=by
 obtain ⟨d4,d5,rfl,-,-⟩:=hb.opened
 have o:Below w.heap.size w (w.alloc (.cells #[.pointer (some ⟨a,0,none⟩)] 134)):=(Below.rf w).alloc (af _) _
 have a7:=fR w (.cells #[.pointer (some ⟨a,0,none⟩)] 134)
 have dc:(w.alloc (.cells #[.pointer (some ⟨a,0,none⟩)] 134)).heap.size=w.heap.size+1:=aw _ _
 have s:=ab hm
 have E:=ab hM
 have u:=ab hu
 have b2:=ab a5
 obtain ⟨R,hR⟩:∃ R,R=ky H P tv bytes:=⟨_,rfl⟩
 have HR:=ab hR
 rw [←hR]
 have i:=hb.below o
 have X:=W.gr o.size (o.block _ W.two)
 have I:=fQ o (fO hc) hc
 have ct:=fO hc
 clear hm hM hu a5 hR W hb hc
 go_enter Tryz.func159,Tryz.ntmps159
 go_upto_region 1 with fail
 generalize w.alloc (.cells #[.pointer (some ⟨a,0,none⟩)] 134)=w0 at *
 have Y:=ab o
 have b3:=ab (q7 (.slice d4 bytes.length d5) bytes w0 i (fun k e=>by have:=a6 k e;omega) b1 X)
 have g3:=ae _ _ 3 _ _ _ I
 have bD:=fO I
 have a9:=ab a7
 have b4:=ab I
 clear o a7 i X I a6
 go_wp2_with fail
 refine b3.out.mono ?_
 rintro e w1 ⟨i,J⟩
 have Z:=ab (Y.out.tn i)
 have N:=fQ i (fO a9.out) a9.out
 have Q:=fQ i bD b4.out
 cases b:iG bytes with
 | inr f =>
  obtain ⟨fk,fp⟩:=f
  rw [b] at J
  obtain ⟨ev,rfl,ba⟩:=J
  have b5:=ab ba
  obtain ⟨g,rfl,-,-⟩:=ba
  have d:Hid (R=((H,P),some fk)):=ab (by rw [HR.out];unfold ky;rw [b])
  have bb:Below w1.heap.size w1 ((w1.alloc (.cells #[.int .u64 0] 48)).alloc (.cells #[.pointer none] 118)):=Below.al (Below.al (Below.rf w1) _) _
  have aa:=ab bb
  clear b i bb N Q g3
  go_wp2
  refine aI (v := .iface 171 (.pointer (some ⟨g,0,none⟩))) (by simp [results,Tryz.results159,go_sem]) rfl ?_
  unfold iv
  rw [d.out]
  refine ⟨⟨M,⟨F,G,O,x,(s.out.below Z.out).below aa.out,E.out⟩,fun k => .inl,(Ext.fT Z.out).trans (Ext.fT aa.out)⟩,_,fp,rfl,?_⟩
  obtain ⟨g',e1,e2,e3⟩:=b5.out
  exact ⟨g',e1,by have:=Y.out.size;omega,fQ aa.out (fO e3) e3⟩
 | inl y =>
  obtain ⟨v,T⟩:=y
  rw [b] at J
  obtain ⟨r,rfl,ak,dk⟩:=J
  obtain ⟨bc,be,-⟩:=om b
  obtain ⟨dl,b7⟩:=p9 b
  have am:=lj bc
  have ap:=ab be
  have d:Hid (R=if v≠tv then ((H,P),some 4) else if v≤P.a.V then ((H,{P with a:=P.a.lQ}),none) else (oC H P v T (gd H P.lg v T),none)):=ab (by rw [HR.out];unfold ky;rw [b])
  have t2:Below w1.heap.size w1 ((w1.alloc (.cells #[.int .u64 (v:Nat)] 48)).alloc (.cells #[.pointer (some ⟨r+1,0,none⟩)] 118)):=Below.al (Below.al (Below.rf w1) _) _
  have V2:=fX (w1.alloc (.cells #[.int .u64 (v:Nat)] 48)) (.cells #[.pointer (some ⟨r+1,0,none⟩)] 118) (fR w1 (.cells #[.int .u64 (v:Nat)] 48))
  have T2:=fR (w1.alloc (.cells #[.int .u64 (v:Nat)] 48)) (.cells #[.pointer (some ⟨r+1,0,none⟩)] 118)
  rw [aw] at T2
  have q:=ab (Z.out.tn t2)
  have av:=fQ t2 (fO N) N
  have aE:=fQ t2 (fO Q) Q
  have bi:=ak.below t2
  have dn:=i.size
  have ds:=ak.lt
  clear bc be b i N Q ak HR g3 b7
  go_upto_region 5 with fail
  generalize (w1.alloc (.cells #[.int .u64 (v:Nat)] 48)).alloc (.cells #[.pointer (some ⟨r+1,0,none⟩)] 118)=w2 at *
  have a0:=s.out.below q.out
  have j:=a0.ag.row
  unfold AV.cells rY at j
  have c1:=ae _ _ 1 _ _ _ j
  have c2:=fO j
  have v0:=ae _ _ 0 _ _ _ V2
  have b8:=ae _ _ 0 _ _ _ T2
  have c3:=fO V2
  have c4:=fO T2
  have a2:=ae _ _ 0 _ _ _ av
  have g0:=ae _ _ 0 _ _ _ aE
  have c5:=fO av
  have c6:=fO aE
  have S:=ab a0
  have bk:=ab bi
  clear a0 j V2 T2 av aE bi t2
  obtain ⟨V,hV⟩:∃ V,V=P.a.V:=⟨_,rfl⟩
  have HV:=ab hV
  have bL:=u.out.tab.v64
  rw [←hV] at c1 bL d
  clear hV
  by_cases h0:v=tv
  ·subst h0
   rw [au (by omega)] at d
   go_region
   all_goals
    by_cases hle:v≤V
    ·have bN:(v:Int)≤(V:Int):=by omega
     rw [aD hle] at d
     clear hle
     go_wp2
     go_region
     all_goals
      go_wp2_with fail
      refine (pe a h P x G O _ (S.out.below ((Below.rf w2).drew.drew)).ag (by rw [←HV.out];omega)).mono ?_
      rintro e w3 ⟨rfl,hp⟩
      have HG:=ab (ic.oX (M:=M) (S.out.below ((Below.rf w2).drew.drew)) (fun k hk => .inl (E.out k hk)) (Ext.fT (q.out.tn ((Below.rf w2).drew.drew))) hp)
      clear hp
      go_wp2
      go_ret
      unfold iv
      rw [d.out]
      exact ⟨HG.out,rfl⟩
    ·have bN:¬(v:Int)≤(V:Int):=by omega
     rw [au hle] at d
     clear hle
     go_wp2
     go_region
     all_goals
      have C:=s.out.ag.glt
      have D:=s.out.host.lt
      have cb:=s.out.ag.olt
      have c7:=Y.out.size
      have c8:=q.out.size
      have m:=sJ H P.lg v T
      have c9:=wZ ap.out
      have dv:(100:Nat)≤gF:=by unfold gF;omega
      have U:Below w2.heap.size w2 w2.drew.drew:=(Below.rf w2).drew.drew
      have bl:=S.out.below U
      have bn:=vD a h F G O M H P x (r+1) r v T 193 #[.pointer (some ⟨w.heap.size,0,none⟩),.pointer (some ⟨w1.heap.size,0,none⟩),.pointer (some ⟨w1.heap.size+1,0,none⟩)] (fun _ _=>by kernel_rfl) (gd H P.lg v T) w2.drew.drew bl E.out (bk.out.below U)
       ⟨fun e=>by have:=D _ e;omega,fun e=>by have:=C _ e;omega⟩ ⟨fun e=>by have:=D _ e;omega,fun e=>by have:=C _ e;omega,fun e=>by have:=cb _ e;omega⟩
       (fun bP=>GK n B a h w.heap.size w1.heap.size (w1.heap.size+1) (r+1) r v l F G O H P x T w2.drew.drew bl u.out b2.out hB b0 am (bk.out.below U) (wG bP).2 (by omega) ap.out a2 v0 b8
        ⟨⟨fun e=>by have:=D _ e;omega,fun e=>by have:=C _ (e▸s.out.ag.gin.2.2.1);omega⟩,⟨fun e=>by have:=D _ e;omega,fun e=>by have:=C _ (e▸s.out.ag.gin.2.2.1);omega⟩,fun e=>by have:=D _ e;omega,fun e=>by have:=C _ (e▸s.out.ag.gin.2.2.1);omega⟩)
       (by rw [u.out.len];omega) (by omega) (by omega) ⟨by rw [m.1,u.out.dpS];have:=u.out.tab.len;omega,by rw [m.2.1];exact hL,m.2.2⟩ (fun y hy=>by rw [m.1,u.out.dpS] at hy;have:=(u.out.tab.good y hy).small;omega) (fun y hy=>by have:=(ap.out y hy).small;omega) u.out.deg am
      have ce:=ab bn
      clear bn
      go_wp2_with fail
      refine ce.out.mono ?_
      rintro e w6 ⟨rfl,bo⟩
      have HG:=ab (kv.trans (fun k hk=>hk.imp id fun e=>by omega) (Ext.fT (q.out.tn U)) bo)
      clear bo
      go_wp2
      go_ret
      unfold iv
      rw [d.out]
      exact ⟨HG.out,rfl⟩
  ·have dT:¬((v:Int)=(tv:Int)):=by omega
   rw [aD h0] at d
   clear h0
   go_region
   all_goals
    go_wp2_with fail
    refine (gI 4 0 _).mono ?_
    rintro e w3 ⟨rfl,a1⟩
    have br:Below w2.heap.size w2 w3:=by rw [a1];exact ((Below.rf w2).drew).alloc (af _) _
    have bs:w3.heap[w2.drew.heap.size]?=some (.cells #[.int .i64 ((4:Nat):Int),.int .i64 0,.nilIface] 186 (0,0)):=by rw [a1];exact fR w2.drew _
    have bt:=ab br
    have ci:=ab bs
    clear a1 br bs
    go_wp2
    go_ret
    unfold iv
    rw [d.out]
    refine ⟨⟨M,⟨F,G,O,x,S.out.below bt.out,E.out⟩,fun k => .inl,(Ext.fT q.out).trans (Ext.fT bt.out)⟩,_,0,rfl,_,rfl,?_,ci.out⟩
    have:=q.out.size
    exact this
end Go.Proofs.YtkkfmkhbdoeglabGreatDoor
namespace Go.Proofs.YtkkfmkhbdoeglabGreatDoor
open Go.RowKit Go.Shelf
theorem uH (H:fP) (P:PAg) (tk:im):oC H P tk.V (tk.T P.a.T) (tk.log H P)=j7 H P tk:=by
 unfold oC j7
 cases iw (tk.T P.a.T) H.dp.room H.seen.length with
 | some f=>rfl
 | none =>
  generalize tk.log H P=q
  obtain ⟨H1,g1,r⟩:=q
  cases r <;> rfl
def xg (H:fP) (P:PAg):AgA×Option im→fP×PAg
 | (a1,none)=>(H,{P with a:=a1})
 | (a1,some tk)=>j7 H {P with a:=a1} tk
theorem Dl (H:fP) (P:PAg) (frame:List UInt8):ij H P frame=xg H P (P.a.taken frame):=by
 unfold ij xg
 rfl
theorem Cm (H:fP) (P:PAg) (body:List UInt8):Ca (nO H P body)=xg H P (P.a.delta body):=by
 unfold nO AgA.delta
 cases hd:pt body with
 | inr f=>rfl
 | inl y =>
  obtain ⟨v,os⟩:=y
  simp only
  split
  ·rfl
  ·split
   ·rfl
   ·have hw:=hd
    rw [nN] at hw
    obtain ⟨-,b⟩:=uZ _ _ _ hw
    rw [←b]
    exact uH H P (.delta v os)
theorem yW (H:fP) (P:PAg) (tv:Nat) (bytes:List UInt8):Ca (ky H P tv bytes)=xg H P (P.a.lU tv bytes):=by
 unfold ky AgA.lU
 cases hd:iG bytes with
 | inr f=>rfl
 | inl y =>
  obtain ⟨v,T⟩:=y
  simp only
  split
  ·rfl
  ·split
   ·rfl
   ·exact uH H P (.state v T)
theorem Fq (H:fP) (P:PAg) (a0:AgA) (q:AgA×Option im):xg H {P with a:=a0} q=xg H P q:=by
 obtain ⟨a1,r⟩:=q
 cases r <;> rfl
theorem Dd (H:fP) (P:PAg) (body:List UInt8):Ca (mw H P body)=xg H P (P.a.piece body):=by
 unfold mw AgA.piece
 split
 ·rfl
 ·split
  ·rfl
  ·cases P.a.com with
   | none=>rfl
   | some y =>
    obtain ⟨tv,of,got⟩:=y
    simp only
    split
    ·rfl
    ·split
     ·rfl
     ·rw [yW]
      exact Fq _ _ _ _
theorem Ag (a:AgA) (body:List UInt8) (k:Nat) (h:(a.ia body).2=some k):(a.ia body).1=a:=by
 unfold AgA.ia at h⊢
 split at h
 ·rename_i c;rw [aD c]
 ·rename_i c1;rw [au c1]
  split at h
  ·rename_i c;rw [aD c]
  ·rename_i c2;rw [au c2]
   split at h
   ·rename_i c;rw [aD c]
   ·rename_i c3;rw [au c3]
    split at h
    ·rename_i c;rw [aD c]
    ·split at h <;> cases h
def tI (H:fP) (P:PAg) (frame:List UInt8):(fP×PAg)×Option Nat:=match ig frame with
 | .inl (_,body)=>mw H P body
 | .inr _=>((H,P),none)
theorem GC (H:fP) (P:PAg) (frame:List UInt8):uD H P frame (tI H P frame)=ij H P frame:=by
 rw [Dl]
 unfold uD zG AgA.taken tI
 split
 ·rfl
 ·cases hu:ig frame with
  | inr f=>rfl
  | inl y =>
   obtain ⟨k,body⟩:=y
   simp only
   by_cases d:k=1
   ·rw [aD d,aD d];exact Cm H P body
   ·rw [au d,au d]
    by_cases i:k=2
    ·rw [aD i,aD i]
     by_cases b:body=[]
     ·rw [aD b,aD b,aD b];rfl
     ·rw [au b,au b,au b];rfl
    ·rw [au i,au i]
     by_cases l:k=3
     ·rw [aD l,aD l,FD]
      have hq:=Ag P.a body
      generalize P.a.ia body=q at hq
      obtain ⟨a1,r⟩:=q
      cases r with
      | none=>rfl
      | some j =>
       obtain rfl:a1=P.a:=hq j rfl
       rfl
     ·rw [au l,au l]
      by_cases m:k=4
      ·rw [aD m,aD m];exact Dd H P body
      ·rw [au m,au m];rfl
theorem Dc (H:fP) (P:PAg) (body:List UInt8) (b:P.a.Fit) (k:Nat) (h:(mw H P body).2=some k):k<256∧(mw H P body).1.2.a.V<18446744073709551616:=by
 have d:=b.v
 have arr:∀ (P':PAg) tv bytes k,P'.a.V=P.a.V→(ky H P' tv bytes).2=some k→k<256∧(ky H P' tv bytes).1.2.a.V<18446744073709551616:=by
  intro P' tv bytes k i h
  unfold ky at h⊢
  cases hd:iG bytes with
  | inr f =>
   obtain ⟨f1,f2⟩:=f
   rw [hd] at h
   cases h
   have:=Ar hd
   exact ⟨by omega,by show P'.a.V<_;omega⟩
  | inl y =>
   obtain ⟨v,T⟩:=y
   rw [hd] at h
   simp only at h⊢
   split at h
   ·rename_i c
    rw [aD c]
    cases h
    exact ⟨by omega,by show P'.a.V<_;omega⟩
   ·split at h <;> cases h
 unfold mw at h⊢
 split at h
 ·rename_i c;rw [aD c];cases h;exact ⟨by omega,by show P.a.V<_;omega⟩
 ·rename_i c1
  rw [au c1]
  split at h
  ·rename_i c;rw [aD c];cases h;exact ⟨by omega,by show P.a.V<_;omega⟩
  ·rename_i c2
   rw [au c2]
   cases hc:P.a.com with
   | none=>rw [hc] at h;cases h
   | some y =>
    obtain ⟨tv,of,got⟩:=y
    rw [hc] at h
    simp only at h⊢
    split at h
    ·cases h
    ·rename_i c3
     rw [au c3]
     split at h
     ·cases h
     ·rename_i c4
      rw [au c4]
      exact arr _ _ _ _ rfl h
theorem AgAt.Hd {w:World} {G O:Nat→Prop} {a h:Nat} {P:PAg} {x:AV} (ha:AgAt w G O a h P x) (b:P.a.com=none):x.cp = .pointer none:=by
 have:=ha.com
 rw [b] at this
 exact this
theorem AgAt.FG {w:World} {G O:Nat→Prop} {a h:Nat} {P:PAg} {x:AV} {tv of:Nat} {got:List (List UInt8)} (ha:AgAt w G O a h P x) (d:P.a.com=some (tv,of,got)):∃ b bv,x.cp = .pointer (some ⟨b,0,none⟩)∧G b∧w.heap[b]?=some (.cells #[.int .u64 (tv:Nat),.int .i64 (of:Nat),.int .i64 (got.length:Nat),bv] 257 (0,0))∧OwnS w 0 1 bv got.flatten.length (u8s got.flatten)∧CellsOf w bv 5∧∀ k,bv.ownBlock=some k→G k:=by
 have:=ha.com
 rw [d] at this
 exact this
theorem iv.trans {w w1 w':World} {M b:Nat→Prop} {a h:Nat} {R:(fP×PAg)×Option Nat} {e:Ending} (h2:∀ k,b k→M k∨w.heap.size≤k) (h3:Ext M w w1) (hs:iv w1 b a h R e w'):iv w M a h R e w':=by
 obtain ⟨i,d⟩:=hs
 refine ⟨kv.trans h2 h3 i,?_⟩
 obtain ⟨R,r⟩:=R
 cases r with
 | none=>exact d
 | some k =>
  obtain ⟨ev,p,j,g,l,m,o⟩:=d
  exact ⟨ev,p,j,g,l,aH h3.size m,o⟩
theorem AgAt.GB {w w':World} {G G' O:Nat→Prop} {a h i:Nat} {P:PAg} {x:AV} {j:Value} {C:Array Value} {fz:Nat×Nat} {m:Option (Nat×Nat×List (List UInt8))} (ha:AgAt w G O a h P x) (D:w.heap[i]?=some (.cells C 257 fz)) (E:CellsOf w j 5) (F:G i) (I:∀ k,j.ownBlock=some k→G k)
  (d:Ext (fun k=>k=i∨j.ownBlock=some k) w w') (l:∀ k,G k→G' k) (B:∀ k,G' k→k<w'.heap.size∧¬O k) (hc:ComP w' G' x.cp m):AgAt w' G' O a h {P with a := {P.a with com:=m}} x:=by
 have y:∀ k,(k=i∨j.ownBlock=some k)→G k∧∃ C fz,w.heap[k]?=some (.cells C 257 fz)∨w.heap[k]?=some (.cells C 5 fz):=fun k hk=>by
  rcases hk with rfl | hk
  ·exact ⟨F,C,fz,.inl D⟩
  ·obtain ⟨o,b,M⟩:=E k hk
   exact ⟨I k hk,o,b,.inr M⟩
 have q:∀ k o T b,w.heap[k]?=some (Obj.cells o T b)→T≠257→T≠5→¬(k=i∨j.ownBlock=some k):=fun k o T b hk N Q hd=>by
  obtain ⟨-,J,f2,h2 | h2⟩:=y k hd
  ·exact iQ hk h2 N rfl
  ·exact iQ hk h2 Q rfl
 obtain ⟨s,r,vals,h1,-⟩:=ha.out
 have u:=ha.log
 unfold LogAt at u
 refine ⟨d.at (q a _ _ _ ha.row (by decide) (by decide)) ha.row,ha.tab.gr (d.block _ ha.tab.lt fun e => ?_),d.at (q _ _ _ _ u (by decide) (by decide)) u,ha.out.frame d (fun e => ?_) fun k hk e=>ha.sep k (y k e).1 hk,(ha.flt.frame d fun k o R _ hk => ?_).mono l,hc,⟨l _ ha.gin.1,l _ ha.gin.2.1,l _ ha.gin.2.2.1,l _ ha.gin.2.2.2⟩,fun k hk=>(B k hk).1,fun k hk=>aC (ha.olt k hk) d.size,fun k hk=>(B k hk).2⟩
 ·obtain ⟨-,J,f2,h2 | h2⟩:=y _ e
  ·exact ha.tab.jZ h2 rfl
  ·exact ha.tab.jZ h2 rfl
 ·obtain ⟨-,J,f2,h2 | h2⟩:=y _ e
  ·exact nl h1 h2 rfl
  ·exact nl h1 h2 rfl
 ·rcases hk with hk | hk <;> exact q k _ _ _ hk (by decide) (by decide)
theorem ic.GB {w w':World} {F G G' O:Nat→Prop} {a h j:Nat} {H:fP} {P:PAg} {x:AV} {l:Value} {C:Array Value} {fz:Nat×Nat} {m:Option (Nat×Nat×List (List UInt8))} (hm:ic w F G O a h H P x) (o:w.heap[j]?=some (.cells C 257 fz)) (q:CellsOf w l 5) (d:G j) (i:∀ k,l.ownBlock=some k→G k)
  (r:Ext (fun k=>k=j∨l.ownBlock=some k) w w') (s:∀ k,G k→G' k) (b:∀ k,G' k→k<w'.heap.size∧¬O k∧¬F k) (hc:ComP w' G' x.cp m):ic w' F G' O a h H {P with a := {P.a with com:=m}} x :=
 ⟨hm.host.ext r fun k hk e=>hm.fg k hk (e.elim (fun e=>e▸d) (i k)),hm.ag.GB o q d i r s (fun k hk=>⟨(b k hk).1,(b k hk).2.1⟩) hc,fun k hk u=>(b k u).2.2 hk,hm.fo⟩
theorem ic.ended {w w':World} {F G O:Nat→Prop} {a h:Nat} {H:fP} {P:PAg} {x:AV} (hm:ic w F G O a h H P x) (b:Ext (fun j=>j=a) w w') (d:w'.heap[a]?=some (.cells (AV.cells {x with cp := .pointer none} P.a.V h) 174 (0,0))):ic w' F G O a h H {P with a := {P.a with com:=none}} {x with cp := .pointer none} :=
 ⟨hm.host.ext b fun k hk e=>hm.fg k hk (e▸hm.ag.gin.1),hm.ag.mT b d rfl rfl rfl rfl rfl rfl (fun _k=>id) (fun k hk=>⟨aC (hm.ag.glt k hk) b.size,hm.ag.sep k hk⟩) (hm.ag.ve b) rfl,hm.fg,hm.fo⟩
theorem ShapesVar.ext {S:Nat→Prop} {w w':World} (h:ShapesVar w) (b:Ext S w w') (d:∀ k,S k→2≤k):ShapesVar w':=h.gr b.size (b.block _ (fU h.c0) fun e=>absurd (d _ e) (by decide))
theorem CB (got:List (List UInt8)) (h:∀ s∈got,s.length≤64) (hl:got.length≤100):got.flatten.length≤100000:=by
 have key:∀ l:List (List UInt8),(∀ s∈l,s.length≤64)→l.flatten.length≤64*l.length:=by
  intro l
  induction l with
  | nil=>intro _;simp
  | cons s l ih =>
   intro h
   have h1:=ih fun t b=>h t (by simp [b])
   have h2:=h s (by simp)
   rw [List.flatten_cons,aq,ar]
   omega
 have:=key got h
 omega
theorem Aa (n B a h base:Nat) (l:List Int) (F G O M:Nat→Prop) (H:fP) (P:PAg) (x:AV) (bv:Value) (body:List UInt8) (w:World) (hm:ic w F G O a h H P x) (hM:∀ k,F k∨G k∨O k→M k) (hu:UpAg n l H P) (a5:P.a.Fit) (hn:32≤n∧n≤128) (bD:HostOk H B) (hB:B≤800000000) (cq:P.lg.stamp<8999999999999999999) (hL:H.dp.log.length≤7500000000000)
  (hb:OwnS w base 1 bv body.length (u8s body)) (eg:body.length≤gF) (bH:ShapesVar w) (bI:∀ k,M k→2≤k) :
  Calls Tryz.prog 114 #[.pointer (some ⟨a,0,none⟩),bv] w (iv w M a h (mw H P body)):=by
 have Q:=hb.bytes
 obtain ⟨fp,fo,rfl,-,-⟩:=Q.opened
 have S:=hm.ag.row
 unfold AV.cells rY at S
 have fn:=ae _ _ 6 _ _ _ S
 have z6:=aj _ _ 6 _ _ S
 have ej:=fO S
 have el:gF≤1000000000000000000:=by decide
 have d5:1000000≤gF:=by decide
 have q:=ab hm
 have D:=ab hM
 have HU:=ab hu
 have bL:=ab a5
 have ct:=ab bD
 have cu:=ab bH
 have bM:=ab Q
 obtain ⟨R,hR⟩:∃ R,R=mw H P body:=⟨_,rfl⟩
 have HR:=ab hR
 rw [←hR]
 clear hm hM hu a5 bD bH hb hR S Q
 by_cases h1:body.length<2
 ·have cv:(body.length:Int)-1<1:=by omega
  have i:Hid (R=((H,P),some 1)):=ab (by rw [HR.out];unfold mw;rw [aD h1])
  clear h1
  go_enter Tryz.func114,Tryz.ntmps114
  go_wp2_with fail
  refine (gI 1 0 w).mono ?_
  rintro e w3 ⟨rfl,rfl⟩
  go_wp2
  go_ret
  unfold iv
  rw [i.out]
  have ak:Below w.heap.size w (w.alloc (.cells #[.int .i64 1,.int .i64 0,.nilIface] 186)):=(Below.rf w).alloc (af _) _
  exact ⟨⟨M,⟨F,G,O,x,q.out.below ak,D.out⟩,fun k => .inl,Ext.fT ak⟩,_,0,rfl,ja.new w _ 1 0 (af _)⟩
 ·have cv:¬(body.length:Int)-1<1:=by omega
  by_cases h2:65<body.length
  ·have cB:(64:Int)<(body.length:Int)-1:=by omega
   have i:Hid (R=((H,P),some 2)):=ab (by rw [HR.out];unfold mw;rw [au h1,aD h2])
   clear h1 h2
   go_enter Tryz.func114,Tryz.ntmps114
   go_wp2_with fail
   refine (gI 2 0 w).mono ?_
   rintro e w3 ⟨rfl,rfl⟩
   go_wp2
   go_ret
   unfold iv
   rw [i.out]
   have ak:Below w.heap.size w (w.alloc (.cells #[.int .i64 2,.int .i64 0,.nilIface] 186)):=(Below.rf w).alloc (af _) _
   exact ⟨⟨M,⟨F,G,O,x,q.out.below ak,D.out⟩,fun k => .inl,Ext.fT ak⟩,_,0,rfl,ja.new w _ 2 0 (af _)⟩
  ·have cB:¬(64:Int)<(body.length:Int)-1:=by omega
   cases hc:P.a.com with
   | none =>
    have al:=q.out.ag.Hd hc
    rw [al] at fn
    have i:Hid (R=((H,{P with a:=P.a.iW}),none)):=ab (by rw [HR.out];unfold mw;rw [au h1,au h2,hc])
    have hv:=bL.out.v
    clear h1 h2 hc al
    go_enter Tryz.func114,Tryz.ntmps114
    go_wp2_with fail
    refine (jY a h P x G O w q.out.ag (by omega)).mono ?_
    rintro e w3 ⟨rfl,hp⟩
    have HG:=ab (ic.oX (M:=M) q.out (fun k hk => .inl (D.out k hk)) (Ext.refl M w) hp)
    clear hp
    go_wp2
    go_ret
    unfold iv
    rw [i.out]
    exact ⟨HG.out,rfl⟩
   | some y =>
    obtain ⟨tv,of,got⟩:=y
    obtain ⟨d,gv,al,ba,E,a1,bN,bO⟩:=q.out.ag.FG hc
    obtain ⟨k1,k2,k3,k4⟩:=bL.out.com tv of got hc
    obtain ⟨X,hX⟩:∃ X,X=got.flatten:=⟨_,rfl⟩
    rw [←hX] at a1
    have bP:=ab hX
    clear hX
    obtain ⟨ga,gc,rfl⟩:=a1.shape
    rw [al] at fn
    have g0:=ae _ _ 0 _ _ _ E
    have g1:=ae _ _ 1 _ _ _ E
    have g2:=ae _ _ 2 _ _ _ E
    have g3:=ae _ _ 3 _ _ _ E
    have y2:=aj _ _ 2 _ _ E
    have y3:=aj _ _ 3 _ _ E
    have d8:=fO E
    obtain ⟨em,en,c0,c1,bS⟩:=bM.out.opened
    cases c0
    obtain ⟨b0,b,rfl⟩:∃ b0 b,body=b0::b:=by
     cases body with
     | nil=>simp at h1
     | cons b0 b=>exact ⟨b0,b,rfl⟩
    obtain ⟨tb,er,rfl,t0⟩:=bS 0 (by simp)
    simp only [cj,cz] at t0
    have i:Hid (R=if b0.toNat≠got.length then ((H,{P with a:=P.a.jM}),none) else if got.length+1<of then ((H,{P with a:=AgA.jM {P.a with com:=some (tv,of,got++[b])}}),none) else ky H {P with a := {P.a with com:=none}} tv (got++[b]).flatten):=ab (by rw [HR.out];unfold mw;rw [au h1,au h2,hc];rfl)
    have bc:=ab E
    have c2:=ab hc
    have c3:=ab a1
    have a2:=ab bN
    have be:=ab bO
    have hlen:(b0::b).length=b.length+1:=rfl
    have c4:=b0.toNat_lt
    clear E a1 bN bO h1 h2 HR bS
    generalize (b0::b).length=bl at *
    obtain ⟨bn,bi⟩:∃ bn,bn=b0.toNat:=⟨_,rfl⟩
    have eC:=ab bi
    rw [←bi] at t0 c4 i
    clear bi
    by_cases U:bn=got.length
    ·have q1:((bn:Int)==(got.length:Int))=true:=by rw [U];exact ei _
     have c5:(bn:Int)=(got.length:Int):=by omega
     rw [au (by omega)] at i
     clear U
     go_enter Tryz.func114,Tryz.ntmps114
     go_upto_region 10 with fail
     go_region
     all_goals
      go_upto_region 11 with fail
      have ea:¬fo=1:=by omega
      have eb:(1:Int)≤(b.length:Int)+1:=by omega
      have ce:=ab (BytesAt.right (x:=[b0]) (y:=b) bM.out)
      have eD:X.length≤100000:=by rw [bP.out];exact CB got k4 (by omega)
      clear c1
      go_region_law
       ((first
         | (refine lA rfl (.tmp 43) (.tmp 45) 112 5 1 1 (.int .u8 0) Tryz.underlying112 qd rfl (by decide) rfl 0 (.slice ga X.length gc) X.length (u8s X) rfl (by exact c3.out) (by exact a2.out) b.length (u8s b) (by exact ce.out) (oE b) (by omega) (by omega) (aM _) ?_;intro v7 w7 N bk Z bX;rw [←j8] at N;
            obtain ⟨m,o,rfl⟩:=N.shape;
            have V:=ab (iN bk (a2.out.ne bc.out (by decide)) bc.out);
            have c6:w7.cell? ⟨d,3,none⟩=some (.slice ga X.length gc):=ae _ _ 3 _ _ _ V.out;
            have c7:=aj _ _ 3 _ _ V.out;have c8:=fO V.out)))
      all_goals
       have I:(w7.setCell ⟨d,3,none⟩ (.slice m (X.length+b.length) o)).heap[d]?=some (.cells #[.int .u64 (tv:Nat),.int .i64 (of:Nat),.int .i64 (got.length:Nat),.slice m (X.length+b.length) o] 257 (0,0)):=heap_setCell _ _ 3 _ V.out
       have bo:Ext (fun k=>k=d∨(Value.slice ga X.length gc).ownBlock=some k) w (w7.setCell ⟨d,3,none⟩ (.slice m (X.length+b.length) o)):=((Ext.fT ((Below.rf w).drew.drew)).trans (Ext.mono (oI (w:=w.drew.drew) bk) fun k e=>(.inr e:k=d∨(Value.slice ga X.length gc).ownBlock=some k))).setCell ⟨d,3,none⟩ _ (.inl (.inl rfl))
       have br:OwnS (w7.setCell ⟨d,3,none⟩ (.slice m (X.length+b.length) o)) 0 1 (.slice m (X.length+b.length) o) (X.length+b.length) (u8s (X++b)):=N.frame (by rw [size_setCell];exact af _) fun k e _=>Below.heap_setCell w7 ⟨d,3,none⟩ _ k fun u=>by
        obtain ⟨C,fz,hC⟩:=Z k e
        exact iQ hC V.out (by decide) u
       have av:CellsOf (w7.setCell ⟨d,3,none⟩ (.slice m (X.length+b.length) o)) (.slice m (X.length+b.length) o) 5:=Z.frame fun k e _=>Below.heap_setCell w7 ⟨d,3,none⟩ _ k fun u=>by
        obtain ⟨C,fz,hC⟩:=Z k e
        exact iQ hC V.out (by decide) u
       have b1:∀ k,(Value.slice m (X.length+b.length) o).ownBlock=some k→(Value.slice ga X.length gc).ownBlock=some k∨w.heap.size≤k:=fun k e=>(bX k e).imp id fun e=>by have u:k=w.heap.size:=e;omega
       generalize w7.setCell ⟨d,3,none⟩ (.slice m (X.length+b.length) o)=w8 at *
       have eS:=ab I
       have c9:=ab bo
       have da:=ab br
       have dc:=ab av
       have b2:=ab b1
       have eT:=ae _ _ 2 _ _ _ I
       have eV:=aj _ _ 2 _ _ I
       have g18:=ae _ _ 1 _ _ _ I
       have e0:=fO I
       have dk:IntKind.i64.wrap ((got.length:Int)+1)=(got.length:Int)+1:=by rw [show ((got.length:Int)+1)=((got.length+1:Nat):Int) by omega];exact IntWalk.i64_in _ (by omega)
       have W:(w8.setCell ⟨d,2,none⟩ (.int .i64 ((got.length:Int)+1))).heap[d]?=some (.cells #[.int .u64 (tv:Nat),.int .i64 (of:Nat),.int .i64 ((got.length:Int)+1),.slice m (X.length+b.length) o] 257 (0,0)):=heap_setCell _ _ 2 _ I
       have aE:=bo.setCell ⟨d,2,none⟩ (.int .i64 ((got.length:Int)+1)) (.inl (.inl rfl))
       have a0:=br.frame (w':=w8.setCell ⟨d,2,none⟩ (.int .i64 ((got.length:Int)+1))) (by rw [size_setCell];exact af _) fun k e _=>Below.heap_setCell w8 ⟨d,2,none⟩ _ k fun u=>by
        obtain ⟨C,fz,hC⟩:=av k e
        exact iQ hC I (by decide) u
       have b3:=av.frame (w':=w8.setCell ⟨d,2,none⟩ (.int .i64 ((got.length:Int)+1))) fun k e _=>Below.heap_setCell w8 ⟨d,2,none⟩ _ k fun u=>by
        obtain ⟨C,fz,hC⟩:=av k e
        exact iQ hC I (by decide) u
       clear I bo br av b1 N bk Z bX c6 c7 c8
       go_upto_region 13 with fail
       generalize dl:w8.setCell ⟨d,2,none⟩ (.int .i64 ((got.length:Int)+1))=J at *
       have e1:=ae _ _ 2 _ _ _ W
       have g19:=ae _ _ 1 _ _ _ W
       have e2:=fO W
       have b4:=ab W
       have a3:X++b=(got++[b]).flatten:=by rw [bP.out,List.flatten_append,List.flatten_cons,List.flatten_nil,cM]
       have bs:X.length+b.length=(got++[b]).flatten.length:=by rw [←a3,aq]
       have b5:=q.out.ag.glt
       have dn:=q.out.host.lt
       have ds:=q.out.ag.olt
       have Y:Hid (ic J F (fun k=>G k∨(w.heap.size≤k∧k<J.heap.size)) O a h H {P with a := {P.a with com:=some (tv,of,got++[b])}} x):=ab (by
        refine q.out.GB bc.out a2.out ba be.out aE (fun k => .inl) (fun k hk => ?_) ?_
        ·rcases hk with hk | hk
         ·have:=b5 k hk
          exact ⟨aC this aE.size,q.out.ag.sep k hk,fun e=>q.out.fg k e hk⟩
         ·exact ⟨hk.2,fun e=>by have:=ds k e;omega,fun e=>by have:=dn k e;omega⟩
        ·refine ⟨d,.slice m (X.length+b.length) o,al,.inl ba,?_,?_,b3,fun k e => ?_⟩
         ·rw [W]
          simp
         ·rw [a3,bs] at a0
          rw [bs]
          exact a0
         ·rcases b2.out k e with u | u
          ·exact .inl (be.out k u)
          ·exact .inr ⟨u,a0.gP k e⟩)
       have bt:=ab (show Ext M w J from aE.mono fun k e=>D.out k (.inr (.inl (e.elim (fun e=>e▸ba) (be.out k)))))
       have b6:=ab a0
       have dv:=ab a3
       have e3:=ab aE.size
       have b7:Hid (∀ k,F k∨(G k∨(w.heap.size≤k∧k<J.heap.size))∨O k→M k∨w.heap.size≤k):=ab fun k hk=>by
        rcases hk with hk | (hk | hk) | hk
        ·exact .inl (D.out k (.inl hk))
        ·exact .inl (D.out k (.inr (.inl hk)))
        ·exact .inr hk.1
        ·exact .inl (D.out k (.inr (.inr hk)))
       clear W aE a0 b3 dl a3 bs da dc c9 dk
       by_cases a4:got.length+1<of
       ·have ci:(got.length:Int)+1<(of:Int):=by omega
        rw [aD a4] at i
        clear a4
        go_region
        all_goals
         go_wp2_with fail
         refine (og a h _ x _ O _ (Y.out.below ((Below.rf J).drew)).ag tv of (got++[b]) rfl (by rw [aq,dt];omega)).mono ?_
         rintro e e4 ⟨rfl,hp⟩
         have HG:=ab (ic.oX (M:=M) (Y.out.below ((Below.rf J).drew)) b7.out (bt.out.trans (Ext.fT ((Below.rf J).drew))) hp)
         clear hp
         go_wp2
         go_ret
         unfold iv
         rw [i.out]
         exact ⟨HG.out,rfl⟩
       ·have ci:¬(got.length:Int)+1<(of:Int):=by omega
        rw [au a4] at i
        clear a4
        have b8:=Y.out.below ((Below.rf J).drew)
        have s:=b8.ag.row
        have ec:=ab s
        unfold AV.cells rY at s
        have e5:=ae _ _ 6 _ _ _ s
        have f69:=aj _ _ 6 _ _ s
        have ed:=fO s
        clear b8 s
        go_region
        all_goals
         have r:Ext (fun j=>j=a) J (J.setCell ⟨a,6,none⟩ (.pointer none)).drew:=((Ext.refl (fun j=>j=a) J).setCell ⟨a,6,none⟩ (.pointer none) (.inl rfl)).drew
         have bw:=Y.out.ended r (heap_setCell _ _ 6 _ Y.out.ag.row)
         have U:d≠a:=fun e=>iQ b4.out Y.out.ag.row (by decide) e
         have bx:UpAg n l H {P with a := {P.a with com:=none}} := ⟨HU.out.disk,HU.out.dpS,HU.out.room,HU.out.tab,HU.out.deg⟩
         have Q:BytesAt (J.setCell ⟨a,6,none⟩ (.pointer none)).drew (.slice m (X.length+b.length) o) (X++b):=(b6.out.frame r.size fun k e hk=>r.block k hk fun u=>by
          have u:k=a:=u
          rcases b2.out k e with h' | h'
          ·obtain ⟨C,fz,hC⟩:=a2.out k h'
           exact iQ hC q.out.ag.row (by decide) u
          ·have:=b5 a q.out.ag.gin.1
           omega).bytes
         have dT:=ab (xr n B a h d l F _ O (fun k=>M k∨w.heap.size≤k) H {P with a := {P.a with com:=none}} _ _ _ _ tv (X++b) _ bw b7.out bx hn ct.out hB cq hL (r.at U b4.out) Q (fun k e=>by have h':=Q;have:=b6.out.gP k e;exact aC this r.size) (by rw [aq];omega) ((cu.out.ext bt.out bI).ext r fun k e=>e▸bI a (D.out a (.inr (.inl q.out.ag.gin.1)))) k3)
         have co:=ab (bt.out.trans (r.mono fun k e=>D.out k (.inr (.inl (e▸q.out.ag.gin.1)))))
         clear r bw bx Q
         go_wp2_with fail
         refine dT.out.mono ?_
         rintro e e6 bz
         obtain ⟨ev,rfl⟩:=bz.ev
         have d0:=ab (iv.trans (fun k hk=>hk) co.out bz)
         clear bz
         go_wp2
         go_ret
         rw [i.out,←dv.out]
         exact d0.out
    ·have q1:((bn:Int)==(got.length:Int))=false:=aA.2 (by omega)
     have c5:¬(bn:Int)=(got.length:Int):=by omega
     have q2:(got.length:Int)<(of:Int):=by omega
     rw [aD U] at i
     clear U
     go_enter Tryz.func114,Tryz.ntmps114
     go_upto_region 10 with fail
     go_region
     all_goals
      go_wp2
      go_region
      all_goals
       go_wp2_with fail
       refine (og a h P x G O _ (q.out.below ((Below.rf w).drew.drew)).ag tv of got c2.out (by omega)).mono ?_
       rintro e w3 ⟨rfl,hp⟩
       have HG:=ab (ic.oX (M:=M) (q.out.below ((Below.rf w).drew.drew)) (fun k hk => .inl (D.out k hk)) (Ext.fT ((Below.rf w).drew.drew)) hp)
       clear hp
       go_wp2
       go_ret
       unfold iv
       rw [i.out]
       exact ⟨HG.out,rfl⟩
theorem yV (n B a h:Nat) (l:List Int) (F G O M:Nat→Prop) (H:fP) (P:PAg) (x:AV) (bv:Value) (frame:List UInt8) (w:World) (hm:ic w F G O a h H P x) (q:∀ k,F k∨G k∨O k→M k) (hu:P.a.deg=none→UpAg n l H P) (d:P.a.Fit) (r:32≤n∧n≤128) (i:HostOk H B) (s:B≤800000000) (j:P.lg.stamp<8999999999999999999) (u:H.dp.log.length≤7500000000000)
  (J:BytesAt w bv frame) (C:frame.length≤gF) (m:ShapesVar w) (D:ErrVar w) (o:∀ k,M k→2≤k) :
  Calls Tryz.prog 68 #[.pointer (some ⟨a,0,none⟩),bv] w fun e w'=>e = .returned (.tuple #[])∧kv w M a h (ij H P frame).1 (ij H P frame).2 w':=by
 rw [←GC]
 refine xu n B a h l F G O M H P x bv frame (tI H P frame) w hm q hu r i s j u J C m D d.v o (fun body W v' hd b E N => ?_) fun k hk => ?_
 ·have hl:=xh b
  rw [show tI H P frame=mw H P body by unfold tI;rw [b]]
  refine (Aa n B a h w.heap.size l F G O M H P x v' body W (hm.below E) q (hu hd) d r i s j u N (by omega) (m.new E) o).mono ?_
  intro e w' I
  exact I
 ·unfold tI at hk⊢
  cases b:ig frame with
  | inr f=>rw [b] at hk;cases hk
  | inl y =>
   rw [b] at hk
   exact Dc H P y.2 d k hk
end Go.Proofs.YtkkfmkhbdoeglabGreatDoor
