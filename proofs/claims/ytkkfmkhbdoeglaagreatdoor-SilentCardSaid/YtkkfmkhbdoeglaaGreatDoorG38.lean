/- A part of what is proved here: lemmas and contracts of single functions. No condition but those that each names. -/
import Derived.Test.YtkkfmkhbdoeglaaGreatDoorG00
import Derived.Test.YtkkfmkhbdoeglaaGreatDoorG16
import Derived.Test.YtkkfmkhbdoeglaaGreatDoorG28
import Derived.Test.YtkkfmkhbdoeglaaGreatDoorG37
set_option maxHeartbeats 8000000
set_option maxRecDepth 100000
namespace Go.Proofs.YtkkfmkhbdoeglaaGreatDoor
open Go.RowKit Go.Shelf
theorem Bv (H:fx) (n:Nat) (s:List UInt8):H.dp.Same (H.write n s).1.dp:=by
 unfold fx.write
 split
 ·exact DpS.Same.refl _
 ·exact lD _
theorem zU (H:fx):H.dp.Same H.flush.1.dp:=by
 unfold fx.flush
 split
 ·exact DpS.Same.refl _
 ·split <;> exact lD _
theorem rU:∀ (l:List (List UInt8)) (H:fx) (n:Nat),H.dp.Same (fZ l H n).1.dp
 | [],_,_=>DpS.Same.refl _
 | s::l,H,n=>by
  unfold fZ
  have h1:=Bv H n s
  generalize H.write n s=q at h1⊢
  obtain ⟨b,d⟩:=q
  cases d with
  | some f=>exact h1
  | none=>exact h1.trans (rU l b (n+1))
theorem p9 (H:fx) (g:LogS) (at':Nat) (data:List UInt8):H.dp.Same (fC H g at' data).1.dp:=by
 unfold fC
 have h1:=rU (fR (g.stamp+1) data) H at'
 generalize fZ (fR (g.stamp+1) data) H at'=q at h1⊢
 obtain ⟨b,d⟩:=q
 cases d with
 | some f=>exact h1
 | none=>exact h1.trans (zU b)
theorem qZ (H:fx) (g:LogS) (v:Nat) (T:List E):H.dp.Same (fI H g v T).1.dp:=by
 unfold fI
 have h1:=p9 H g ((1-g.slot)*placeOf H.seen.length) (ic v T)
 generalize fC H g ((1-g.slot)*placeOf H.seen.length) (ic v T)=q at h1⊢
 obtain ⟨d,b⟩:=q
 cases b <;> exact h1
theorem qF (H:fx) (g:LogS) (b:List UInt8):H.dp.Same (gj H g b).1.dp:=by
 unfold gj
 have h1:=p9 H g g.next b
 generalize fC H g g.next b=q at h1⊢
 obtain ⟨i,d⟩:=q
 cases d <;> exact h1
theorem y4 (H:fx) (g:LogS) (b:List UInt8) (v:Nat) (T:List E):H.dp.Same (gF H g b v T).1.dp:=by
 unfold gF
 split
 ·have h1:=qZ H g v T
  generalize fI H g v T=q at h1⊢
  obtain ⟨d,g1,i⟩:=q
  cases i with
  | some f=>exact h1
  | none=>exact h1.trans (qF d g1 b)
 ·exact qF H g b
theorem EntGood.small {x:E} (h:EntGood x):0≤x.1.1∧x.1.1<256∧x.1.2.length≤100∧x.2.length≤100:=by
 obtain ⟨h1,h2,h3,h4⟩:=h
 have b:=jm h3
 have d:=iL h1 h2 h4
 have i:=rO x.1.1
 have j:=rI x.1.1
 exact ⟨h1,by omega,by omega,by omega⟩
theorem uf {S:List E} (h:∀ x∈S,EntGood x):sizeS S≤201*S.length:=by
 induction S with
 | nil=>simp [sizeS]
 | cons x S ih =>
  have h1:=ih fun y b=>h y (aR _ b)
  obtain ⟨-,-,h3,h4⟩:=(h x (by simp)).small
  unfold sizeS at h1⊢
  rw [bg,List.sum_cons,ar]
  omega
theorem Ei (n B a h d i:Nat) (l:List Int) (F G O:Nat→Prop) (H:fx) (P:PAg) (x:AV) (bv:Value) (body:List UInt8) (w:World) (hm:gI w F G O a h H P x) (hu:UpAg n l H P) (Q:HostOk H B) (hB:B≤800000000) (R:P.lg.stamp<8999999999999999999)
  (I:BytesAt w bv body) (u:∀ k,bv.ownBlock=some k→¬F k∧k≠x.lg∧k<w.heap.size) (S:body.length≤700) (ha:w.cell? ⟨d,0,none⟩=some (.pointer (some ⟨a,0,none⟩))) (C:w.cell? ⟨i,0,none⟩=some bv) (o:(¬F d∧d≠x.lg)∧¬F i∧i≠x.lg) :
  s9 118 #[.pointer (some ⟨d,0,none⟩),.pointer (some ⟨i,0,none⟩)] w x F h (gF H P.lg body P.a.V P.a.T):=by
 intro W D
 have b:=hm.below D
 have j:=b.ag.row
 unfold AV.cells qE at j
 have c1:=ae _ _ 1 _ _ _ j
 have c2:=ae _ _ 2 _ _ _ j
 have c0:=ae _ _ 0 _ _ _ j
 have U:=fw j
 have J:=(D.cell (p:=⟨d,0,none⟩) (fE ha)).trans ha
 have M:=(D.cell (p:=⟨i,0,none⟩) (fE C)).trans C
 obtain ⟨X,Z,rfl,-,-⟩:=I.opened
 have E:=I.below D
 have m:=b.ag.gin
 have aa:=ab (fun (Y:World) (s:Below W.heap.size W Y)=>Bz x.lg h F H P.lg B a 0 x.r P.a.V P.a.T (.slice X body.length Z) body Y (fy s (fw b.ag.log) b.ag.log) (b.host.below s) Q hB (fun e=>b.fg _ e m.2.2.1)
  ⟨(s.cell (p:=⟨a,0,none⟩) U).trans c0,b.ag.tab.fP (s.block _ b.ag.tab.lt)⟩ ⟨fun e=>b.fg _ e m.1,fun e=>ij b.ag.row b.ag.log (by decide) e⟩ ⟨fun e=>b.fg _ e m.2.1,fun e=>b.ag.tab.jC b.ag.log e.symm⟩
  hu.slot (by rw [hu.len];exact hu.tab.size) (by have:=hu.tab.len;omega) (by have:=hu.tab.v64;omega) (fun y hy=>(hu.tab.good y hy).small) R (E.below s) (fun k e=>⟨(u k e).1,(u k e).2.1,by have:=(u k e).2.2;have:=D.size;have:=s.size;omega⟩) S (by rw [hu.len];exact hu.disk.next))
 have halt:=fE J
 have am:=fE M
 have q:=ab (show ¬(F d∨d=x.lg)∧¬(F i∨i=x.lg)∧¬(F a∨a=x.lg) from ⟨fun e=>e.elim o.1.1 o.1.2,fun e=>e.elim o.2.1 o.2.2,fun e=>e.elim (fun e=>b.fg _ e m.1) fun e=>ij b.ag.row b.ag.log (by decide) e⟩)
 clear hm b j I E m ha C
 go_enter Tryz.func118,Tryz.ntmps118
 go_wp2
 go_region_held3 (fun w'=>w'.cell? ⟨d,0,none⟩=some (.pointer (some ⟨a,0,none⟩))∧w'.cell? ⟨i,0,none⟩=some (.slice X body.length Z)∧w'.cell? ⟨a,2,none⟩=some (.pointer (some ⟨x.lg,0,none⟩))∧w'.cell? ⟨a,1,none⟩=some (.int .u64 (P.a.V:Nat)))
  (first | exact ⟨J,M,c2,c1⟩ | (obtain ⟨F',g1,g2,g3⟩:=h3;exact ⟨g3.cell (p:=⟨d,0,none⟩) q.out.1 J,g3.cell (p:=⟨i,0,none⟩) q.out.2.1 M,g3.cell (p:=⟨a,2,none⟩) q.out.2.2 c2,g3.cell (p:=⟨a,1,none⟩) q.out.2.2 c1⟩))
  (first | (go_at_call 119;refine (aa.out _ (by first | exact (Below.rf W).drew | exact Below.rf W)).mono ?_;rintro e w1 ⟨rv,rfl,h1,h2,h3,h4⟩))
 all_goals
  have N:=ab (⟨h1,h2,h3⟩:we _ w1 rv (gF H P.lg body P.a.V P.a.T).2.2∧LogAt w1 x.lg h (gF H P.lg body P.a.V P.a.T).2.1∧gV _ F (fun k=>k=x.lg) h (gF H P.lg body P.a.V P.a.T).1 w1)
  clear h1 h2 h3 h4
  go_wp2
  go_ret
  exact ⟨_,rfl,N.out.1,N.out.2.1,gV.fS ((Below.rf W).drew) N.out.2.2⟩
def gP (w:World) (M:Nat→Prop) (a h:Nat) (R:(fx×PAg)×Option Nat) (e:Ending) (w':World):Prop :=
 jM w M a h R.1.1 R.1.2 w'∧match R.2 with
  | none=>e = .returned .nilIface
  | some k=>∃ ev p,e = .returned ev∧iJ w' w.heap.size ev (k:Nat) p
def mP (H:fx) (P:PAg) (body:List UInt8):(fx×PAg)×Option Nat:=match oU body with
 | .inr f=>((H,P),some f.1)
 | .inl (v,os)=>(if v≤P.a.V then (H,{P with a:=P.a.lu}) else if P.a.V+1<v then (H,{P with a:=P.a.iM}) else ni H P v (foldS P.a.T os) (gF H P.lg body P.a.V P.a.T),none)
theorem DZ {k:K} {v:List UInt8} {S:List E} {l:List E} (h:∀ x,x∈S↔x∈l) (hk:k∉l.map (·.1)) (x:E):x∈jS k v S↔x∈l++[(k,v)]:=by
 rw [iY,bQ,aA,h]
 constructor
 ·rintro (h | ⟨h,-⟩)
  ·exact .inr h
  ·exact .inl h
 ·rintro (h1 | h1)
  ·exact .inr ⟨h1,fun e=>hk (az.2 ⟨x,h1,e⟩)⟩
  ·exact .inl h1
theorem yx (n B a h:Nat) (l:List Int) (F G O M:Nat→Prop) (H:fx) (P:PAg) (x:AV) (bv:Value) (body:List UInt8) (w:World) (hm:gI w F G O a h H P x) (hM:∀ k,F k∨G k∨O k→M k) (hu:UpAg n l H P) (hX:32≤n∧n≤128) (c4:HostOk H B) (hT:B≤800000000) (fi:P.lg.stamp<8999999999999999999) (hL:H.dp.log.length≤7500000000000)
  (hb:BytesAt w bv body) (c5:∀ k,bv.ownBlock=some k→¬F k∧k≠x.lg∧k<w.heap.size) (fk:body.length≤fX) (bx:ShapesVar w) :
  Calls Tryz.prog 81 #[.pointer (some ⟨a,0,none⟩),bv] w (gP w M a h (mP H P body)):=by
 obtain ⟨hO,hP,rfl,-,-⟩:=hb.opened
 have W:Below w.heap.size w ((w.alloc (.cells #[.pointer (some ⟨a,0,none⟩)] 89)).alloc (.cells #[.slice hO body.length hP] 59)):=Below.al (Below.al (Below.rf w) _) _
 have ba:=fG (w.alloc (.cells #[.pointer (some ⟨a,0,none⟩)] 89)) (.cells #[.slice hO body.length hP] 59) (fA w (.cells #[.pointer (some ⟨a,0,none⟩)] 89))
 have X:=fA (w.alloc (.cells #[.pointer (some ⟨a,0,none⟩)] 89)) (.cells #[.slice hO body.length hP] 59)
 have hl:((w.alloc (.cells #[.pointer (some ⟨a,0,none⟩)] 89)).alloc (.cells #[.slice hO body.length hP] 59)).heap.size=w.heap.size+2:=by rw [ax,ax]
 rw [ax] at X
 have J:=ab hm
 have bb:=ab hM
 have m:=ab hu
 have fl:=ab c4
 have D:=ab c5
 obtain ⟨R,hR⟩:∃ R,R=mP H P body:=⟨_,rfl⟩
 have HR:=ab hR
 rw [←hR]
 have b:=hb.below W
 have bz:=bx.fP W.size (W.block _ bx.two)
 clear hm hM hu c4 c5 hR bx hb
 go_enter Tryz.func81,Tryz.ntmps81
 go_upto_region 1 with fail
 generalize (w.alloc (.cells #[.pointer (some ⟨a,0,none⟩)] 89)).alloc (.cells #[.slice hO body.length hP] 59)=w0 at *
 have c6:=ab W
 have fn:=ab (uK (.slice hO body.length hP) body w0 b (fun k e=>by have:=(D.out k e).2.2;omega) fk bz)
 have a0:=ae _ _ 0 _ _ _ ba
 have b0:=ae _ _ 0 _ _ _ X
 have bD:=fw ba
 have bH:=fw X
 have fo:=ab ba
 have e4:=ab X
 have fr:=ab b
 clear W ba X b bz
 go_wp2_with fail
 refine fn.out.mono ?_
 rintro e w1 ⟨b,bc⟩
 have bI:=ab (c6.out.tn b)
 have bd:=fy b bD fo.out
 have N:=fy b bH e4.out
 cases i:oU body with
 | inr f =>
  obtain ⟨hW,fp⟩:=f
  rw [i] at bc
  obtain ⟨ev,rfl,c7⟩:=bc
  have fv:=ab c7
  obtain ⟨g,rfl,-,-⟩:=c7
  have d:Hid (R=((H,P),some hW)):=ab (by rw [HR.out];unfold mP;rw [i])
  have c8:Below w1.heap.size w1 (w1.alloc (.cells #[.int .u64 0,.slice none 0 0] 34)):=(Below.rf w1).alloc (af _) _
  have bL:=ab c8
  clear i b c8 bd N
  go_wp2
  refine aI (v := .iface 114 (.pointer (some ⟨g,0,none⟩))) (by simp [results,Tryz.results81,go_sem]) rfl ?_
  unfold gP
  rw [d.out]
  refine ⟨⟨M,⟨F,G,O,x,(J.out.below bI.out).below bL.out,bb.out⟩,fun k => .inl,(Ext.fD bI.out).trans (Ext.fD bL.out)⟩,_,fp,rfl,?_⟩
  obtain ⟨g',e1,e2,e3⟩:=fv.out
  exact ⟨g',e1,by omega,fy bL.out (fw e3) e3⟩
 | inl y =>
  obtain ⟨v,os⟩:=y
  rw [i] at bc
  obtain ⟨sv,rfl,a1⟩:=bc
  obtain ⟨sa,s,rfl⟩:=a1.shape
  have bN:=i
  rw [nP] at bN
  obtain ⟨bO,bi⟩:=sY _ _ _ bN
  have f0:=ab bi
  have bP:=ab bO
  have f1:=ab (jR bO)
  have d:Hid (R=(if v≤P.a.V then (H,{P with a:=P.a.lu}) else if P.a.V+1<v then (H,{P with a:=P.a.iM}) else ni H P v (foldS P.a.T os) (gF H P.lg body P.a.V P.a.T),none)):=ab (by rw [HR.out];unfold mP;rw [i])
  have t2:Below w1.heap.size w1 (w1.alloc (.cells #[.int .u64 (v:Nat),.slice sa os.length s] 34)):=(Below.rf w1).alloc (af _) _
  have D2:=fA w1 (.cells #[.int .u64 (v:Nat),.slice sa os.length s] 34)
  have f2:=ab (a1.below t2)
  have u:=ab (bI.out.tn t2)
  have bk:=fy t2 (fw bd) bd
  have Q:=fy t2 (fw N) N
  have hn:=b.size
  clear bN bO bi a1 i b bd N HR
  go_upto_region 11 with fail
  generalize w1.alloc (.cells #[.int .u64 (v:Nat),.slice sa os.length s] 34)=w2 at *
  have bX:=J.out.below u.out
  have j:=bX.ag.row
  unfold AV.cells qE at j
  have c1:=ae _ _ 1 _ _ _ j
  have c0:=ae _ _ 0 _ _ _ j
  have g4:=fw j
  have d0:=ae _ _ 0 _ _ _ D2
  have d1:=ae _ _ 1 _ _ _ D2
  have g5:=fw D2
  have a2:=ae _ _ 0 _ _ _ bk
  have b2:=ae _ _ 0 _ _ _ Q
  have g6:=fw bk
  have g7:=fw Q
  have I:=ab bX
  have c9:=ab D2
  have b1:=ab bk
  have e5:=ab Q
  have e6:=m.out.tab.v64
  clear bX j D2 bk Q a0 b0 bD bH t2
  obtain ⟨V,hV⟩:∃ V,V=P.a.V:=⟨_,rfl⟩
  have HV:=ab hV
  rw [←hV] at c1 e6 d
  clear hV
  by_cases h1:v≤V
  ·have f3:(v:Int)≤(V:Int):=by omega
   rw [aB h1] at d
   clear h1
   go_region
   all_goals
    go_wp2_with fail
    refine (om a h P x G O _ (I.out.below ((Below.rf w2).drew)).ag (by rw [←HV.out];omega)).mono ?_
    rintro e w3 ⟨rfl,Y⟩
    have HG:=ab (gI.nT (M:=M) (I.out.below ((Below.rf w2).drew)) (fun k hk => .inl (bb.out k hk)) (Ext.fD (u.out.tn ((Below.rf w2).drew))) Y)
    clear Y
    go_wp2
    go_ret
    unfold gP
    rw [d.out]
    exact ⟨HG.out,rfl⟩
  ·have f3:¬(v:Int)≤(V:Int):=by omega
   rw [au h1] at d
   have ho:IntKind.u64.wrap ((V:Int)+1)=((V+1:Nat):Int):=by rw [show ((V:Int)+1)=((V+1:Nat):Int) by omega];exact IntWalk.u64_in _ (by omega)
   by_cases h2:V+1<v
   ·have f4:((V+1:Nat):Int)<(v:Int):=by omega
    rw [aB h2] at d
    clear h1 h2
    go_region
    all_goals
     go_wp2
     go_region
     all_goals
      go_wp2_with fail
      refine (jy a h P x G O _ (I.out.below ((Below.rf w2).drew.drew)).ag (by rw [←HV.out];omega)).mono ?_
      rintro e w3 ⟨rfl,Y⟩
      have HG:=ab (gI.nT (M:=M) (I.out.below ((Below.rf w2).drew.drew)) (fun k hk => .inl (bb.out k hk)) (Ext.fD (u.out.tn ((Below.rf w2).drew.drew))) Y)
      clear Y
      go_wp2
      go_ret
      unfold gP
      rw [d.out]
      exact ⟨HG.out,rfl⟩
   ·have f4:¬((V+1:Nat):Int)<(v:Int):=by omega
    rw [au h2] at d
    obtain rfl:v=V+1:=by omega
    clear h1 h2
    go_region
    all_goals
     go_wp2
     go_region
     all_goals
      go_wp2_with fail
      refine (nA _).mono ?_
      rintro e w3 ⟨rfl,b3,da,dc⟩
      have bl:Below w2.heap.size w2 w3:=(Below.rf w2).drew.drew.tn da
      have dk:=ab (show w3.heap.size=w2.heap.size+2 from dc)
      have bn:=I.out.below bl
      have o:=bn.ag.row
      unfold AV.cells qE at o
      have e0:=ae _ _ 0 _ _ _ o
      have gs:=fw o
      have b4:=fy bl (fw b1.out) b1.out
      have a3:=ae _ _ 0 _ _ _ b4
      have gt:=fw b4
      have f5:=ab bn
      have f6:=ab bl
      have dl:=ab b3
      obtain ⟨dn,L,b5,Y⟩:=bn.ag.tab
      have HP:=ab Y
      have ds:=ab dn
      have b6:w3.cell? ⟨w2.heap.size+1,0,none⟩=some (.map (some w2.heap.size)):=b3.cell
      have g8:=fE b6
      clear b3 da bl bn o b4 dn Y c0 c1 dc
      go_upto_region 3 with fail
      go_wp2_with (first | (refine kv rfl _ rfl Tryz.underlying107 rfl b5 ?_;intro w4 e8 dv hp) | fail)
      clear b5
      have g9:x.r<w3.heap.size:=f5.out.ag.tab.lt
      have f8:Hid (x.r≠w2.heap.size):=ab (by have:=I.out.ag.tab.lt;omega)
      try go_frame
      go_loopw [8] (fun _ wr=>∃ (pl Sl:List E),fU wr x.r w3.heap.size L (pl.map zS)∧TabAt wr w2.heap.size Sl∧(∀ y,y∈Sl↔y∈pl)∧Ext (fun k=>k=w2.heap.size) w3 wr) (fun _ wr=>wr.rangeLeft x.r w3.heap.size)
      case atStart=>exact ⟨[],[],e8,dl.out.tab.fP (dv.block _ dl.out.tab.lt),fun y=>Iff.rfl,Ext.fD dv⟩
      case round =>
       obtain ⟨pl,Sl,Z,d2,b7,b8⟩:=hrel
       have aa:=ab d2
       have ca:=ab b8
       have d3:=ab b7
       clear d2 b8 b7
       go_wp2_with (first | (refine kZ rfl _ rfl rfl Z ?_ ?_) | fail)
       ·intro d4
        have d5:=qR (k9 Z.sub.2.2) ds.out.nodup (d4.trans HP.out)
        have d6:Sl=P.a.T:=aa.out.sorted.ext ds.out fun y=>(d3.out y).trans d5.mem_iff
        rw [d6] at aa
        have ak:Ext (fun k=>k=w2.heap.size) w2 wr:=(Ext.fD f6.out).trans ca.out
        have tq:=ca.out.cell (p:=⟨w2.heap.size+1,0,none⟩) (show ¬w2.heap.size+1=w2.heap.size by omega) b6
        have hr:=fE tq
        have Dr:=ak.at (show ¬w1.heap.size=w2.heap.size by omega) c9.out
        have y0:=ae _ _ 0 _ _ _ Dr
        have y1:=ae _ _ 1 _ _ _ Dr
        have hs:=fw Dr
        have d7:iy wr (.slice sa os.length s) os:=(f2.out.frame ak.size fun k e hk=>ak.block k hk (show ¬k=w2.heap.size by omega)).sliceAt
        have f9:=ab d7
        have ga:=ab ak
        have gb:=ab aa.out
        clear d5 d6 Dr d7 ak Z d4 a3
        go_upto_region 7 with fail
        go_still_tail 4,(by kernel_rfl)
        go_wp2_with fail
        refine (vM (w2.heap.size+1) 0 w2.heap.size P.a.T (V+1) (.slice sa os.length s) os wr.drew ⟨tq,gb.out.fP rfl⟩ (f9.out.below ((Below.rf wr).drew)) (by have:=(pW bP.out).1;omega)).mono ?_
        rintro e w5 ⟨rfl,cb,d8⟩
        have am:Ext (fun k=>k=w2.heap.size) w2 w5:=ga.out.drew.trans d8
        have d9:Below w.heap.size w w5:=u.out.trans (am.below u.out.size fun k hk e=>by have:=u.out.size;omega)
        have ap:=ab d9
        have ht:=ab cb
        have t5:=d8.cell (p:=⟨w2.heap.size+1,0,none⟩) (show ¬w2.heap.size+1=w2.heap.size by omega) (show wr.drew.cell? _=_ from tq)
        have gc:=ab (⟨t5,cb⟩:EntAt w5 (w2.heap.size+1) 0 w2.heap.size (foldS P.a.T os))
        have ce:=ab (am.at (show ¬w.heap.size=w2.heap.size by omega) b1.out)
        have fb:=ab (am.at (show ¬w.heap.size+1=w2.heap.size by omega) e5.out)
        have eb:=ab (am.at (show ¬w1.heap.size=w2.heap.size by omega) c9.out)
        have a5:=ae _ _ 0 _ _ _ ce.out
        have hv:=ae _ _ 0 _ _ _ eb.out
        have hf:=fw ce.out
        have hg:=fw eb.out
        clear am d9 cb t5 y0 y1
        go_wp2_with fail
        have hh:=ap.out.size
        have bo:=J.out.ag.glt
        have br:=J.out.host.lt
        have ge:=J.out.ag.olt
        have hi:=u.out.size
        have ec:∀ y∈foldS P.a.T os,EntGood y:=((⟨af _,m.out.tab.sorted,m.out.tab.good⟩:jq P.a.T.length P.a.T).fold bP.out).good
        have gu:(foldS P.a.T os).length≤128:=by
         have h1:=pE os m.out.tab.sorted
         have h2:=m.out.tab.len
         have h3:=(pW bP.out).1
         omega
        have q:=y4 H P.lg body P.a.V P.a.T
        have hj:=uf ec
        have hw:(100:Nat)≤fX:=by unfold fX;omega
        have ed:=tY a h F G O M H P x (w2.heap.size+1) w2.heap.size (V+1) (foldS P.a.T os) 118 #[.pointer (some ⟨w.heap.size,0,none⟩),.pointer (some ⟨w.heap.size+1,0,none⟩)] (fun _ _=>by kernel_rfl) (gF H P.lg body P.a.V P.a.T) w5 (J.out.below ap.out) bb.out gc.out
         ⟨fun e=>by have:=br _ e;omega,fun e=>by have:=bo _ e;omega⟩ ⟨fun e=>by have:=br _ e;omega,fun e=>by have:=bo _ e;omega,fun e=>by have:=ge _ e;omega⟩
         (fun _=>Ei n B a h w.heap.size (w.heap.size+1) l F G O H P x (.slice hO body.length hP) body w5 (J.out.below ap.out) m.out fl.out hT fi (fH.frame fr.out fun k e _=>(ap.out.block k (D.out k e).2.2).trans (c6.out.block k (D.out k e).2.2).symm) (fun k e=>⟨(D.out k e).1,(D.out k e).2.1,by have:=(D.out k e).2.2;omega⟩) (by have:=f1.out.2;rw [f0.out] at this;omega) (ae _ _ 0 _ _ _ ce.out) (ae _ _ 0 _ _ _ fb.out) ⟨⟨fun e=>by have:=br _ e;omega,fun e=>by have:=bo _ (e▸J.out.ag.gin.2.2.1);omega⟩,fun e=>by have:=br _ e;omega,fun e=>by have:=bo _ (e▸J.out.ag.gin.2.2.1);omega⟩)
         (by rw [m.out.len];omega) (by omega) (by omega) ⟨by rw [q.1,m.out.dpS];have:=m.out.tab.len;omega,by rw [q.2.1];exact hL,q.2.2⟩ (fun y hQ=>by rw [q.1,m.out.dpS] at hQ;have:=(m.out.tab.good y hQ).small;omega) (fun y hQ=>by have:=(ec y hQ).small;omega) m.out.deg (by omega)
        rw [show ((V:Int)+1)=((V+1:Nat):Int) by omega]
        refine ed.mono ?_
        rintro e C ⟨rfl,eg⟩
        have HG:=ab (jM.trans (fun k hk=>hk.imp id fun e=>by omega) (Ext.fD ap.out) eg)
        clear ed eg
        go_wp2
        go_ret
        unfold gP
        rw [d.out]
        have ej:=HG.out
        rw [HV.out] at ej⊢
        exact ⟨ej,rfl⟩
       ·intro S U v' C hS gg ci cl el bi hx
        obtain ⟨⟨k',vb⟩,gl,e⟩:=az.1 (HP.out.mem_iff.1 hS)
        cases e
        have a6:fU C x.r w3.heap.size L ((pl++[((S,U),vb)]).map zS):=by rw [bA];exact ci
        have co:=ab a6
        have gn:=ab Z
        have cp:Ext (fun k=>k=w2.heap.size) w3 C:=ca.out.grow cl (.inr (af _))
        have cq:=a6.sub.2.2
        rw [qT,bA,b9] at cq
        have go:=ab (show (S,U)∉pl.map (·.1) from fun e=>cq.2.2 _ e _ (by simp) rfl)
        clear ci a6 hS gg gl Z cq
        unfold kc at bi
        unfold kc
        have hY:=cp.cell (p:=⟨w.heap.size,0,none⟩) (fun e=>by have e':w.heap.size=w2.heap.size:=e;omega) a3
        have al:=Below.al (Below.al (Below.rf C) (.cells #[.int .i64 S,.string ⟨U.toArray⟩] 94)) (.cells #[.string ⟨vb.toArray⟩] 180)
        have K7:=fG (C.alloc (.cells #[.int .i64 S,.string ⟨U.toArray⟩] 94)) (.cells #[.string ⟨vb.toArray⟩] 180) (fA C (.cells #[.int .i64 S,.string ⟨U.toArray⟩] 94))
        have V7:=fA (C.alloc (.cells #[.int .i64 S,.string ⟨U.toArray⟩] 94)) (.cells #[.string ⟨vb.toArray⟩] 180)
        rw [ax] at V7
        have hy:=ab (show C.heap.size=wr.heap.size from el)
        clear el
        go_upto_region 6 with fail
        generalize (C.alloc (.cells #[.int .i64 S,.string ⟨U.toArray⟩] 94)).alloc (.cells #[.string ⟨vb.toArray⟩] 180)=w7 at *
        have cr:Ext (fun k=>k=w2.heap.size) w3 w7:=cp.sK al
        have t7:=cr.cell (p:=⟨w2.heap.size+1,0,none⟩) (show ¬w2.heap.size+1=w2.heap.size by omega) b6
        have k0:=ae _ _ 0 _ _ _ K7
        have k1:=ae _ _ 1 _ _ _ K7
        have v0:=ae _ _ 0 _ _ _ V7
        have hz:=fw K7
        have hA:=fw V7
        have hB:=fE t7
        have a7:TabAt C w2.heap.size Sl:=aa.out.fP (cl.block _ aa.out.lt (fun e=>by have:=dk.out;have:=Option.some.inj e;omega))
        have cs:TabAt w7 w2.heap.size Sl:=a7.fP (al.block _ a7.lt)
        obtain ⟨W8,hu,em,bs,gq⟩:=cs.put (mt:=107) Tryz.underlying107 (S,U) vb
        have en:=hu 1
        have ct:∀ w:World,w.drewN 1=w.drew:=fun _=>rfl
        rw [ct,ct] at en
        simp only [kV,iD,kc] at en
        have er:Ext (fun k=>k=w2.heap.size) w3 W8:=cr.grow bs (.inl rfl)
        have bt:=co.out.frame (al.block _ co.out.lt.1) (al.block _ co.out.lt.2)
        have cu:fU W8 x.r w3.heap.size L ((pl++[((S,U),vb)]).map zS):=bt.frame (bs.block _ bt.lt.1 (fun e=>f8.out (Option.some.inj e))) (bs.block _ bt.lt.2 (fun e=>by have:=dk.out;have:=Option.some.inj e;omega))
        have eD:=cu.left
        have eS:=gn.out.left
        simp only [aG,aq,ar,aM] at eD eS
        have fd:=ab (show (∃ (eT eV:List E),fU W8.drew x.r w3.heap.size L (eT.map zS)∧TabAt W8.drew w2.heap.size eV∧(∀ y,y∈eV↔y∈eT)∧Ext (fun k=>k=w2.heap.size) w3 W8.drew)∧W8.drew.rangeLeft x.r w3.heap.size<wr.rangeLeft x.r w3.heap.size from
         ⟨⟨_,_,cu,em,DZ d3.out go.out,er.drew⟩,(show W8.rangeLeft x.r w3.heap.size<wr.rangeLeft x.r w3.heap.size by omega)⟩)
        clear hu ct em bs gq er bt cu eD eS a7 cs cr K7 V7 al cp cl
        go_region
        all_goals
         go_wp2
         exact fd.out
end Go.Proofs.YtkkfmkhbdoeglaaGreatDoor
namespace Go.Proofs.YtkkfmkhbdoeglaaGreatDoor
open Go.RowKit Go.Shelf
def Bt:(fx×PAg)×Option Nat→fx×PAg
 | (R,none)=>R
 | ((H,P),some k)=>(H,{P with a:=P.a.bad k})
def xB (H:fx) (P:PAg) (k:UInt8) (body:List UInt8) (b:(fx×PAg)×Option Nat):(fx×PAg)×Option Nat :=
 if k=1 then mP H P body else if k=2 then ((H,if body=[] then {P with a:=P.a.iM} else P),if body=[] then none else some 2) else if k=3 then ((H,{P with a:=(P.a.gG body).1}),(P.a.gG body).2) else if k=4 then b else ((H,P),some 6)
def rQ (H:fx) (P:PAg) (frame:List UInt8) (b:(fx×PAg)×Option Nat):fx×PAg :=
 if P.a.deg.isSome then (H,{P with a:=P.a.gy 13}) else match gJ frame with
 | .inr f=>Bt ((H,P),some f.1)
 | .inl (k,body)=>Bt (xB H P k body b)
theorem F9 (t:Value) (w:World):Calls Tryz.prog 86 #[.nilIface,t] w fun e w'=>e = .returned (.bool false)∧w'=w:=by
 go_enter Tryz.func86,Tryz.ntmps86
 go_wp2
 go_ret
 exact ⟨rfl,rfl⟩
theorem pS.out {w w':World} {F G O M:Nat→Prop} {a h:Nat} {H:fx} {P b:PAg} {x:AV} {r:Option Nat} {e:Ending} (hm:gI w F G O a h H P x) (d:∀ k,F k∨G k∨O k→M k) (hs:pS w G O a h b r e w'):gP w M a h ((H,b),r) e w' :=
 ⟨hs.1.E5 hm d,hs.2⟩
theorem gP.fS {w w1 w':World} {M:Nat→Prop} {a h:Nat} {R:(fx×PAg)×Option Nat} {e:Ending} (b:Below w.heap.size w w1) (hs:gP w1 M a h R e w'):gP w M a h R e w':=by
 obtain ⟨h1,h2⟩:=hs
 refine ⟨h1.fS b,?_⟩
 obtain ⟨R,r⟩:=R
 cases r with
 | none=>exact h2
 | some k =>
  obtain ⟨ev,p,d,g,i,j,l⟩:=h2
  exact ⟨ev,p,d,g,i,aH b.size j,l⟩
theorem ye {l:List UInt8} {f:Nat×Nat} (h:gJ l = .inr f):f.1<256:=by
 unfold gJ at h
 split at h
 ·cases h;simp
 ·split at h
  ·split at h
   ·cases h
   ·cases h;simp
  ·cases h;simp
theorem jK.two {w w1 w':World} {G O b:Nat→Prop} {a h:Nat} {P:PAg} {x:AV} (h1:∀ k,b k→O k∨w.heap.size≤k) (h2:Ext (fun j=>j=x.c) w w1) (d:jK w1 G b a h P x w'):jK w G O a h P x w':=d.trans h1 h2
theorem ur {l:List UInt8} {k:UInt8} {p:List UInt8} (h:gJ l = .inl (k,p)):p.length≤l.length:=by
 unfold gJ at h
 split at h
 ·cases h
 ·split at h
  ·split at h
   ·cases h
    simp
    omega
   ·cases h
  ·cases h
theorem zR (H:fx) (P:PAg) (body:List UInt8) (d:P.a.V<18446744073709551615) (k:Nat) (h:(mP H P body).2=some k):k<256∧(mP H P body).1.2.a.V<18446744073709551616:=by
 unfold mP at h⊢
 split at h
 ·rename_i f b
  cases h
  have:=zT (by rw [←nP];exact b)
  exact ⟨by omega,by show P.a.V<_;omega⟩
 ·cases h
theorem BY (a:AgA) (k:Nat):(a.gy k).V=a.V:=(iS a 18 [UInt8.ofNat k]).2.1
theorem CP (H:fx) (P:PAg) (body:List UInt8) (d:P.a.V<18446744073709551615) (k:Nat) (h:(((H,if body=[] then {P with a:=P.a.iM} else P),if body=[] then none else some 2):(fx×PAg)×Option Nat).2=some k):k<256∧(((H,if body=[] then {P with a:=P.a.iM} else P),if body=[] then none else some 2):(fx×PAg)×Option Nat).1.2.a.V<18446744073709551616:=by
 by_cases b:body=[]
 ·rw [aB b,aB b] at h
  cases h
 ·rw [au b,au b] at h
  rw [au b,au b]
  cases h
  exact ⟨by omega,by show P.a.V<_;omega⟩
theorem AP (H:fx) (P:PAg) (body:List UInt8) (b:P.a.V<18446744073709551615) (k:Nat) (h:(((H,{P with a:=(P.a.gG body).1}),(P.a.gG body).2):(fx×PAg)×Option Nat).2=some k):k<256∧(((H,{P with a:=(P.a.gG body).1}),(P.a.gG body).2):(fx×PAg)×Option Nat).1.2.a.V<18446744073709551616:=by
 have key:∀ k,(P.a.gG body).2=some k→k<256∧(P.a.gG body).1.V<18446744073709551616:=by
  intro k h
  unfold AgA.gG at h⊢
  split at h
  ·rename_i c;rw [aB c];cases h;exact ⟨by omega,by show P.a.V<_;omega⟩
  ·rename_i c1;rw [au c1]
   split at h
   ·rename_i c;rw [aB c];cases h;exact ⟨by omega,by show P.a.V<_;omega⟩
   ·rename_i c2;rw [au c2]
    split at h
    ·rename_i c;rw [aB c];cases h;exact ⟨by omega,by show P.a.V<_;omega⟩
    ·rename_i c3;rw [au c3]
     split at h
     ·rename_i c;rw [aB c];cases h;exact ⟨by omega,by show P.a.V<_;omega⟩
     ·split at h <;> cases h
 exact key k h
theorem gP.ev {w w':World} {M:Nat→Prop} {a h:Nat} {R:(fx×PAg)×Option Nat} {e:Ending} (hs:gP w M a h R e w'):∃ ev,e = .returned ev:=by
 obtain ⟨-,h2⟩:=hs
 obtain ⟨R,r⟩:=R
 cases r with
 | none=>exact ⟨_,h2⟩
 | some k =>
  obtain ⟨ev,p,b,-⟩:=h2
  exact ⟨ev,b⟩
theorem Em (H:fx) (P:PAg) (k:UInt8) (body:List UInt8) (b:(fx×PAg)×Option Nat) (d:P.a.V<18446744073709551615) (h4:∀ k,b.2=some k→k<256∧b.1.2.a.V<18446744073709551616) (j:Nat) (h:(xB H P k body b).2=some j):j<256∧(xB H P k body b).1.2.a.V<18446744073709551616:=by
 unfold xB at h⊢
 by_cases i:k=1
 ·rw [aB i] at h⊢;exact zR H P body d j h
 ·rw [au i] at h⊢
  by_cases l:k=2
  ·rw [aB l] at h⊢;exact CP H P body d j h
  ·rw [au l] at h⊢
   by_cases m:k=3
   ·rw [aB m] at h⊢;exact AP H P body d j h
   ·rw [au m] at h⊢
    by_cases o:k=4
    ·rw [aB o] at h⊢;exact h4 j h
    ·rw [au o] at h⊢
     cases h
     exact ⟨by omega,by show P.a.V<_;omega⟩
theorem vE (n B a h:Nat) (l:List Int) (F G O M:Nat→Prop) (H:fx) (P:PAg) (x:AV) (bv:Value) (frame:List UInt8) (S4:(fx×PAg)×Option Nat) (w:World) (hm:gI w F G O a h H P x) (hM:∀ k,F k∨G k∨O k→M k) (hu:P.a.deg=none→UpAg n l H P) (hn:32≤n∧n≤128) (cq:HostOk H B) (hB:B≤800000000) (dk:P.lg.stamp<8999999999999999999) (hL:H.dp.log.length≤7500000000000)
  (hb:BytesAt w bv frame) (dl:frame.length≤fX) (cr:ShapesVar w) (cs:ErrVar w) (hv:P.a.V<18446744073709551615) (ct:∀ k,M k→2≤k)
  (cu:∀ body W v',P.a.deg=none→gJ frame = .inl (4,body)→Below w.heap.size w W→OwnS W w.heap.size 1 v' body.length (u8s body)→Calls Tryz.prog 84 #[.pointer (some ⟨a,0,none⟩),v'] W (gP W M a h S4))
  (cv:∀ k,S4.2=some k→k<256∧S4.1.2.a.V<18446744073709551616) :
  Calls Tryz.prog 44 #[.pointer (some ⟨a,0,none⟩),bv] w fun e w'=>e = .returned (.tuple #[])∧jM w M a h (rQ H P frame S4).1 (rQ H P frame S4).2 w':=by
 obtain ⟨e6,e7,rfl,-,-⟩:=hb.opened
 have a3:=hm.ag.row
 unfold AV.cells qE at a3
 have c5:=ae _ _ 5 _ _ _ a3
 have eS:=fw a3
 have HM:=ab hm
 have a1:=ab hM
 have HU:=ab hu
 have dn:=ab cq
 have ds:=ab cr
 have cB:=ab cs
 have dv:=ab cu
 have d0:=ab cv
 have c1:=ab (qA (.slice e6 frame.length e7) frame w hb dl)
 obtain ⟨R,hR⟩:∃ R,R=rQ H P frame S4:=⟨_,rfl⟩
 have HR:=ab hR
 rw [←hR]
 have I:=hm.ag.ER
 clear hm hM hu cq cr cs cu cv hR a3 hb
 rcases I with ⟨J,I⟩ | ⟨f,fb,J,I⟩
 ·rw [I] at c5
  have bz:=ab J
  clear J I
  go_enter Tryz.func44,Tryz.ntmps44
  go_wp2_with fail
  refine c1.out.mono ?_
  rintro e w1 ⟨bM,bD⟩
  have q:=ab bM
  have N:=ab (HM.out.below bM)
  clear bM
  cases s:gJ frame with
  | inr f =>
   obtain ⟨fk,fp⟩:=f
   rw [s] at bD
   obtain ⟨ev,rfl,d1⟩:=bD
   have HK:=ab (ye s)
   have Q:Hid (R=Bt ((H,P),some fk)):=ab (by rw [HR.out];unfold rQ;rw [bz.out,s];rfl)
   obtain ⟨g,rfl,d2,o⟩:=d1
   have a6:Hid (fk<256∧P.a.V<18446744073709551616):=ab ⟨HK.out,by omega⟩
   clear s
   have a7:jM w M a h H P w1:=⟨M,⟨F,G,O,x,N.out,a1.out⟩,fun k => .inl,Ext.fD q.out⟩
   obtain ⟨M2,a4,U,X⟩:=a7
   obtain ⟨F2,G2,O2,x2,i,Y⟩:=a4
   have e0:Below w1.heap.size w1 (w1.alloc (.cells #[.pointer none] 114)):=(Below.rf w1).alloc (af _) _
   have t0:=fA w1 (.cells #[.pointer none] 114)
   have Z:ErrVar w1:=cB.out.ext X ct
   have aa:=Z.new e0
   have a9:=i.below e0
   have ak:=fy e0 (fw o) o
   have bP:=ab X
   have bS:=ab (show ∀ k,F2 k∨G2 k∨O2 k→M k∨w.heap.size≤k from fun k hk=>U k (Y k hk))
   have bX:=ab a9
   have ba:=ab ak
   have d3:=fw ak
   have al:=ab (⟨i.host.lt,i.ag.glt,i.ag.olt⟩:(∀ k,F2 k→k<w1.heap.size)∧(∀ k,G2 k→k<w1.heap.size)∧∀ k,O2 k→k<w1.heap.size)
   clear i X U Y o Z a9 ak
   go_wp2_with fail
   generalize w1.alloc (.cells #[.pointer none] 114)=wA at *
   refine (sV ⟨g,0,none⟩ ⟨w1.heap.size,0,none⟩ (.pointer none) wA aa.2 (ae _ _ 0 _ _ _ t0) (by rw [aj _ _ 0 _ _ t0])).mono ?_
   rintro e w3 ⟨rfl,bb⟩
   have x1:=qY ⟨g,0,none⟩ ⟨w1.heap.size,0,none⟩ wA
   have t1:=s7 ⟨g,0,none⟩ w1.heap.size wA t0
   rw [←bb] at x1 t1
   have ap:g≠w1.heap.size:=ij ba.out t0 (by decide)
   have bc:Below w1.heap.size w1 w3:=e0.trans (x1.below (by have:=e0.size;omega) (fun k hk e=>by have e':k=w1.heap.size:=e;omega))
   have av:=x1.at (fun e=>ap e) ba.out
   have c0:=ae _ _ 0 _ _ _ t1
   have g0:=ae _ _ 0 _ _ _ av
   have b0:=fw t1
   have b1:=fw av
   have bd:=bX.out.frame x1 (fun k hk e=>by
    have e':k=w1.heap.size:=e
    rcases hk with hk | hk | hk
    ·exact absurd (al.out.1 k hk) (by omega)
    ·exact absurd (al.out.2.1 k hk) (by omega)
    ·exact absurd (al.out.2.2 k hk) (by omega))
   have bi:=ab bd
   have b2:=ab bc
   clear bb x1 t1 ap bc av bd t0 e0 aa
   go_wp2_with fail
   refine (kK a h fk P x2 G2 O2 w3 bi.out.ag a6.out.1).mono ?_
   rintro e w4 ⟨rfl,E⟩
   obtain ⟨O4,bk,bl,bn⟩:=E
   have b3:=ab bk
   have b4:=ab bl
   have b5:=ab bn
   clear bk bl bn c0 g0 b0 b1
   go_wp2_with fail
   refine (jy a h _ x2 G2 O4 w4 b3.out (by show (AgA.gy _ _).V<_;rw [BY];exact a6.out.2)).mono ?_
   rintro e w5 ⟨rfl,E⟩
   have bo:=jK.trans b4.out b5.out E
   have HG:=ab (gI.nT (M:=M) (w:=w) bi.out bS.out (bP.out.trans (Ext.fD b2.out)) bo)
   clear E bo
   go_wp2
   go_end0
   refine ⟨rfl,?_⟩
   rw [Q.out]
   exact HG.out
  | inl y =>
   obtain ⟨u,body⟩:=y
   rw [s] at bD
   obtain ⟨bH,rfl,j⟩:=bD
   have br:=ab j
   have b6:=ab (ur s)
   have d4:=ab s
   have c2:=ab (Em H P u body S4 hv d0.out)
   have Q:Hid (R=Bt (xB H P u body S4)):=ab (by rw [HR.out];unfold rQ;rw [bz.out,s];rfl)
   obtain ⟨S,hS⟩:∃ S,S=xB H P u body S4:=⟨_,rfl⟩
   rw [←hS] at c2 Q
   have HS:=ab hS
   clear s hS j
   go_upto_if 22 with fail
   go_cut [6] (fun ev wx=>gP w M a h S (.returned ev) wx)
   case first =>
    have kf:∀ m:Nat,u≠UInt8.ofNat m→m<256→¬((u.toNat:Int)=(m:Int)):=fun m ap hm e=>by
     have h2:(UInt8.ofNat m).toNat=m:=by rw [UInt8.toNat_ofNat'];omega
     exact ap (by rw [←eh,h2];omega)
    by_cases k1:u=1
    ·subst k1
     have C:Hid (S=mP H P body):=ab (by rw [HS.out];unfold xB;rw [aB rfl])
     have j:=br.out
     have hD:=yx n B a h l F G O M H P x bH body w1 N.out a1.out (HU.out bz.out) hn dn.out hB dk hL j.bytes (fun k e=>⟨fun e'=>by have:=j.fL k e;have:=HM.out.host.lt k e';omega,fun e'=>by have:=j.fL k e;have:=HM.out.ag.glt x.lg HM.out.ag.gin.2.2.1;omega,j.gQ k e⟩) (by have:=b6.out;omega) (ds.out.new q.out)
     clear j
     go_wp2_with fail
     refine hD.mono ?_
     rintro e w2 d
     have b:=gP.fS q.out d
     rw [←C.out] at b
     obtain ⟨ev,rfl⟩:=b.ev
     have D:=ab b
     clear d b hD
     go_wp2
     go_meet
     case rel=>exact D.out
    ·by_cases k2:u=2
     ·subst k2
      have C:Hid (S=((H,if body=[] then {P with a:=P.a.iM} else P),if body=[] then none else some 2)):=ab (by rw [HS.out];rfl)
      have hD:=yM a h P x G O bH body w1 N.out.ag (by omega) br.out.bytes (by have:=b6.out;omega)
      go_wp2_with fail
      refine hD.mono ?_
      rintro e w2 d
      have b:=gP.fS q.out (pS.out N.out a1.out d)
      rw [←C.out] at b
      obtain ⟨ev,rfl⟩:=b.ev
      have D:=ab b
      clear d b hD
      go_wp2
      go_meet
      case rel=>exact D.out
     ·by_cases k3:u=3
      ·subst k3
       have C:Hid (S=((H,{P with a:=(P.a.gG body).1}),(P.a.gG body).2)):=ab (by rw [HS.out];rfl)
       have hD:=wY a h P x G O bH body w1 N.out.ag (by omega) br.out.bytes br.out.gQ (by have:=b6.out;omega)
       go_wp2_with fail
       refine hD.mono ?_
       rintro e w2 d
       have b:=gP.fS q.out (pS.out N.out a1.out d)
       rw [←C.out] at b
       obtain ⟨ev,rfl⟩:=b.ev
       have D:=ab b
       clear d b hD
       go_wp2
       go_meet
       case rel=>exact D.out
      ·by_cases k4:u=4
       ·subst k4
        have C:Hid (S=S4):=ab (by rw [HS.out];rfl)
        have hD:=dv.out body w1 bH bz.out d4.out q.out br.out
        go_wp2_with fail
        refine hD.mono ?_
        rintro e w2 d
        have b:=gP.fS q.out d
        rw [←C.out] at b
        obtain ⟨ev,rfl⟩:=b.ev
        have D:=ab b
        clear d b hD
        go_wp2
        go_meet
        case rel=>exact D.out
       ·have C:Hid (S=((H,P),some 6)):=ab (by rw [HS.out];unfold xB;rw [au k1,au k2,au k3,au k4])
        have n1:=kf 1 k1 (by omega)
        have n2:=kf 2 k2 (by omega)
        have n3:=kf 3 k3 (by omega)
        have n4:=kf 4 k4 (by omega)
        have q1:(((u.toNat:Int))==1)=false:=aC.2 n1
        have q2:(((u.toNat:Int))==2)=false:=aC.2 n2
        have q3:(((u.toNat:Int))==3)=false:=aC.2 n3
        have q4:(((u.toNat:Int))==4)=false:=aC.2 n4
        clear k1 k2 k3 k4 kf
        generalize u.toNat=eT at *
        go_wp2_with fail
        refine (gd 6 0 w1).mono ?_
        rintro e w2 ⟨rfl,ca⟩
        have cb:Below w1.heap.size w1 w2:=by rw [ca];exact (Below.rf w1).alloc (af _) _
        have o:w2.heap[w1.heap.size]?=some (.cells #[.int .i64 ((6:Nat):Int),.int .i64 0,.nilIface] 166 (0,0)):=by rw [ca];exact fA w1 _
        have D:Hid (gP w M a h S (.returned (.iface 114 (.pointer (some ⟨w1.heap.size,0,none⟩)))) w2):=ab (by
         rw [C.out]
         exact ⟨⟨M,⟨F,G,O,x,N.out.below cb,a1.out⟩,fun k => .inl,(Ext.fD q.out).trans (Ext.fD cb)⟩,_,0,rfl,_,rfl,q.out.size,o⟩)
        clear ca cb o
        go_wp2
        go_meet
        case rel=>exact D.out
   case rest =>
    have d:=hcut
    clear hcut
    obtain ⟨⟨H2,P2⟩,r⟩:=S
    obtain ⟨a7,bx⟩:=d
    cases r with
    | none =>
     have a2:Ending.returned u6 = .returned .nilIface:=bx
     obtain rfl:=Ending.returned.inj a2
     have HG:=ab a7
     clear a7 bx a2
     go_wp2_with fail
     refine (F9 _ _).mono ?_
     rintro e w3 ⟨rfl,rfl⟩
     go_wp2
     go_end0
     refine ⟨rfl,?_⟩
     rw [Q.out]
     exact HG.out.below ((Below.rf wc).alloc (af _) _)
    | some k =>
     obtain ⟨eV,p,a2,g,ce,d2,o⟩:=bx
     rw [ce] at a2
     obtain rfl:=Ending.returned.inj a2
     have a6:Hid (k<256∧P2.a.V<18446744073709551616):=ab (c2.out k rfl)
     clear a2 ce
     obtain ⟨M2,a4,U,X⟩:=a7
     obtain ⟨F2,G2,O2,x2,i,Y⟩:=a4
     have e0:Below wc.heap.size wc (wc.alloc (.cells #[.pointer none] 114)):=(Below.rf wc).alloc (af _) _
     have t0:=fA wc (.cells #[.pointer none] 114)
     have Z:ErrVar wc:=cB.out.ext X ct
     have aa:=Z.new e0
     have a9:=i.below e0
     have ak:=fy e0 (fw o) o
     have bP:=ab X
     have bS:=ab (show ∀ k,F2 k∨G2 k∨O2 k→M k∨w.heap.size≤k from fun k hk=>U k (Y k hk))
     have bX:=ab a9
     have ba:=ab ak
     have d3:=fw ak
     have al:=ab (⟨i.host.lt,i.ag.glt,i.ag.olt⟩:(∀ k,F2 k→k<wc.heap.size)∧(∀ k,G2 k→k<wc.heap.size)∧∀ k,O2 k→k<wc.heap.size)
     clear i X U Y o Z a9 ak
     go_wp2_with fail
     generalize wc.alloc (.cells #[.pointer none] 114)=wA at *
     refine (sV ⟨g,0,none⟩ ⟨wc.heap.size,0,none⟩ (.pointer none) wA aa.2 (ae _ _ 0 _ _ _ t0) (by rw [aj _ _ 0 _ _ t0])).mono ?_
     rintro e w3 ⟨rfl,bb⟩
     have x1:=qY ⟨g,0,none⟩ ⟨wc.heap.size,0,none⟩ wA
     have t1:=s7 ⟨g,0,none⟩ wc.heap.size wA t0
     rw [←bb] at x1 t1
     have ap:g≠wc.heap.size:=ij ba.out t0 (by decide)
     have bc:Below wc.heap.size wc w3:=e0.trans (x1.below (by have:=e0.size;omega) (fun k hk e=>by have e':k=wc.heap.size:=e;omega))
     have av:=x1.at (fun e=>ap e) ba.out
     have c0:=ae _ _ 0 _ _ _ t1
     have g0:=ae _ _ 0 _ _ _ av
     have b0:=fw t1
     have b1:=fw av
     have bd:=bX.out.frame x1 (fun k hk e=>by
      have e':k=wc.heap.size:=e
      rcases hk with hk | hk | hk
      ·exact absurd (al.out.1 k hk) (by omega)
      ·exact absurd (al.out.2.1 k hk) (by omega)
      ·exact absurd (al.out.2.2 k hk) (by omega))
     have bi:=ab bd
     have b2:=ab bc
     clear bb x1 t1 ap bc av bd t0 e0 aa
     go_wp2_with fail
     refine (kK a h k P2 x2 G2 O2 w3 bi.out.ag a6.out.1).mono ?_
     rintro e w4 ⟨rfl,E⟩
     obtain ⟨O4,bk,bl,bn⟩:=E
     have b3:=ab bk
     have b4:=ab bl
     have b5:=ab bn
     clear bk bl bn c0 g0 b0 b1
     go_wp2_with fail
     refine (jy a h _ x2 G2 O4 w4 b3.out (by show (AgA.gy _ _).V<_;rw [BY];exact a6.out.2)).mono ?_
     rintro e w5 ⟨rfl,E⟩
     have bo:=jK.trans b4.out b5.out E
     have HG:=ab (gI.nT (M:=M) (w:=w) bi.out bS.out (bP.out.trans (Ext.fD b2.out)) bo)
     clear E bo
     go_wp2
     go_end0
     refine ⟨rfl,?_⟩
     rw [Q.out]
     exact HG.out
 ·rw [I] at c5
  have Q:Hid (R=(H,{P with a:=P.a.gy 13})):=ab (by rw [HR.out];unfold rQ;rw [J];rfl)
  clear J I c1
  go_enter Tryz.func44,Tryz.ntmps44
  go_wp2_with fail
  refine (kK a h 13 P x G O w HM.out.ag (by omega)).mono ?_
  rintro e w1 ⟨rfl,E⟩
  have HG:=ab (gI.nT (M:=M) HM.out (fun k hk => .inl (a1.out k hk)) (Ext.refl M w) E)
  clear E
  go_wp2
  refine aI (dA rfl _ _ _) rfl ?_
  refine ⟨rfl,?_⟩
  rw [Q.out]
  exact HG.out
end Go.Proofs.YtkkfmkhbdoeglaaGreatDoor
namespace Go.Proofs.YtkkfmkhbdoeglaaGreatDoor
open Go.RowKit Go.Shelf
def jN (H:fx) (P:PAg) (tv:Nat) (bytes:List UInt8):(fx×PAg)×Option Nat:=match im bytes with
 | .inr f=>((H,P),some f.1)
 | .inl (v,T)=>if v≠tv then ((H,P),some 4) else if v≤P.a.V then ((H,{P with a:=P.a.lu}),none) else (ni H P v T (fI H P.lg v T),none)
def lE (H:fx) (P:PAg) (body:List UInt8):(fx×PAg)×Option Nat :=
 if body.length<2 then ((H,P),some 1) else if 65<body.length then ((H,P),some 2)
 else match P.a.com with
 | none=>((H,{P with a:=P.a.iM}),none)
 | some (tv,of,got) =>
  if (body.getD 0 0).toNat≠got.length then ((H,{P with a:=P.a.km}),none)
  else if got.length+1<of then ((H,{P with a:=AgA.km {P.a with com:=some (tv,of,got++[body.drop 1])}}),none)
  else jN H {P with a := {P.a with com:=none}} tv (got++[body.drop 1]).flatten
theorem DS (n B a h d i j q r v:Nat) (l:List Int) (F G O:Nat→Prop) (H:fx) (P:PAg) (x:AV) (T:List E) (w:World) (hm:gI w F G O a h H P x) (hu:UpAg n l H P) (U:HostOk H B) (hB:B≤800000000) (aE:P.lg.stamp<8999999999999999999) (hv:v<18446744073709551616)
  (he:EntAt w q 0 r T) (V:sizeS T≤16*(H.seen.length-8)) (X:T.length<65536) (hg:∀ y∈T,EntGood y)
  (ha:w.cell? ⟨d,0,none⟩=some (.pointer (some ⟨a,0,none⟩))) (u:w.cell? ⟨i,0,none⟩=some (.int .u64 (v:Nat))) (C:w.cell? ⟨j,0,none⟩=some (.pointer (some ⟨q,0,none⟩))) (m:(¬F d∧d≠x.lg)∧(¬F i∧i≠x.lg)∧¬F j∧j≠x.lg) :
  s9 148 #[.pointer (some ⟨d,0,none⟩),.pointer (some ⟨i,0,none⟩),.pointer (some ⟨j,0,none⟩)] w x F h (fI H P.lg v T):=by
 intro W D
 have b:=hm.below D
 have o:=b.ag.row
 unfold AV.cells qE at o
 have c2:=ae _ _ 2 _ _ _ o
 have a0:=fw o
 have M:=(D.cell (p:=⟨d,0,none⟩) (fE ha)).trans ha
 have N:=(D.cell (p:=⟨i,0,none⟩) (fE u)).trans u
 have Q:=(D.cell (p:=⟨j,0,none⟩) (fE C)).trans C
 have J:=he.below D
 have I:=b.ag.gin
 have Z:=ab (fun (Y:World) (R:Below W.heap.size W Y)=>sG x.lg h F H P.lg B q 0 r v T Y (fy R (fw b.ag.log) b.ag.log) (b.host.below R) U (by omega) (fun e=>b.fg _ e I.2.2.1)
  (J.below R) hu.slot V X hv (fun y hy=>(hg y hy).small) (by omega))
 have halt:=fE M
 have am:=fE N
 have ap:=fE Q
 have s:=ab (show ¬(F d∨d=x.lg)∧¬(F i∨i=x.lg)∧¬(F j∨j=x.lg)∧¬(F a∨a=x.lg) from ⟨fun e=>e.elim m.1.1 m.1.2,fun e=>e.elim m.2.1.1 m.2.1.2,fun e=>e.elim m.2.2.1 m.2.2.2,fun e=>e.elim (fun e=>b.fg _ e I.1) fun e=>ij b.ag.row b.ag.log (by decide) e⟩)
 clear hm b o I ha u C he J
 go_enter Tryz.func148,Tryz.ntmps148
 go_wp2
 go_region_held3 (fun w'=>w'.cell? ⟨d,0,none⟩=some (.pointer (some ⟨a,0,none⟩))∧w'.cell? ⟨i,0,none⟩=some (.int .u64 (v:Nat))∧w'.cell? ⟨j,0,none⟩=some (.pointer (some ⟨q,0,none⟩))∧w'.cell? ⟨a,2,none⟩=some (.pointer (some ⟨x.lg,0,none⟩)))
  (first | exact ⟨M,N,Q,c2⟩ | (obtain ⟨F',g1,g2,g3⟩:=h3;exact ⟨g3.cell (p:=⟨d,0,none⟩) s.out.1 M,g3.cell (p:=⟨i,0,none⟩) s.out.2.1 N,g3.cell (p:=⟨j,0,none⟩) s.out.2.2.1 Q,g3.cell (p:=⟨a,2,none⟩) s.out.2.2.2 c2⟩))
  (first | (go_at_call 146;refine (Z.out _ (by first | exact (Below.rf W).drew | exact Below.rf W)).mono ?_;rintro e w1 ⟨rv,rfl,h1,h2,h3,h4⟩))
 all_goals
  have S:=ab (⟨h1,h2,h3⟩:we _ w1 rv (fI H P.lg v T).2.2∧LogAt w1 x.lg h (fI H P.lg v T).2.1∧gV _ F (fun k=>k=x.lg) h (fI H P.lg v T).1 w1)
  clear h1 h2 h3 h4
  go_wp2
  go_ret
  exact ⟨_,rfl,S.out.1,S.out.2.1,gV.fS ((Below.rf W).drew) S.out.2.2⟩
theorem vy (n B a h d4:Nat) (l:List Int) (F G O M:Nat→Prop) (H:fx) (P:PAg) (x:AV) (bv ov gv:Value) (tv:Nat) (bytes:List UInt8) (w:World) (hm:gI w F G O a h H P x) (hM:∀ k,F k∨G k∨O k→M k) (hu:UpAg n l H P) (hn:32≤n∧n≤128) (a5:HostOk H B) (hB:B≤800000000) (b0:P.lg.stamp<8999999999999999999) (hL:H.dp.log.length≤7500000000000)
  (hc:w.heap[d4]?=some (.cells #[.int .u64 (tv:Nat),ov,gv,bv] 214 (0,0))) (hb:BytesAt w bv bytes) (a6:∀ k,bv.ownBlock=some k→k<w.heap.size) (b1:bytes.length≤fX) (W:ShapesVar w) (da:tv<18446744073709551616) :
  Calls Tryz.prog 122 #[.pointer (some ⟨a,0,none⟩),.pointer (some ⟨d4,0,none⟩)] w (gP w M a h (jN H P tv bytes)):=by
 obtain ⟨d5,d6,rfl,-,-⟩:=hb.opened
 have o:Below w.heap.size w (w.alloc (.cells #[.pointer (some ⟨a,0,none⟩)] 89)):=(Below.rf w).alloc (af _) _
 have a7:=fA w (.cells #[.pointer (some ⟨a,0,none⟩)] 89)
 have dc:(w.alloc (.cells #[.pointer (some ⟨a,0,none⟩)] 89)).heap.size=w.heap.size+1:=ax _ _
 have s:=ab hm
 have E:=ab hM
 have u:=ab hu
 have b2:=ab a5
 obtain ⟨R,hR⟩:∃ R,R=jN H P tv bytes:=⟨_,rfl⟩
 have HR:=ab hR
 rw [←hR]
 have i:=hb.below o
 have X:=W.fP o.size (o.block _ W.two)
 have I:=fy o (fw hc) hc
 have ct:=fw hc
 clear hm hM hu a5 hR W hb hc
 go_enter Tryz.func122,Tryz.ntmps122
 go_upto_region 1 with fail
 generalize w.alloc (.cells #[.pointer (some ⟨a,0,none⟩)] 89)=w0 at *
 have Y:=ab o
 have b3:=ab (qe (.slice d5 bytes.length d6) bytes w0 i (fun k e=>by have:=a6 k e;omega) b1 X)
 have g3:=ae _ _ 3 _ _ _ I
 have bD:=fw I
 have a9:=ab a7
 have b4:=ab I
 clear o a7 i X I a6
 go_wp2_with fail
 refine b3.out.mono ?_
 rintro e w1 ⟨i,J⟩
 have Z:=ab (Y.out.tn i)
 have N:=fy i (fw a9.out) a9.out
 have Q:=fy i bD b4.out
 cases b:im bytes with
 | inr f =>
  obtain ⟨fk,fp⟩:=f
  rw [b] at J
  obtain ⟨ev,rfl,ba⟩:=J
  have b5:=ab ba
  obtain ⟨g,rfl,-,-⟩:=ba
  have d:Hid (R=((H,P),some fk)):=ab (by rw [HR.out];unfold jN;rw [b])
  have bb:Below w1.heap.size w1 ((w1.alloc (.cells #[.int .u64 0] 26)).alloc (.cells #[.pointer none] 126)):=Below.al (Below.al (Below.rf w1) _) _
  have aa:=ab bb
  clear b i bb N Q g3
  go_wp2
  refine aI (v := .iface 114 (.pointer (some ⟨g,0,none⟩))) (by simp [results,Tryz.results122,go_sem]) rfl ?_
  unfold gP
  rw [d.out]
  refine ⟨⟨M,⟨F,G,O,x,(s.out.below Z.out).below aa.out,E.out⟩,fun k => .inl,(Ext.fD Z.out).trans (Ext.fD aa.out)⟩,_,fp,rfl,?_⟩
  obtain ⟨g',e1,e2,e3⟩:=b5.out
  exact ⟨g',e1,by have:=Y.out.size;omega,fy aa.out (fw e3) e3⟩
 | inl y =>
  obtain ⟨v,T⟩:=y
  rw [b] at J
  obtain ⟨r,rfl,ak,dk⟩:=J
  obtain ⟨bc,bd,-⟩:=np b
  obtain ⟨dl,b7⟩:=po b
  have am:=kh bc
  have ap:=ab bd
  have d:Hid (R=if v≠tv then ((H,P),some 4) else if v≤P.a.V then ((H,{P with a:=P.a.lu}),none) else (ni H P v T (fI H P.lg v T),none)):=ab (by rw [HR.out];unfold jN;rw [b])
  have t2:Below w1.heap.size w1 ((w1.alloc (.cells #[.int .u64 (v:Nat)] 26)).alloc (.cells #[.pointer (some ⟨r+1,0,none⟩)] 126)):=Below.al (Below.al (Below.rf w1) _) _
  have V2:=fG (w1.alloc (.cells #[.int .u64 (v:Nat)] 26)) (.cells #[.pointer (some ⟨r+1,0,none⟩)] 126) (fA w1 (.cells #[.int .u64 (v:Nat)] 26))
  have T2:=fA (w1.alloc (.cells #[.int .u64 (v:Nat)] 26)) (.cells #[.pointer (some ⟨r+1,0,none⟩)] 126)
  rw [ax] at T2
  have q:=ab (Z.out.tn t2)
  have av:=fy t2 (fw N) N
  have aE:=fy t2 (fw Q) Q
  have bi:=ak.below t2
  have dn:=i.size
  have ds:=ak.lt
  clear bc bd b i N Q ak HR g3 b7
  go_upto_region 5 with fail
  generalize (w1.alloc (.cells #[.int .u64 (v:Nat)] 26)).alloc (.cells #[.pointer (some ⟨r+1,0,none⟩)] 126)=w2 at *
  have a0:=s.out.below q.out
  have j:=a0.ag.row
  unfold AV.cells qE at j
  have c1:=ae _ _ 1 _ _ _ j
  have c2:=fw j
  have v0:=ae _ _ 0 _ _ _ V2
  have b8:=ae _ _ 0 _ _ _ T2
  have c3:=fw V2
  have c4:=fw T2
  have a2:=ae _ _ 0 _ _ _ av
  have g0:=ae _ _ 0 _ _ _ aE
  have c5:=fw av
  have c6:=fw aE
  have S:=ab a0
  have bk:=ab bi
  clear a0 j V2 T2 av aE bi t2
  obtain ⟨V,hV⟩:∃ V,V=P.a.V:=⟨_,rfl⟩
  have HV:=ab hV
  have bL:=u.out.tab.v64
  rw [←hV] at c1 bL d
  clear hV
  by_cases h0:v=tv
  ·subst h0
   rw [au (by omega)] at d
   go_region
   all_goals
    by_cases hle:v≤V
    ·have bN:(v:Int)≤(V:Int):=by omega
     rw [aB hle] at d
     clear hle
     go_wp2
     go_region
     all_goals
      go_wp2_with fail
      refine (om a h P x G O _ (S.out.below ((Below.rf w2).drew.drew)).ag (by rw [←HV.out];omega)).mono ?_
      rintro e w3 ⟨rfl,hp⟩
      have HG:=ab (gI.nT (M:=M) (S.out.below ((Below.rf w2).drew.drew)) (fun k hk => .inl (E.out k hk)) (Ext.fD (q.out.tn ((Below.rf w2).drew.drew))) hp)
      clear hp
      go_wp2
      go_ret
      unfold gP
      rw [d.out]
      exact ⟨HG.out,rfl⟩
    ·have bN:¬(v:Int)≤(V:Int):=by omega
     rw [au hle] at d
     clear hle
     go_wp2
     go_region
     all_goals
      have C:=s.out.ag.glt
      have D:=s.out.host.lt
      have cb:=s.out.ag.olt
      have c7:=Y.out.size
      have c8:=q.out.size
      have m:=qZ H P.lg v T
      have c9:=uf ap.out
      have dv:(100:Nat)≤fX:=by unfold fX;omega
      have U:Below w2.heap.size w2 w2.drew.drew:=(Below.rf w2).drew.drew
      have bl:=S.out.below U
      have bn:=tY a h F G O M H P x (r+1) r v T 148 #[.pointer (some ⟨w.heap.size,0,none⟩),.pointer (some ⟨w1.heap.size,0,none⟩),.pointer (some ⟨w1.heap.size+1,0,none⟩)] (fun _ _=>by kernel_rfl) (fI H P.lg v T) w2.drew.drew bl E.out (bk.out.below U)
       ⟨fun e=>by have:=D _ e;omega,fun e=>by have:=C _ e;omega⟩ ⟨fun e=>by have:=D _ e;omega,fun e=>by have:=C _ e;omega,fun e=>by have:=cb _ e;omega⟩
       (fun bP=>DS n B a h w.heap.size w1.heap.size (w1.heap.size+1) (r+1) r v l F G O H P x T w2.drew.drew bl u.out b2.out hB b0 am (bk.out.below U) (uz bP).2 (by omega) ap.out a2 v0 b8
        ⟨⟨fun e=>by have:=D _ e;omega,fun e=>by have:=C _ (e▸s.out.ag.gin.2.2.1);omega⟩,⟨fun e=>by have:=D _ e;omega,fun e=>by have:=C _ (e▸s.out.ag.gin.2.2.1);omega⟩,fun e=>by have:=D _ e;omega,fun e=>by have:=C _ (e▸s.out.ag.gin.2.2.1);omega⟩)
       (by rw [u.out.len];omega) (by omega) (by omega) ⟨by rw [m.1,u.out.dpS];have:=u.out.tab.len;omega,by rw [m.2.1];exact hL,m.2.2⟩ (fun y hy=>by rw [m.1,u.out.dpS] at hy;have:=(u.out.tab.good y hy).small;omega) (fun y hy=>by have:=(ap.out y hy).small;omega) u.out.deg am
      have ce:=ab bn
      clear bn
      go_wp2_with fail
      refine ce.out.mono ?_
      rintro e w6 ⟨rfl,bo⟩
      have HG:=ab (jM.trans (fun k hk=>hk.imp id fun e=>by omega) (Ext.fD (q.out.tn U)) bo)
      clear bo
      go_wp2
      go_ret
      unfold gP
      rw [d.out]
      exact ⟨HG.out,rfl⟩
  ·have d0:¬((v:Int)=(tv:Int)):=by omega
   rw [aB h0] at d
   clear h0
   go_region
   all_goals
    go_wp2_with fail
    refine (gd 4 0 _).mono ?_
    rintro e w3 ⟨rfl,a1⟩
    have br:Below w2.heap.size w2 w3:=by rw [a1];exact ((Below.rf w2).drew).alloc (af _) _
    have bs:w3.heap[w2.drew.heap.size]?=some (.cells #[.int .i64 ((4:Nat):Int),.int .i64 0,.nilIface] 166 (0,0)):=by rw [a1];exact fA w2.drew _
    have bt:=ab br
    have ci:=ab bs
    clear a1 br bs
    go_wp2
    go_ret
    unfold gP
    rw [d.out]
    refine ⟨⟨M,⟨F,G,O,x,S.out.below bt.out,E.out⟩,fun k => .inl,(Ext.fD q.out).trans (Ext.fD bt.out)⟩,_,0,rfl,_,rfl,?_,ci.out⟩
    have:=q.out.size
    exact this
end Go.Proofs.YtkkfmkhbdoeglaaGreatDoor
namespace Go.Proofs.YtkkfmkhbdoeglaaGreatDoor
open Go.RowKit Go.Shelf
theorem sC (H:fx) (P:PAg) (tk:gS):ni H P tk.V (tk.T P.a.T) (tk.log H P)=jB H P tk:=by
 unfold ni jB
 cases gZ (tk.T P.a.T) H.dp.room H.seen.length with
 | some f=>rfl
 | none =>
  generalize tk.log H P=q
  obtain ⟨H1,g1,r⟩:=q
  cases r <;> rfl
def uW (H:fx) (P:PAg):AgA×Option gS→fx×PAg
 | (a1,none)=>(H,{P with a:=a1})
 | (a1,some tk)=>jB H {P with a:=a1} tk
theorem Aq (H:fx) (P:PAg) (frame:List UInt8):iO H P frame=uW H P (P.a.taken frame):=by
 unfold iO uW
 rfl
theorem Am (H:fx) (P:PAg) (body:List UInt8):Bt (mP H P body)=uW H P (P.a.delta body):=by
 unfold mP AgA.delta
 cases hd:oU body with
 | inr f=>rfl
 | inl y =>
  obtain ⟨v,os⟩:=y
  simp only
  split
  ·rfl
  ·split
   ·rfl
   ·have hw:=hd
    rw [nP] at hw
    obtain ⟨-,b⟩:=sY _ _ _ hw
    rw [←b]
    exact sC H P (.delta v os)
theorem xQ (H:fx) (P:PAg) (tv:Nat) (bytes:List UInt8):Bt (jN H P tv bytes)=uW H P (P.a.l9 tv bytes):=by
 unfold jN AgA.l9
 cases hd:im bytes with
 | inr f=>rfl
 | inl y =>
  obtain ⟨v,T⟩:=y
  simp only
  split
  ·rfl
  ·split
   ·rfl
   ·exact sC H P (.state v T)
theorem CG (H:fx) (P:PAg) (a0:AgA) (q:AgA×Option gS):uW H {P with a:=a0} q=uW H P q:=by
 obtain ⟨a1,r⟩:=q
 cases r <;> rfl
theorem Af (H:fx) (P:PAg) (body:List UInt8):Bt (lE H P body)=uW H P (P.a.piece body):=by
 unfold lE AgA.piece
 split
 ·rfl
 ·split
  ·rfl
  ·cases P.a.com with
   | none=>rfl
   | some y =>
    obtain ⟨tv,of,got⟩:=y
    simp only
    split
    ·rfl
    ·split
     ·rfl
     ·rw [xQ]
      exact CG _ _ _ _
theorem zd (a:AgA) (body:List UInt8) (k:Nat) (h:(a.gG body).2=some k):(a.gG body).1=a:=by
 unfold AgA.gG at h⊢
 split at h
 ·rename_i c;rw [aB c]
 ·rename_i c1;rw [au c1]
  split at h
  ·rename_i c;rw [aB c]
  ·rename_i c2;rw [au c2]
   split at h
   ·rename_i c;rw [aB c]
   ·rename_i c3;rw [au c3]
    split at h
    ·rename_i c;rw [aB c]
    ·split at h <;> cases h
def rA (H:fx) (P:PAg) (frame:List UInt8):(fx×PAg)×Option Nat:=match gJ frame with
 | .inl (_,body)=>lE H P body
 | .inr _=>((H,P),none)
theorem EE (H:fx) (P:PAg) (frame:List UInt8):rQ H P frame (rA H P frame)=iO H P frame:=by
 rw [Aq]
 unfold rQ xB AgA.taken rA
 split
 ·rfl
 ·cases hu:gJ frame with
  | inr f=>rfl
  | inl y =>
   obtain ⟨k,body⟩:=y
   simp only
   by_cases d:k=1
   ·rw [aB d,aB d];exact Am H P body
   ·rw [au d,au d]
    by_cases i:k=2
    ·rw [aB i,aB i]
     by_cases b:body=[]
     ·rw [aB b,aB b,aB b];rfl
     ·rw [au b,au b,au b];rfl
    ·rw [au i,au i]
     by_cases l:k=3
     ·rw [aB l,aB l,En]
      have hq:=zd P.a body
      generalize P.a.gG body=q at hq
      obtain ⟨a1,r⟩:=q
      cases r with
      | none=>rfl
      | some j =>
       obtain rfl:a1=P.a:=hq j rfl
       rfl
     ·rw [au l,au l]
      by_cases m:k=4
      ·rw [aB m,aB m];exact Af H P body
      ·rw [au m,au m];rfl
theorem Az (H:fx) (P:PAg) (body:List UInt8) (b:P.a.Fit) (k:Nat) (h:(lE H P body).2=some k):k<256∧(lE H P body).1.2.a.V<18446744073709551616:=by
 have d:=b.v
 have arr:∀ (P':PAg) tv bytes k,P'.a.V=P.a.V→(jN H P' tv bytes).2=some k→k<256∧(jN H P' tv bytes).1.2.a.V<18446744073709551616:=by
  intro P' tv bytes k i h
  unfold jN at h⊢
  cases hd:im bytes with
  | inr f =>
   obtain ⟨f1,f2⟩:=f
   rw [hd] at h
   cases h
   have:=zk hd
   exact ⟨by omega,by show P'.a.V<_;omega⟩
  | inl y =>
   obtain ⟨v,T⟩:=y
   rw [hd] at h
   simp only at h⊢
   split at h
   ·rename_i c
    rw [aB c]
    cases h
    exact ⟨by omega,by show P'.a.V<_;omega⟩
   ·split at h <;> cases h
 unfold lE at h⊢
 split at h
 ·rename_i c;rw [aB c];cases h;exact ⟨by omega,by show P.a.V<_;omega⟩
 ·rename_i c1
  rw [au c1]
  split at h
  ·rename_i c;rw [aB c];cases h;exact ⟨by omega,by show P.a.V<_;omega⟩
  ·rename_i c2
   rw [au c2]
   cases hc:P.a.com with
   | none=>rw [hc] at h;cases h
   | some y =>
    obtain ⟨tv,of,got⟩:=y
    rw [hc] at h
    simp only at h⊢
    split at h
    ·cases h
    ·rename_i c3
     rw [au c3]
     split at h
     ·cases h
     ·rename_i c4
      rw [au c4]
      exact arr _ _ _ _ rfl h
theorem AgAt.Fq {w:World} {G O:Nat→Prop} {a h:Nat} {P:PAg} {x:AV} (ha:AgAt w G O a h P x) (b:P.a.com=none):x.cp = .pointer none:=by
 have:=ha.com
 rw [b] at this
 exact this
theorem AgAt.Es {w:World} {G O:Nat→Prop} {a h:Nat} {P:PAg} {x:AV} {tv of:Nat} {got:List (List UInt8)} (ha:AgAt w G O a h P x) (d:P.a.com=some (tv,of,got)):∃ b bv,x.cp = .pointer (some ⟨b,0,none⟩)∧G b∧w.heap[b]?=some (.cells #[.int .u64 (tv:Nat),.int .i64 (of:Nat),.int .i64 (got.length:Nat),bv] 214 (0,0))∧OwnS w 0 1 bv got.flatten.length (u8s got.flatten)∧CellsOf w bv 5∧∀ k,bv.ownBlock=some k→G k:=by
 have:=ha.com
 rw [d] at this
 exact this
theorem gP.trans {w w1 w':World} {M b:Nat→Prop} {a h:Nat} {R:(fx×PAg)×Option Nat} {e:Ending} (h2:∀ k,b k→M k∨w.heap.size≤k) (h3:Ext M w w1) (hs:gP w1 b a h R e w'):gP w M a h R e w':=by
 obtain ⟨i,d⟩:=hs
 refine ⟨jM.trans h2 h3 i,?_⟩
 obtain ⟨R,r⟩:=R
 cases r with
 | none=>exact d
 | some k =>
  obtain ⟨ev,p,j,g,l,m,o⟩:=d
  exact ⟨ev,p,j,g,l,aH h3.size m,o⟩
theorem AgAt.DF {w w':World} {G G' O:Nat→Prop} {a h i:Nat} {P:PAg} {x:AV} {j:Value} {C:Array Value} {fz:Nat×Nat} {m:Option (Nat×Nat×List (List UInt8))} (ha:AgAt w G O a h P x) (D:w.heap[i]?=some (.cells C 214 fz)) (E:CellsOf w j 5) (F:G i) (I:∀ k,j.ownBlock=some k→G k)
  (d:Ext (fun k=>k=i∨j.ownBlock=some k) w w') (l:∀ k,G k→G' k) (B:∀ k,G' k→k<w'.heap.size∧¬O k) (hc:ComP w' G' x.cp m):AgAt w' G' O a h {P with a := {P.a with com:=m}} x:=by
 have y:∀ k,(k=i∨j.ownBlock=some k)→G k∧∃ C fz,w.heap[k]?=some (.cells C 214 fz)∨w.heap[k]?=some (.cells C 5 fz):=fun k hk=>by
  rcases hk with rfl | hk
  ·exact ⟨F,C,fz,.inl D⟩
  ·obtain ⟨o,b,M⟩:=E k hk
   exact ⟨I k hk,o,b,.inr M⟩
 have q:∀ k o T b,w.heap[k]?=some (Obj.cells o T b)→T≠214→T≠5→¬(k=i∨j.ownBlock=some k):=fun k o T b hk N Q hd=>by
  obtain ⟨-,J,f2,h2 | h2⟩:=y k hd
  ·exact ij hk h2 N rfl
  ·exact ij hk h2 Q rfl
 obtain ⟨s,r,vals,h1,-⟩:=ha.out
 have u:=ha.log
 unfold LogAt at u
 refine ⟨d.at (q a _ _ _ ha.row (by decide) (by decide)) ha.row,ha.tab.fP (d.block _ ha.tab.lt fun e => ?_),d.at (q _ _ _ _ u (by decide) (by decide)) u,ha.out.frame d (fun e => ?_) fun k hk e=>ha.sep k (y k e).1 hk,(ha.flt.frame d fun k o R _ hk => ?_).mono l,hc,⟨l _ ha.gin.1,l _ ha.gin.2.1,l _ ha.gin.2.2.1,l _ ha.gin.2.2.2⟩,fun k hk=>(B k hk).1,fun k hk=>ay (ha.olt k hk) d.size,fun k hk=>(B k hk).2⟩
 ·obtain ⟨-,J,f2,h2 | h2⟩:=y _ e
  ·exact ha.tab.jC h2 rfl
  ·exact ha.tab.jC h2 rfl
 ·obtain ⟨-,J,f2,h2 | h2⟩:=y _ e
  ·exact mi h1 h2 rfl
  ·exact mi h1 h2 rfl
 ·rcases hk with hk | hk <;> exact q k _ _ _ hk (by decide) (by decide)
theorem gI.DF {w w':World} {F G G' O:Nat→Prop} {a h j:Nat} {H:fx} {P:PAg} {x:AV} {l:Value} {C:Array Value} {fz:Nat×Nat} {m:Option (Nat×Nat×List (List UInt8))} (hm:gI w F G O a h H P x) (o:w.heap[j]?=some (.cells C 214 fz)) (q:CellsOf w l 5) (d:G j) (i:∀ k,l.ownBlock=some k→G k)
  (r:Ext (fun k=>k=j∨l.ownBlock=some k) w w') (s:∀ k,G k→G' k) (b:∀ k,G' k→k<w'.heap.size∧¬O k∧¬F k) (hc:ComP w' G' x.cp m):gI w' F G' O a h H {P with a := {P.a with com:=m}} x :=
 ⟨hm.host.ext r fun k hk e=>hm.fg k hk (e.elim (fun e=>e▸d) (i k)),hm.ag.DF o q d i r s (fun k hk=>⟨(b k hk).1,(b k hk).2.1⟩) hc,fun k hk u=>(b k u).2.2 hk,hm.fo⟩
theorem gI.ended {w w':World} {F G O:Nat→Prop} {a h:Nat} {H:fx} {P:PAg} {x:AV} (hm:gI w F G O a h H P x) (b:Ext (fun j=>j=a) w w') (d:w'.heap[a]?=some (.cells (AV.cells {x with cp := .pointer none} P.a.V h) 117 (0,0))):gI w' F G O a h H {P with a := {P.a with com:=none}} {x with cp := .pointer none} :=
 ⟨hm.host.ext b fun k hk e=>hm.fg k hk (e▸hm.ag.gin.1),hm.ag.nE b d rfl rfl rfl rfl rfl rfl (fun _k=>id) (fun k hk=>⟨ay (hm.ag.glt k hk) b.size,hm.ag.sep k hk⟩) (hm.ag.td b) rfl,hm.fg,hm.fo⟩
theorem ShapesVar.ext {S:Nat→Prop} {w w':World} (h:ShapesVar w) (b:Ext S w w') (d:∀ k,S k→2≤k):ShapesVar w':=h.fP b.size (b.block _ (fE h.c0) fun e=>absurd (d _ e) (by decide))
theorem Bj (got:List (List UInt8)) (h:∀ s∈got,s.length≤64) (hl:got.length≤100):got.flatten.length≤100000:=by
 have key:∀ l:List (List UInt8),(∀ s∈l,s.length≤64)→l.flatten.length≤64*l.length:=by
  intro l
  induction l with
  | nil=>intro _;simp
  | cons s l ih =>
   intro h
   have h1:=ih fun t b=>h t (by simp [b])
   have h2:=h s (by simp)
   rw [List.flatten_cons,aq,ar]
   omega
 have:=key got h
 omega
theorem zy (n B a h base:Nat) (l:List Int) (F G O M:Nat→Prop) (H:fx) (P:PAg) (x:AV) (bv:Value) (body:List UInt8) (w:World) (hm:gI w F G O a h H P x) (hM:∀ k,F k∨G k∨O k→M k) (hu:UpAg n l H P) (a5:P.a.Fit) (hn:32≤n∧n≤128) (bD:HostOk H B) (hB:B≤800000000) (cq:P.lg.stamp<8999999999999999999) (hL:H.dp.log.length≤7500000000000)
  (hb:OwnS w base 1 bv body.length (u8s body)) (el:body.length≤fX) (bH:ShapesVar w) (bI:∀ k,M k→2≤k) :
  Calls Tryz.prog 84 #[.pointer (some ⟨a,0,none⟩),bv] w (gP w M a h (lE H P body)):=by
 have Q:=hb.bytes
 obtain ⟨f2,f1,rfl,-,-⟩:=Q.opened
 have S:=hm.ag.row
 unfold AV.cells qE at S
 have f0:=ae _ _ 6 _ _ _ S
 have z6:=aj _ _ 6 _ _ S
 have em:=fw S
 have en:fX≤1000000000000000000:=by decide
 have d6:1000000≤fX:=by decide
 have q:=ab hm
 have D:=ab hM
 have HU:=ab hu
 have bL:=ab a5
 have ct:=ab bD
 have cu:=ab bH
 have bM:=ab Q
 obtain ⟨R,hR⟩:∃ R,R=lE H P body:=⟨_,rfl⟩
 have HR:=ab hR
 rw [←hR]
 clear hm hM hu a5 bD bH hb hR S Q
 by_cases h1:body.length<2
 ·have cv:(body.length:Int)-1<1:=by omega
  have i:Hid (R=((H,P),some 1)):=ab (by rw [HR.out];unfold lE;rw [aB h1])
  clear h1
  go_enter Tryz.func84,Tryz.ntmps84
  go_wp2_with fail
  refine (gd 1 0 w).mono ?_
  rintro e w3 ⟨rfl,rfl⟩
  go_wp2
  go_ret
  unfold gP
  rw [i.out]
  have ak:Below w.heap.size w (w.alloc (.cells #[.int .i64 1,.int .i64 0,.nilIface] 166)):=(Below.rf w).alloc (af _) _
  exact ⟨⟨M,⟨F,G,O,x,q.out.below ak,D.out⟩,fun k => .inl,Ext.fD ak⟩,_,0,rfl,iJ.new w _ 1 0 (af _)⟩
 ·have cv:¬(body.length:Int)-1<1:=by omega
  by_cases h2:65<body.length
  ·have cB:(64:Int)<(body.length:Int)-1:=by omega
   have i:Hid (R=((H,P),some 2)):=ab (by rw [HR.out];unfold lE;rw [au h1,aB h2])
   clear h1 h2
   go_enter Tryz.func84,Tryz.ntmps84
   go_wp2_with fail
   refine (gd 2 0 w).mono ?_
   rintro e w3 ⟨rfl,rfl⟩
   go_wp2
   go_ret
   unfold gP
   rw [i.out]
   have ak:Below w.heap.size w (w.alloc (.cells #[.int .i64 2,.int .i64 0,.nilIface] 166)):=(Below.rf w).alloc (af _) _
   exact ⟨⟨M,⟨F,G,O,x,q.out.below ak,D.out⟩,fun k => .inl,Ext.fD ak⟩,_,0,rfl,iJ.new w _ 2 0 (af _)⟩
  ·have cB:¬(64:Int)<(body.length:Int)-1:=by omega
   cases hc:P.a.com with
   | none =>
    have al:=q.out.ag.Fq hc
    rw [al] at f0
    have i:Hid (R=((H,{P with a:=P.a.iM}),none)):=ab (by rw [HR.out];unfold lE;rw [au h1,au h2,hc])
    have hv:=bL.out.v
    clear h1 h2 hc al
    go_enter Tryz.func84,Tryz.ntmps84
    go_wp2_with fail
    refine (jy a h P x G O w q.out.ag (by omega)).mono ?_
    rintro e w3 ⟨rfl,hp⟩
    have HG:=ab (gI.nT (M:=M) q.out (fun k hk => .inl (D.out k hk)) (Ext.refl M w) hp)
    clear hp
    go_wp2
    go_ret
    unfold gP
    rw [i.out]
    exact ⟨HG.out,rfl⟩
   | some y =>
    obtain ⟨tv,of,got⟩:=y
    obtain ⟨d,gv,al,ba,E,a1,bN,bO⟩:=q.out.ag.Es hc
    obtain ⟨k1,k2,k3,k4⟩:=bL.out.com tv of got hc
    obtain ⟨X,hX⟩:∃ X,X=got.flatten:=⟨_,rfl⟩
    rw [←hX] at a1
    have bP:=ab hX
    clear hX
    obtain ⟨ga,gc,rfl⟩:=a1.shape
    rw [al] at f0
    have g0:=ae _ _ 0 _ _ _ E
    have g1:=ae _ _ 1 _ _ _ E
    have g2:=ae _ _ 2 _ _ _ E
    have g3:=ae _ _ 3 _ _ _ E
    have y2:=aj _ _ 2 _ _ E
    have y3:=aj _ _ 3 _ _ E
    have d9:=fw E
    obtain ⟨er,eD,c0,c1,bS⟩:=bM.out.opened
    cases c0
    obtain ⟨b0,b,rfl⟩:∃ b0 b,body=b0::b:=by
     cases body with
     | nil=>simp at h1
     | cons b0 b=>exact ⟨b0,b,rfl⟩
    obtain ⟨tb,eS,rfl,t0⟩:=bS 0 (by simp)
    simp only [cg,cx] at t0
    have i:Hid (R=if b0.toNat≠got.length then ((H,{P with a:=P.a.km}),none) else if got.length+1<of then ((H,{P with a:=AgA.km {P.a with com:=some (tv,of,got++[b])}}),none) else jN H {P with a := {P.a with com:=none}} tv (got++[b]).flatten):=ab (by rw [HR.out];unfold lE;rw [au h1,au h2,hc];rfl)
    have bc:=ab E
    have c2:=ab hc
    have c3:=ab a1
    have a2:=ab bN
    have bd:=ab bO
    have hlen:(b0::b).length=b.length+1:=rfl
    have c4:=b0.toNat_lt
    clear E a1 bN bO h1 h2 HR bS
    generalize (b0::b).length=bl at *
    obtain ⟨bn,bi⟩:∃ bn,bn=b0.toNat:=⟨_,rfl⟩
    have eT:=ab bi
    rw [←bi] at t0 c4 i
    clear bi
    by_cases U:bn=got.length
    ·have q1:((bn:Int)==(got.length:Int))=true:=by rw [U];exact dt _
     have c5:(bn:Int)=(got.length:Int):=by omega
     rw [au (by omega)] at i
     clear U
     go_enter Tryz.func84,Tryz.ntmps84
     go_upto_region 10 with fail
     go_region
     all_goals
      go_upto_region 11 with fail
      have ec:¬f1=1:=by omega
      have ed:(1:Int)≤(b.length:Int)+1:=by omega
      have ce:=ab (BytesAt.right (x:=[b0]) (y:=b) bM.out)
      have eV:X.length≤100000:=by rw [bP.out];exact Bj got k4 (by omega)
      clear c1
      go_region_law
       ((first
         | (refine ku rfl (.tmp 43) (.tmp 45) 59 5 1 1 (.int .u8 0) Tryz.underlying59 oY rfl (by decide) rfl 0 (.slice ga X.length gc) X.length (u8s X) rfl (by exact c3.out) (by exact a2.out) b.length (u8s b) (by exact ce.out) (mY b) (by omega) (by omega) (aK _) ?_;intro v7 w7 N bk Z bX;rw [←jE] at N;
            obtain ⟨m,o,rfl⟩:=N.shape;
            have V:=ab (ir bk (a2.out.ne bc.out (by decide)) bc.out);
            have c6:w7.cell? ⟨d,3,none⟩=some (.slice ga X.length gc):=ae _ _ 3 _ _ _ V.out;
            have c7:=aj _ _ 3 _ _ V.out;have c8:=fw V.out)))
      all_goals
       have I:(w7.setCell ⟨d,3,none⟩ (.slice m (X.length+b.length) o)).heap[d]?=some (.cells #[.int .u64 (tv:Nat),.int .i64 (of:Nat),.int .i64 (got.length:Nat),.slice m (X.length+b.length) o] 214 (0,0)):=heap_setCell _ _ 3 _ V.out
       have bo:Ext (fun k=>k=d∨(Value.slice ga X.length gc).ownBlock=some k) w (w7.setCell ⟨d,3,none⟩ (.slice m (X.length+b.length) o)):=((Ext.fD ((Below.rf w).drew.drew)).trans (Ext.mono (nD (w:=w.drew.drew) bk) fun k e=>(.inr e:k=d∨(Value.slice ga X.length gc).ownBlock=some k))).setCell ⟨d,3,none⟩ _ (.inl (.inl rfl))
       have br:OwnS (w7.setCell ⟨d,3,none⟩ (.slice m (X.length+b.length) o)) 0 1 (.slice m (X.length+b.length) o) (X.length+b.length) (u8s (X++b)):=N.frame (by rw [size_setCell];exact af _) fun k e _=>Below.heap_setCell w7 ⟨d,3,none⟩ _ k fun u=>by
        obtain ⟨C,fz,hC⟩:=Z k e
        exact ij hC V.out (by decide) u
       have av:CellsOf (w7.setCell ⟨d,3,none⟩ (.slice m (X.length+b.length) o)) (.slice m (X.length+b.length) o) 5:=Z.frame fun k e _=>Below.heap_setCell w7 ⟨d,3,none⟩ _ k fun u=>by
        obtain ⟨C,fz,hC⟩:=Z k e
        exact ij hC V.out (by decide) u
       have b1:∀ k,(Value.slice m (X.length+b.length) o).ownBlock=some k→(Value.slice ga X.length gc).ownBlock=some k∨w.heap.size≤k:=fun k e=>(bX k e).imp id fun e=>by have u:k=w.heap.size:=e;omega
       generalize w7.setCell ⟨d,3,none⟩ (.slice m (X.length+b.length) o)=w8 at *
       have e0:=ab I
       have c9:=ab bo
       have da:=ab br
       have dc:=ab av
       have b2:=ab b1
       have e1:=ae _ _ 2 _ _ _ I
       have e2:=aj _ _ 2 _ _ I
       have g18:=ae _ _ 1 _ _ _ I
       have e3:=fw I
       have dk:IntKind.i64.wrap ((got.length:Int)+1)=(got.length:Int)+1:=by rw [show ((got.length:Int)+1)=((got.length+1:Nat):Int) by omega];exact IntWalk.i64_in _ (by omega)
       have W:(w8.setCell ⟨d,2,none⟩ (.int .i64 ((got.length:Int)+1))).heap[d]?=some (.cells #[.int .u64 (tv:Nat),.int .i64 (of:Nat),.int .i64 ((got.length:Int)+1),.slice m (X.length+b.length) o] 214 (0,0)):=heap_setCell _ _ 2 _ I
       have aE:=bo.setCell ⟨d,2,none⟩ (.int .i64 ((got.length:Int)+1)) (.inl (.inl rfl))
       have a0:=br.frame (w':=w8.setCell ⟨d,2,none⟩ (.int .i64 ((got.length:Int)+1))) (by rw [size_setCell];exact af _) fun k e _=>Below.heap_setCell w8 ⟨d,2,none⟩ _ k fun u=>by
        obtain ⟨C,fz,hC⟩:=av k e
        exact ij hC I (by decide) u
       have b3:=av.frame (w':=w8.setCell ⟨d,2,none⟩ (.int .i64 ((got.length:Int)+1))) fun k e _=>Below.heap_setCell w8 ⟨d,2,none⟩ _ k fun u=>by
        obtain ⟨C,fz,hC⟩:=av k e
        exact ij hC I (by decide) u
       clear I bo br av b1 N bk Z bX c6 c7 c8
       go_upto_region 13 with fail
       generalize dl:w8.setCell ⟨d,2,none⟩ (.int .i64 ((got.length:Int)+1))=J at *
       have e4:=ae _ _ 2 _ _ _ W
       have g19:=ae _ _ 1 _ _ _ W
       have e5:=fw W
       have b4:=ab W
       have a3:X++b=(got++[b]).flatten:=by rw [bP.out,List.flatten_append,List.flatten_cons,List.flatten_nil,cZ]
       have bs:X.length+b.length=(got++[b]).flatten.length:=by rw [←a3,aq]
       have b5:=q.out.ag.glt
       have dn:=q.out.host.lt
       have ds:=q.out.ag.olt
       have Y:Hid (gI J F (fun k=>G k∨(w.heap.size≤k∧k<J.heap.size)) O a h H {P with a := {P.a with com:=some (tv,of,got++[b])}} x):=ab (by
        refine q.out.DF bc.out a2.out ba bd.out aE (fun k => .inl) (fun k hk => ?_) ?_
        ·rcases hk with hk | hk
         ·have:=b5 k hk
          exact ⟨ay this aE.size,q.out.ag.sep k hk,fun e=>q.out.fg k e hk⟩
         ·exact ⟨hk.2,fun e=>by have:=ds k e;omega,fun e=>by have:=dn k e;omega⟩
        ·refine ⟨d,.slice m (X.length+b.length) o,al,.inl ba,?_,?_,b3,fun k e => ?_⟩
         ·rw [W]
          simp
         ·rw [a3,bs] at a0
          rw [bs]
          exact a0
         ·rcases b2.out k e with u | u
          ·exact .inl (bd.out k u)
          ·exact .inr ⟨u,a0.gQ k e⟩)
       have bt:=ab (show Ext M w J from aE.mono fun k e=>D.out k (.inr (.inl (e.elim (fun e=>e▸ba) (bd.out k)))))
       have b6:=ab a0
       have dv:=ab a3
       have e6:=ab aE.size
       have b7:Hid (∀ k,F k∨(G k∨(w.heap.size≤k∧k<J.heap.size))∨O k→M k∨w.heap.size≤k):=ab fun k hk=>by
        rcases hk with hk | (hk | hk) | hk
        ·exact .inl (D.out k (.inl hk))
        ·exact .inl (D.out k (.inr (.inl hk)))
        ·exact .inr hk.1
        ·exact .inl (D.out k (.inr (.inr hk)))
       clear W aE a0 b3 dl a3 bs da dc c9 dk
       by_cases a4:got.length+1<of
       ·have ci:(got.length:Int)+1<(of:Int):=by omega
        rw [aB a4] at i
        clear a4
        go_region
        all_goals
         go_wp2_with fail
         refine (mW a h _ x _ O _ (Y.out.below ((Below.rf J).drew)).ag tv of (got++[b]) rfl (by rw [aq,dg];omega)).mono ?_
         rintro e e7 ⟨rfl,hp⟩
         have HG:=ab (gI.nT (M:=M) (Y.out.below ((Below.rf J).drew)) b7.out (bt.out.trans (Ext.fD ((Below.rf J).drew))) hp)
         clear hp
         go_wp2
         go_ret
         unfold gP
         rw [i.out]
         exact ⟨HG.out,rfl⟩
       ·have ci:¬(got.length:Int)+1<(of:Int):=by omega
        rw [au a4] at i
        clear a4
        have b8:=Y.out.below ((Below.rf J).drew)
        have s:=b8.ag.row
        have eg:=ab s
        unfold AV.cells qE at s
        have e8:=ae _ _ 6 _ _ _ s
        have f69:=aj _ _ 6 _ _ s
        have ej:=fw s
        clear b8 s
        go_region
        all_goals
         have r:Ext (fun j=>j=a) J (J.setCell ⟨a,6,none⟩ (.pointer none)).drew:=((Ext.refl (fun j=>j=a) J).setCell ⟨a,6,none⟩ (.pointer none) (.inl rfl)).drew
         have bw:=Y.out.ended r (heap_setCell _ _ 6 _ Y.out.ag.row)
         have U:d≠a:=fun e=>ij b4.out Y.out.ag.row (by decide) e
         have bx:UpAg n l H {P with a := {P.a with com:=none}} := ⟨HU.out.disk,HU.out.dpS,HU.out.room,HU.out.tab,HU.out.deg⟩
         have Q:BytesAt (J.setCell ⟨a,6,none⟩ (.pointer none)).drew (.slice m (X.length+b.length) o) (X++b):=(b6.out.frame r.size fun k e hk=>r.block k hk fun u=>by
          have u:k=a:=u
          rcases b2.out k e with h' | h'
          ·obtain ⟨C,fz,hC⟩:=a2.out k h'
           exact ij hC q.out.ag.row (by decide) u
          ·have:=b5 a q.out.ag.gin.1
           omega).bytes
         have d0:=ab (vy n B a h d l F _ O (fun k=>M k∨w.heap.size≤k) H {P with a := {P.a with com:=none}} _ _ _ _ tv (X++b) _ bw b7.out bx hn ct.out hB cq hL (r.at U b4.out) Q (fun k e=>by have h':=Q;have:=b6.out.gQ k e;exact ay this r.size) (by rw [aq];omega) ((cu.out.ext bt.out bI).ext r fun k e=>e▸bI a (D.out a (.inr (.inl q.out.ag.gin.1)))) k3)
         have co:=ab (bt.out.trans (r.mono fun k e=>D.out k (.inr (.inl (e▸q.out.ag.gin.1)))))
         clear r bw bx Q
         go_wp2_with fail
         refine d0.out.mono ?_
         rintro e e9 bz
         obtain ⟨ev,rfl⟩:=bz.ev
         have d1:=ab (gP.trans (fun k hk=>hk) co.out bz)
         clear bz
         go_wp2
         go_ret
         rw [i.out,←dv.out]
         exact d1.out
    ·have q1:((bn:Int)==(got.length:Int))=false:=aC.2 (by omega)
     have c5:¬(bn:Int)=(got.length:Int):=by omega
     have q2:(got.length:Int)<(of:Int):=by omega
     rw [aB U] at i
     clear U
     go_enter Tryz.func84,Tryz.ntmps84
     go_upto_region 10 with fail
     go_region
     all_goals
      go_wp2
      go_region
      all_goals
       go_wp2_with fail
       refine (mW a h P x G O _ (q.out.below ((Below.rf w).drew.drew)).ag tv of got c2.out (by omega)).mono ?_
       rintro e w3 ⟨rfl,hp⟩
       have HG:=ab (gI.nT (M:=M) (q.out.below ((Below.rf w).drew.drew)) (fun k hk => .inl (D.out k hk)) (Ext.fD ((Below.rf w).drew.drew)) hp)
       clear hp
       go_wp2
       go_ret
       unfold gP
       rw [i.out]
       exact ⟨HG.out,rfl⟩
theorem xy (n B a h:Nat) (l:List Int) (F G O M:Nat→Prop) (H:fx) (P:PAg) (x:AV) (bv:Value) (frame:List UInt8) (w:World) (hm:gI w F G O a h H P x) (q:∀ k,F k∨G k∨O k→M k) (hu:P.a.deg=none→UpAg n l H P) (d:P.a.Fit) (r:32≤n∧n≤128) (i:HostOk H B) (s:B≤800000000) (j:P.lg.stamp<8999999999999999999) (u:H.dp.log.length≤7500000000000)
  (J:BytesAt w bv frame) (C:frame.length≤fX) (m:ShapesVar w) (D:ErrVar w) (o:∀ k,M k→2≤k) :
  Calls Tryz.prog 44 #[.pointer (some ⟨a,0,none⟩),bv] w fun e w'=>e = .returned (.tuple #[])∧jM w M a h (iO H P frame).1 (iO H P frame).2 w':=by
 rw [←EE]
 refine vE n B a h l F G O M H P x bv frame (rA H P frame) w hm q hu r i s j u J C m D d.v o (fun body W v' hd b E N => ?_) fun k hk => ?_
 ·have hl:=ur b
  rw [show rA H P frame=lE H P body by unfold rA;rw [b]]
  refine (zy n B a h w.heap.size l F G O M H P x v' body W (hm.below E) q (hu hd) d r i s j u N (by omega) (m.new E) o).mono ?_
  intro e w' I
  exact I
 ·unfold rA at hk⊢
  cases b:gJ frame with
  | inr f=>rw [b] at hk;cases hk
  | inl y =>
   rw [b] at hk
   exact Az H P y.2 d k hk
end Go.Proofs.YtkkfmkhbdoeglaaGreatDoor
