/- A part of what is proved here: lemmas and contracts of single functions. No condition but those that each names. -/
import Derived.Test.YtkkfmkhbdoeglaaGreatDoorG00
import Derived.Test.YtkkfmkhbdoeglaaGreatDoorG31
set_option maxHeartbeats 1000000
set_option maxRecDepth 100000
namespace Go.Proofs.YtkkfmkhbdoeglaaGreatDoor
open Go.RowKit Go.Shelf
def ki (H:fJ) (P:PAg) (tv:Nat) (bytes:List UInt8):(fJ×PAg)×Option Nat:=match iD bytes with
 | .inr f=>((H,P),some f.1)
 | .inl (v,T)=>if v≠tv then ((H,P),some 4) else if v≤P.a.V then ((H,{P with a:=P.a.lJ}),none) else (nZ H P v T (fT H P.lg v T),none)
def mf (H:fJ) (P:PAg) (body:List UInt8):(fJ×PAg)×Option Nat :=
 if body.length<2 then ((H,P),some 1) else if 65<body.length then ((H,P),some 2)
 else match P.a.com with
 | none=>((H,{P with a:=P.a.jb}),none)
 | some (tv,of,got) =>
  if (body.getD 0 0).toNat≠got.length then ((H,{P with a:=P.a.jM}),none)
  else if got.length+1<of then ((H,{P with a:=AgA.jM {P.a with com:=some (tv,of,got++[body.drop 1])}}),none)
  else ki H {P with a := {P.a with com:=none}} tv (got++[body.drop 1]).flatten
theorem F6 (n B a h d i j q r v:Nat) (l:List Int) (F G O:Nat→Prop) (H:fJ) (P:PAg) (x:AV) (T:List E) (w:World) (hm:gU w F G O a h H P x) (hu:UpAg n l H P) (U:HostOk H B) (hB:B≤800000000) (av:P.lg.stamp<8999999999999999999) (hv:v<18446744073709551616)
  (he:EntAt w q 0 r T) (V:sizeS T≤16*(H.seen.length-8)) (X:T.length<65536) (hg:∀ y∈T,EntGood y)
  (ha:w.cell? ⟨d,0,none⟩=some (.pointer (some ⟨a,0,none⟩))) (u:w.cell? ⟨i,0,none⟩=some (.int .u64 (v:Nat))) (C:w.cell? ⟨j,0,none⟩=some (.pointer (some ⟨q,0,none⟩))) (m:(¬F d∧d≠x.lg)∧(¬F i∧i≠x.lg)∧¬F j∧j≠x.lg) :
  uz 148 #[.pointer (some ⟨d,0,none⟩),.pointer (some ⟨i,0,none⟩),.pointer (some ⟨j,0,none⟩)] w x F h (fT H P.lg v T):=by
 intro W D
 have b:=hm.below D
 have o:=b.ag.row
 unfold AV.cells rO at o
 have c2:=af _ _ 2 _ _ _ o
 have aE:=fI o
 have M:=(D.cell (p:=⟨d,0,none⟩) (fP ha)).trans ha
 have N:=(D.cell (p:=⟨i,0,none⟩) (fP u)).trans u
 have Q:=(D.cell (p:=⟨j,0,none⟩) (fP C)).trans C
 have J:=he.below D
 have I:=b.ag.gin
 have Z:=ae (fun (Y:World) (R:Below W.heap.size W Y)=>tS x.lg h F H P.lg B q 0 r v T Y (fK R (fI b.ag.log) b.ag.log) (b.host.below R) U (by omega) (fun e=>b.fg _ e I.2.2.1)
  (J.below R) hu.slot V X hv (fun y hy=>(hg y hy).small) (by omega))
 have halt:=fP M
 have al:=fP N
 have am:=fP Q
 have s:=ae (show ¬(F d∨d=x.lg)∧¬(F i∨i=x.lg)∧¬(F j∨j=x.lg)∧¬(F a∨a=x.lg) from ⟨fun e=>e.elim m.1.1 m.1.2,fun e=>e.elim m.2.1.1 m.2.1.2,fun e=>e.elim m.2.2.1 m.2.2.2,fun e=>e.elim (fun e=>b.fg _ e I.1) fun e=>iM b.ag.row b.ag.log (by decide) e⟩)
 clear hm b o I ha u C he J
 go_enter Tryz.func148,Tryz.ntmps148
 go_wp2
 go_region_held3 (fun w'=>w'.cell? ⟨d,0,none⟩=some (.pointer (some ⟨a,0,none⟩))∧w'.cell? ⟨i,0,none⟩=some (.int .u64 (v:Nat))∧w'.cell? ⟨j,0,none⟩=some (.pointer (some ⟨q,0,none⟩))∧w'.cell? ⟨a,2,none⟩=some (.pointer (some ⟨x.lg,0,none⟩)))
  (first | exact ⟨M,N,Q,c2⟩ | (obtain ⟨F',g1,g2,g3⟩:=h3;exact ⟨g3.cell (p:=⟨d,0,none⟩) s.out.1 M,g3.cell (p:=⟨i,0,none⟩) s.out.2.1 N,g3.cell (p:=⟨j,0,none⟩) s.out.2.2.1 Q,g3.cell (p:=⟨a,2,none⟩) s.out.2.2.2 c2⟩))
  (first | (go_at_call 146;refine (Z.out _ (by first | exact (Below.rf W).drew | exact Below.rf W)).mono ?_;rintro e w1 ⟨rv,rfl,h1,h2,h3,h4⟩))
 all_goals
  have S:=ae (⟨h1,h2,h3⟩:xp _ w1 rv (fT H P.lg v T).2.2∧LogAt w1 x.lg h (fT H P.lg v T).2.1∧ir _ F (fun k=>k=x.lg) h (fT H P.lg v T).1 w1)
  clear h1 h2 h3 h4
  go_wp2
  go_ret
  exact ⟨_,rfl,S.out.1,S.out.2.1,ir.gw ((Below.rf W).drew) S.out.2.2⟩
theorem wM (n B a h d2:Nat) (l:List Int) (F G O M:Nat→Prop) (H:fJ) (P:PAg) (x:AV) (bv ov gv:Value) (tv:Nat) (bytes:List UInt8) (w:World) (hm:gU w F G O a h H P x) (hM:∀ k,F k∨G k∨O k→M k) (hu:UpAg n l H P) (hn:32≤n∧n≤128) (a4:HostOk H B) (hB:B≤800000000) (b0:P.lg.stamp<8999999999999999999) (hL:H.dp.log.length≤7500000000000)
  (hc:w.heap[d2]?=some (.cells #[.int .u64 (tv:Nat),ov,gv,bv] 214 (0,0))) (hb:BytesAt w bv bytes) (a5:∀ k,bv.ownBlock=some k→k<w.heap.size) (b1:bytes.length≤gx) (W:ShapesVar w) (c9:tv<18446744073709551616) :
  Calls Tryz.prog 122 #[.pointer (some ⟨a,0,none⟩),.pointer (some ⟨d2,0,none⟩)] w (im w M a h (ki H P tv bytes)):=by
 obtain ⟨d3,d4,rfl,-,-⟩:=hb.opened
 have o:Below w.heap.size w (w.alloc (.cells #[.pointer (some ⟨a,0,none⟩)] 89)):=(Below.rf w).alloc (ah _) _
 have a6:=fL w (.cells #[.pointer (some ⟨a,0,none⟩)] 89)
 have da:(w.alloc (.cells #[.pointer (some ⟨a,0,none⟩)] 89)).heap.size=w.heap.size+1:=ax _ _
 have s:=ae hm
 have E:=ae hM
 have u:=ae hu
 have b2:=ae a4
 obtain ⟨R,hR⟩:∃ R,R=ki H P tv bytes:=⟨_,rfl⟩
 have HR:=ae hR
 rw [←hR]
 have i:=hb.below o
 have X:=W.fW o.size (o.block _ W.two)
 have I:=fK o (fI hc) hc
 have cs:=fI hc
 clear hm hM hu a4 hR W hb hc
 go_enter Tryz.func122,Tryz.ntmps122
 go_upto_region 1 with fail
 generalize w.alloc (.cells #[.pointer (some ⟨a,0,none⟩)] 89)=w0 at *
 have Y:=ae o
 have b3:=ae (qW (.slice d3 bytes.length d4) bytes w0 i (fun k e=>by have:=a5 k e;omega) b1 X)
 have g3:=af _ _ 3 _ _ _ I
 have bD:=fI I
 have a7:=ae a6
 have b4:=ae I
 clear o a6 i X I a5
 go_wp2_with fail
 refine b3.out.mono ?_
 rintro e w1 ⟨i,J⟩
 have Z:=ae (Y.out.tn i)
 have N:=fK i (fI a7.out) a7.out
 have Q:=fK i bD b4.out
 cases b:iD bytes with
 | inr f =>
  obtain ⟨fk,fp⟩:=f
  rw [b] at J
  obtain ⟨ev,rfl,a9⟩:=J
  have b5:=ae a9
  obtain ⟨g,rfl,-,-⟩:=a9
  have d:Hid (R=((H,P),some fk)):=ae (by rw [HR.out];unfold ki;rw [b])
  have ba:Below w1.heap.size w1 ((w1.alloc (.cells #[.int .u64 0] 26)).alloc (.cells #[.pointer none] 126)):=Below.al (Below.al (Below.rf w1) _) _
  have aa:=ae ba
  clear b i ba N Q g3
  go_wp2
  refine aK (v := .iface 114 (.pointer (some ⟨g,0,none⟩))) (by simp [results,Tryz.results122,go_sem]) rfl ?_
  unfold im
  rw [d.out]
  refine ⟨⟨M,⟨F,G,O,x,(s.out.below Z.out).below aa.out,E.out⟩,fun k => .inl,(Ext.fM Z.out).trans (Ext.fM aa.out)⟩,_,fp,rfl,?_⟩
  obtain ⟨g',e1,e2,e3⟩:=b5.out
  exact ⟨g',e1,by have:=Y.out.size;omega,fK aa.out (fI e3) e3⟩
 | inl y =>
  obtain ⟨v,T⟩:=y
  rw [b] at J
  obtain ⟨r,rfl,ab,dc⟩:=J
  obtain ⟨bb,bc,-⟩:=nO b
  obtain ⟨dk,b7⟩:=pV b
  have ak:=j6 bb
  have am:=ae bc
  have d:Hid (R=if v≠tv then ((H,P),some 4) else if v≤P.a.V then ((H,{P with a:=P.a.lJ}),none) else (nZ H P v T (fT H P.lg v T),none)):=ae (by rw [HR.out];unfold ki;rw [b])
  have t2:Below w1.heap.size w1 ((w1.alloc (.cells #[.int .u64 (v:Nat)] 26)).alloc (.cells #[.pointer (some ⟨r+1,0,none⟩)] 126)):=Below.al (Below.al (Below.rf w1) _) _
  have V2:=fQ (w1.alloc (.cells #[.int .u64 (v:Nat)] 26)) (.cells #[.pointer (some ⟨r+1,0,none⟩)] 126) (fL w1 (.cells #[.int .u64 (v:Nat)] 26))
  have T2:=fL (w1.alloc (.cells #[.int .u64 (v:Nat)] 26)) (.cells #[.pointer (some ⟨r+1,0,none⟩)] 126)
  rw [ax] at T2
  have q:=ae (Z.out.tn t2)
  have ap:=fK t2 (fI N) N
  have av:=fK t2 (fI Q) Q
  have bi:=ab.below t2
  have dl:=i.size
  have dn:=ab.lt
  clear bb bc b i N Q ab HR g3 b7
  go_upto_region 5 with fail
  generalize (w1.alloc (.cells #[.int .u64 (v:Nat)] 26)).alloc (.cells #[.pointer (some ⟨r+1,0,none⟩)] 126)=w2 at *
  have aE:=s.out.below q.out
  have j:=aE.ag.row
  unfold AV.cells rO at j
  have c1:=af _ _ 1 _ _ _ j
  have c0:=fI j
  have v0:=af _ _ 0 _ _ _ V2
  have b8:=af _ _ 0 _ _ _ T2
  have c2:=fI V2
  have c3:=fI T2
  have a2:=af _ _ 0 _ _ _ ap
  have g0:=af _ _ 0 _ _ _ av
  have c4:=fI ap
  have c5:=fI av
  have S:=ae aE
  have bk:=ae bi
  clear aE j V2 T2 ap av bi t2
  obtain ⟨V,hV⟩:∃ V,V=P.a.V:=⟨_,rfl⟩
  have HV:=ae hV
  have bL:=u.out.tab.v64
  rw [←hV] at c1 bL d
  clear hV
  by_cases h0:v=tv
  ·subst h0
   rw [aw (by omega)] at d
   go_region
   all_goals
    by_cases hle:v≤V
    ·have bN:(v:Int)≤(V:Int):=by omega
     rw [aF hle] at d
     clear hle
     go_wp2
     go_region
     all_goals
      go_wp2_with fail
      refine (oS a h P x G O _ (S.out.below ((Below.rf w2).drew.drew)).ag (by rw [←HV.out];omega)).mono ?_
      rintro e w3 ⟨rfl,hp⟩
      have HG:=ae (gU.pH (M:=M) (S.out.below ((Below.rf w2).drew.drew)) (fun k hk => .inl (E.out k hk)) (Ext.fM (q.out.tn ((Below.rf w2).drew.drew))) hp)
      clear hp
      go_wp2
      go_ret
      unfold im
      rw [d.out]
      exact ⟨HG.out,rfl⟩
    ·have bN:¬(v:Int)≤(V:Int):=by omega
     rw [aw hle] at d
     clear hle
     go_wp2
     go_region
     all_goals
      have C:=s.out.ag.glt
      have D:=s.out.host.lt
      have cb:=s.out.ag.olt
      have c6:=Y.out.size
      have c7:=q.out.size
      have m:=sr H P.lg v T
      have c8:=wz am.out
      have ds:(100:Nat)≤gx:=by unfold gx;omega
      have U:Below w2.heap.size w2 w2.drew.drew:=(Below.rf w2).drew.drew
      have bl:=S.out.below U
      have bn:=uZ a h F G O M H P x (r+1) r v T 148 #[.pointer (some ⟨w.heap.size,0,none⟩),.pointer (some ⟨w1.heap.size,0,none⟩),.pointer (some ⟨w1.heap.size+1,0,none⟩)] (fun _ _=>by kernel_rfl) (fT H P.lg v T) w2.drew.drew bl E.out (bk.out.below U)
       ⟨fun e=>by have:=D _ e;omega,fun e=>by have:=C _ e;omega⟩ ⟨fun e=>by have:=D _ e;omega,fun e=>by have:=C _ e;omega,fun e=>by have:=cb _ e;omega⟩
       (fun bP=>F6 n B a h w.heap.size w1.heap.size (w1.heap.size+1) (r+1) r v l F G O H P x T w2.drew.drew bl u.out b2.out hB b0 ak (bk.out.below U) (vO bP).2 (by omega) am.out a2 v0 b8
        ⟨⟨fun e=>by have:=D _ e;omega,fun e=>by have:=C _ (e▸s.out.ag.gin.2.2.1);omega⟩,⟨fun e=>by have:=D _ e;omega,fun e=>by have:=C _ (e▸s.out.ag.gin.2.2.1);omega⟩,fun e=>by have:=D _ e;omega,fun e=>by have:=C _ (e▸s.out.ag.gin.2.2.1);omega⟩)
       (by rw [u.out.len];omega) (by omega) (by omega) ⟨by rw [m.1,u.out.dpS];have:=u.out.tab.len;omega,by rw [m.2.1];exact hL,m.2.2⟩ (fun y hy=>by rw [m.1,u.out.dpS] at hy;have:=(u.out.tab.good y hy).small;omega) (fun y hy=>by have:=(am.out y hy).small;omega) u.out.deg ak
      have ce:=ae bn
      clear bn
      go_wp2_with fail
      refine ce.out.mono ?_
      rintro e w6 ⟨rfl,bo⟩
      have HG:=ae (kh.trans (fun k hk=>hk.imp id fun e=>by omega) (Ext.fM (q.out.tn U)) bo)
      clear bo
      go_wp2
      go_ret
      unfold im
      rw [d.out]
      exact ⟨HG.out,rfl⟩
  ·have dv:¬((v:Int)=(tv:Int)):=by omega
   rw [aF h0] at d
   clear h0
   go_region
   all_goals
    go_wp2_with fail
    refine (gE 4 0 _).mono ?_
    rintro e w3 ⟨rfl,a0⟩
    have br:Below w2.heap.size w2 w3:=by rw [a0];exact ((Below.rf w2).drew).alloc (ah _) _
    have bs:w3.heap[w2.drew.heap.size]?=some (.cells #[.int .i64 ((4:Nat):Int),.int .i64 0,.nilIface] 166 (0,0)):=by rw [a0];exact fL w2.drew _
    have bt:=ae br
    have cf:=ae bs
    clear a0 br bs
    go_wp2
    go_ret
    unfold im
    rw [d.out]
    refine ⟨⟨M,⟨F,G,O,x,S.out.below bt.out,E.out⟩,fun k => .inl,(Ext.fM q.out).trans (Ext.fM bt.out)⟩,_,0,rfl,_,rfl,?_,cf.out⟩
    have:=q.out.size
    exact this
end Go.Proofs.YtkkfmkhbdoeglaaGreatDoor
namespace Go.Proofs.YtkkfmkhbdoeglaaGreatDoor
open Go.RowKit Go.Shelf
theorem ui (H:fJ) (P:PAg) (tk:ie):nZ H P tk.V (tk.T P.a.T) (tk.log H P)=jU H P tk:=by
 unfold nZ jU
 cases iq (tk.T P.a.T) H.dp.room H.seen.length with
 | some f=>rfl
 | none =>
  generalize tk.log H P=q
  obtain ⟨H1,g1,r⟩:=q
  cases r <;> rfl
def wF (H:fJ) (P:PAg):AgA×Option ie→fJ×PAg
 | (a1,none)=>(H,{P with a:=a1})
 | (a1,some tk)=>jU H {P with a:=a1} tk
theorem CN (H:fJ) (P:PAg) (frame:List UInt8):iy H P frame=wF H P (P.a.taken frame):=by
 unfold iy wF
 rfl
theorem BF (H:fJ) (P:PAg) (body:List UInt8):Bu (nu H P body)=wF H P (P.a.delta body):=by
 unfold nu AgA.delta
 cases hd:pO body with
 | inr f=>rfl
 | inl y =>
  obtain ⟨v,os⟩:=y
  simp only
  split
  ·rfl
  ·split
   ·rfl
   ·have hw:=hd
    rw [oB] at hw
    obtain ⟨-,b⟩:=uE _ _ _ hw
    rw [←b]
    exact ui H P (.delta v os)
theorem yp (H:fJ) (P:PAg) (tv:Nat) (bytes:List UInt8):Bu (ki H P tv bytes)=wF H P (P.a.lO tv bytes):=by
 unfold ki AgA.lO
 cases hd:iD bytes with
 | inr f=>rfl
 | inl y =>
  obtain ⟨v,T⟩:=y
  simp only
  split
  ·rfl
  ·split
   ·rfl
   ·exact ui H P (.state v T)
theorem EH (H:fJ) (P:PAg) (a0:AgA) (q:AgA×Option ie):wF H {P with a:=a0} q=wF H P q:=by
 obtain ⟨a1,r⟩:=q
 cases r <;> rfl
theorem CG (H:fJ) (P:PAg) (body:List UInt8):Bu (mf H P body)=wF H P (P.a.piece body):=by
 unfold mf AgA.piece
 split
 ·rfl
 ·split
  ·rfl
  ·cases P.a.com with
   | none=>rfl
   | some y =>
    obtain ⟨tv,of,got⟩:=y
    simp only
    split
    ·rfl
    ·split
     ·rfl
     ·rw [yp]
      exact EH _ _ _ _
theorem zI (a:AgA) (body:List UInt8) (k:Nat) (h:(a.gS body).2=some k):(a.gS body).1=a:=by
 unfold AgA.gS at h⊢
 split at h
 ·rename_i c;rw [aF c]
 ·rename_i c1;rw [aw c1]
  split at h
  ·rename_i c;rw [aF c]
  ·rename_i c2;rw [aw c2]
   split at h
   ·rename_i c;rw [aF c]
   ·rename_i c3;rw [aw c3]
    split at h
    ·rename_i c;rw [aF c]
    ·split at h <;> cases h
def sZ (H:fJ) (P:PAg) (frame:List UInt8):(fJ×PAg)×Option Nat:=match gX frame with
 | .inl (_,body)=>mf H P body
 | .inr _=>((H,P),none)
theorem FU (H:fJ) (P:PAg) (frame:List UInt8):ue H P frame (sZ H P frame)=iy H P frame:=by
 rw [CN]
 unfold ue zd AgA.taken sZ
 split
 ·rfl
 ·cases hu:gX frame with
  | inr f=>rfl
  | inl y =>
   obtain ⟨k,body⟩:=y
   simp only
   by_cases d:k=1
   ·rw [aF d,aF d];exact BF H P body
   ·rw [aw d,aw d]
    by_cases i:k=2
    ·rw [aF i,aF i]
     by_cases b:body=[]
     ·rw [aF b,aF b,aF b];rfl
     ·rw [aw b,aw b,aw b];rfl
    ·rw [aw i,aw i]
     by_cases l:k=3
     ·rw [aF l,aF l,EY]
      have hq:=zI P.a body
      generalize P.a.gS body=q at hq
      obtain ⟨a1,r⟩:=q
      cases r with
      | none=>rfl
      | some j =>
       obtain rfl:a1=P.a:=hq j rfl
       rfl
     ·rw [aw l,aw l]
      by_cases m:k=4
      ·rw [aF m,aF m];exact CG H P body
      ·rw [aw m,aw m];rfl
theorem CF (H:fJ) (P:PAg) (body:List UInt8) (b:P.a.Fit) (k:Nat) (h:(mf H P body).2=some k):k<256∧(mf H P body).1.2.a.V<18446744073709551616:=by
 have d:=b.v
 have arr:∀ (P':PAg) tv bytes k,P'.a.V=P.a.V→(ki H P' tv bytes).2=some k→k<256∧(ki H P' tv bytes).1.2.a.V<18446744073709551616:=by
  intro P' tv bytes k i h
  unfold ki at h⊢
  cases hd:iD bytes with
  | inr f =>
   obtain ⟨f1,f2⟩:=f
   rw [hd] at h
   cases h
   have:=zU hd
   exact ⟨by omega,by show P'.a.V<_;omega⟩
  | inl y =>
   obtain ⟨v,T⟩:=y
   rw [hd] at h
   simp only at h⊢
   split at h
   ·rename_i c
    rw [aF c]
    cases h
    exact ⟨by omega,by show P'.a.V<_;omega⟩
   ·split at h <;> cases h
 unfold mf at h⊢
 split at h
 ·rename_i c;rw [aF c];cases h;exact ⟨by omega,by show P.a.V<_;omega⟩
 ·rename_i c1
  rw [aw c1]
  split at h
  ·rename_i c;rw [aF c];cases h;exact ⟨by omega,by show P.a.V<_;omega⟩
  ·rename_i c2
   rw [aw c2]
   cases hc:P.a.com with
   | none=>rw [hc] at h;cases h
   | some y =>
    obtain ⟨tv,of,got⟩:=y
    rw [hc] at h
    simp only at h⊢
    split at h
    ·cases h
    ·rename_i c3
     rw [aw c3]
     split at h
     ·cases h
     ·rename_i c4
      rw [aw c4]
      exact arr _ _ _ _ rfl h
theorem AgAt.Gy {w:World} {G O:Nat→Prop} {a h:Nat} {P:PAg} {x:AV} (ha:AgAt w G O a h P x) (b:P.a.com=none):x.cp = .pointer none:=by
 have:=ha.com
 rw [b] at this
 exact this
theorem AgAt.E2 {w:World} {G O:Nat→Prop} {a h:Nat} {P:PAg} {x:AV} {tv of:Nat} {got:List (List UInt8)} (ha:AgAt w G O a h P x) (d:P.a.com=some (tv,of,got)):∃ b bv,x.cp = .pointer (some ⟨b,0,none⟩)∧G b∧w.heap[b]?=some (.cells #[.int .u64 (tv:Nat),.int .i64 (of:Nat),.int .i64 (got.length:Nat),bv] 214 (0,0))∧OwnS w 0 1 bv got.flatten.length (u8s got.flatten)∧CellsOf w bv 5∧∀ k,bv.ownBlock=some k→G k:=by
 have:=ha.com
 rw [d] at this
 exact this
theorem im.trans {w w1 w':World} {M b:Nat→Prop} {a h:Nat} {R:(fJ×PAg)×Option Nat} {e:Ending} (h2:∀ k,b k→M k∨w.heap.size≤k) (h3:Ext M w w1) (hs:im w1 b a h R e w'):im w M a h R e w':=by
 obtain ⟨i,d⟩:=hs
 refine ⟨kh.trans h2 h3 i,?_⟩
 obtain ⟨R,r⟩:=R
 cases r with
 | none=>exact d
 | some k =>
  obtain ⟨ev,p,j,g,l,m,o⟩:=d
  exact ⟨ev,p,j,g,l,aI h3.size m,o⟩
theorem AgAt.FT {w w':World} {G G' O:Nat→Prop} {a h i:Nat} {P:PAg} {x:AV} {j:Value} {C:Array Value} {fz:Nat×Nat} {m:Option (Nat×Nat×List (List UInt8))} (ha:AgAt w G O a h P x) (D:w.heap[i]?=some (.cells C 214 fz)) (E:CellsOf w j 5) (F:G i) (I:∀ k,j.ownBlock=some k→G k)
  (d:Ext (fun k=>k=i∨j.ownBlock=some k) w w') (l:∀ k,G k→G' k) (B:∀ k,G' k→k<w'.heap.size∧¬O k) (hc:ComP w' G' x.cp m):AgAt w' G' O a h {P with a := {P.a with com:=m}} x:=by
 have y:∀ k,(k=i∨j.ownBlock=some k)→G k∧∃ C fz,w.heap[k]?=some (.cells C 214 fz)∨w.heap[k]?=some (.cells C 5 fz):=fun k hk=>by
  rcases hk with rfl | hk
  ·exact ⟨F,C,fz,.inl D⟩
  ·obtain ⟨o,b,M⟩:=E k hk
   exact ⟨I k hk,o,b,.inr M⟩
 have q:∀ k o T b,w.heap[k]?=some (Obj.cells o T b)→T≠214→T≠5→¬(k=i∨j.ownBlock=some k):=fun k o T b hk N Q hd=>by
  obtain ⟨-,J,f2,h2 | h2⟩:=y k hd
  ·exact iM hk h2 N rfl
  ·exact iM hk h2 Q rfl
 obtain ⟨s,r,vals,h1,-⟩:=ha.out
 have u:=ha.log
 unfold LogAt at u
 refine ⟨d.at (q a _ _ _ ha.row (by decide) (by decide)) ha.row,ha.tab.fW (d.block _ ha.tab.lt fun e => ?_),d.at (q _ _ _ _ u (by decide) (by decide)) u,ha.out.frame d (fun e => ?_) fun k hk e=>ha.sep k (y k e).1 hk,(ha.flt.frame d fun k o R _ hk => ?_).mono l,hc,⟨l _ ha.gin.1,l _ ha.gin.2.1,l _ ha.gin.2.2.1,l _ ha.gin.2.2.2⟩,fun k hk=>(B k hk).1,fun k hk=>aC (ha.olt k hk) d.size,fun k hk=>(B k hk).2⟩
 ·obtain ⟨-,J,f2,h2 | h2⟩:=y _ e
  ·exact ha.tab.jQ h2 rfl
  ·exact ha.tab.jQ h2 rfl
 ·obtain ⟨-,J,f2,h2 | h2⟩:=y _ e
  ·exact mY h1 h2 rfl
  ·exact mY h1 h2 rfl
 ·rcases hk with hk | hk <;> exact q k _ _ _ hk (by decide) (by decide)
theorem gU.FT {w w':World} {F G G' O:Nat→Prop} {a h j:Nat} {H:fJ} {P:PAg} {x:AV} {l:Value} {C:Array Value} {fz:Nat×Nat} {m:Option (Nat×Nat×List (List UInt8))} (hm:gU w F G O a h H P x) (o:w.heap[j]?=some (.cells C 214 fz)) (q:CellsOf w l 5) (d:G j) (i:∀ k,l.ownBlock=some k→G k)
  (r:Ext (fun k=>k=j∨l.ownBlock=some k) w w') (s:∀ k,G k→G' k) (b:∀ k,G' k→k<w'.heap.size∧¬O k∧¬F k) (hc:ComP w' G' x.cp m):gU w' F G' O a h H {P with a := {P.a with com:=m}} x :=
 ⟨hm.host.ext r fun k hk e=>hm.fg k hk (e.elim (fun e=>e▸d) (i k)),hm.ag.FT o q d i r s (fun k hk=>⟨(b k hk).1,(b k hk).2.1⟩) hc,fun k hk u=>(b k u).2.2 hk,hm.fo⟩
theorem gU.ended {w w':World} {F G O:Nat→Prop} {a h:Nat} {H:fJ} {P:PAg} {x:AV} (hm:gU w F G O a h H P x) (b:Ext (fun j=>j=a) w w') (d:w'.heap[a]?=some (.cells (AV.cells {x with cp := .pointer none} P.a.V h) 117 (0,0))):gU w' F G O a h H {P with a := {P.a with com:=none}} {x with cp := .pointer none} :=
 ⟨hm.host.ext b fun k hk e=>hm.fg k hk (e▸hm.ag.gin.1),hm.ag.oq b d rfl rfl rfl rfl rfl rfl (fun _k=>id) (fun k hk=>⟨aC (hm.ag.glt k hk) b.size,hm.ag.sep k hk⟩) (hm.ag.uG b) rfl,hm.fg,hm.fo⟩
theorem ShapesVar.ext {S:Nat→Prop} {w w':World} (h:ShapesVar w) (b:Ext S w w') (d:∀ k,S k→2≤k):ShapesVar w':=h.fW b.size (b.block _ (fP h.c0) fun e=>absurd (d _ e) (by decide))
theorem BV (got:List (List UInt8)) (h:∀ s∈got,s.length≤64) (hl:got.length≤100):got.flatten.length≤100000:=by
 have key:∀ l:List (List UInt8),(∀ s∈l,s.length≤64)→l.flatten.length≤64*l.length:=by
  intro l
  induction l with
  | nil=>intro _;simp
  | cons s l ih =>
   intro h
   have h1:=ih fun t b=>h t (by simp [b])
   have h2:=h s (by simp)
   rw [List.flatten_cons,ar,au]
   omega
 have:=key got h
 omega
theorem zC (n B a h base:Nat) (l:List Int) (F G O M:Nat→Prop) (H:fJ) (P:PAg) (x:AV) (bv:Value) (body:List UInt8) (w:World) (hm:gU w F G O a h H P x) (hM:∀ k,F k∨G k∨O k→M k) (hu:UpAg n l H P) (a4:P.a.Fit) (hn:32≤n∧n≤128) (bD:HostOk H B) (hB:B≤800000000) (cp:P.lg.stamp<8999999999999999999) (hL:H.dp.log.length≤7500000000000)
  (hb:OwnS w base 1 bv body.length (u8s body)) (eg:body.length≤gx) (bH:ShapesVar w) (bI:∀ k,M k→2≤k) :
  Calls Tryz.prog 84 #[.pointer (some ⟨a,0,none⟩),bv] w (im w M a h (mf H P body)):=by
 have Q:=hb.bytes
 obtain ⟨ba,fr,rfl,-,-⟩:=Q.opened
 have S:=hm.ag.row
 unfold AV.cells rO at S
 have fp:=af _ _ 6 _ _ _ S
 have z6:=ao _ _ 6 _ _ S
 have ej:=fI S
 have el:gx≤1000000000000000000:=by decide
 have d4:1000000≤gx:=by decide
 have q:=ae hm
 have D:=ae hM
 have HU:=ae hu
 have bL:=ae a4
 have cs:=ae bD
 have ct:=ae bH
 have bM:=ae Q
 obtain ⟨R,hR⟩:∃ R,R=mf H P body:=⟨_,rfl⟩
 have HR:=ae hR
 rw [←hR]
 clear hm hM hu a4 bD bH hb hR S Q
 by_cases h1:body.length<2
 ·have cu:(body.length:Int)-1<1:=by omega
  have i:Hid (R=((H,P),some 1)):=ae (by rw [HR.out];unfold mf;rw [aF h1])
  clear h1
  go_enter Tryz.func84,Tryz.ntmps84
  go_wp2_with fail
  refine (gE 1 0 w).mono ?_
  rintro e w3 ⟨rfl,rfl⟩
  go_wp2
  go_ret
  unfold im
  rw [i.out]
  have ab:Below w.heap.size w (w.alloc (.cells #[.int .i64 1,.int .i64 0,.nilIface] 166)):=(Below.rf w).alloc (ah _) _
  exact ⟨⟨M,⟨F,G,O,x,q.out.below ab,D.out⟩,fun k => .inl,Ext.fM ab⟩,_,0,rfl,iT.new w _ 1 0 (ah _)⟩
 ·have cu:¬(body.length:Int)-1<1:=by omega
  by_cases h2:65<body.length
  ·have cv:(64:Int)<(body.length:Int)-1:=by omega
   have i:Hid (R=((H,P),some 2)):=ae (by rw [HR.out];unfold mf;rw [aw h1,aF h2])
   clear h1 h2
   go_enter Tryz.func84,Tryz.ntmps84
   go_wp2_with fail
   refine (gE 2 0 w).mono ?_
   rintro e w3 ⟨rfl,rfl⟩
   go_wp2
   go_ret
   unfold im
   rw [i.out]
   have ab:Below w.heap.size w (w.alloc (.cells #[.int .i64 2,.int .i64 0,.nilIface] 166)):=(Below.rf w).alloc (ah _) _
   exact ⟨⟨M,⟨F,G,O,x,q.out.below ab,D.out⟩,fun k => .inl,Ext.fM ab⟩,_,0,rfl,iT.new w _ 2 0 (ah _)⟩
  ·have cv:¬(64:Int)<(body.length:Int)-1:=by omega
   cases hc:P.a.com with
   | none =>
    have ak:=q.out.ag.Gy hc
    rw [ak] at fp
    have i:Hid (R=((H,{P with a:=P.a.jb}),none)):=ae (by rw [HR.out];unfold mf;rw [aw h1,aw h2,hc])
    have hv:=bL.out.v
    clear h1 h2 hc ak
    go_enter Tryz.func84,Tryz.ntmps84
    go_wp2_with fail
    refine (kI a h P x G O w q.out.ag (by omega)).mono ?_
    rintro e w3 ⟨rfl,hp⟩
    have HG:=ae (gU.pH (M:=M) q.out (fun k hk => .inl (D.out k hk)) (Ext.refl M w) hp)
    clear hp
    go_wp2
    go_ret
    unfold im
    rw [i.out]
    exact ⟨HG.out,rfl⟩
   | some y =>
    obtain ⟨tv,of,got⟩:=y
    obtain ⟨d,gv,ak,a9,E,a0,bN,bO⟩:=q.out.ag.E2 hc
    obtain ⟨k1,k2,k3,k4⟩:=bL.out.com tv of got hc
    obtain ⟨X,hX⟩:∃ X,X=got.flatten:=⟨_,rfl⟩
    rw [←hX] at a0
    have bP:=ae hX
    clear hX
    obtain ⟨ga,gc,rfl⟩:=a0.shape
    rw [ak] at fp
    have g0:=af _ _ 0 _ _ _ E
    have g1:=af _ _ 1 _ _ _ E
    have g2:=af _ _ 2 _ _ _ E
    have g3:=af _ _ 3 _ _ _ E
    have y2:=ao _ _ 2 _ _ E
    have y3:=ao _ _ 3 _ _ E
    have d7:=fI E
    obtain ⟨em,en,cB,c0,bS⟩:=bM.out.opened
    cases cB
    obtain ⟨b0,b,rfl⟩:∃ b0 b,body=b0::b:=by
     cases body with
     | nil=>simp at h1
     | cons b0 b=>exact ⟨b0,b,rfl⟩
    obtain ⟨tb,er,rfl,t0⟩:=bS 0 (by simp)
    simp only [cn,cC] at t0
    have i:Hid (R=if b0.toNat≠got.length then ((H,{P with a:=P.a.jM}),none) else if got.length+1<of then ((H,{P with a:=AgA.jM {P.a with com:=some (tv,of,got++[b])}}),none) else ki H {P with a := {P.a with com:=none}} tv (got++[b]).flatten):=ae (by rw [HR.out];unfold mf;rw [aw h1,aw h2,hc];rfl)
    have bb:=ae E
    have c1:=ae hc
    have c2:=ae a0
    have a1:=ae bN
    have bc:=ae bO
    have hlen:(b0::b).length=b.length+1:=rfl
    have c3:=b0.toNat_lt
    clear E a0 bN bO h1 h2 HR bS
    generalize (b0::b).length=bl at *
    obtain ⟨bn,bi⟩:∃ bn,bn=b0.toNat:=⟨_,rfl⟩
    have eC:=ae bi
    rw [←bi] at t0 c3 i
    clear bi
    by_cases U:bn=got.length
    ·have q1:((bn:Int)==(got.length:Int))=true:=by rw [U];exact eZ _
     have c4:(bn:Int)=(got.length:Int):=by omega
     rw [aw (by omega)] at i
     clear U
     go_enter Tryz.func84,Tryz.ntmps84
     go_upto_region 10 with fail
     go_region
     all_goals
      go_upto_region 11 with fail
      have d9:¬fr=1:=by omega
      have eb:(1:Int)≤(b.length:Int)+1:=by omega
      have ce:=ae (BytesAt.right (x:=[b0]) (y:=b) bM.out)
      have eD:X.length≤100000:=by rw [bP.out];exact BV got k4 (by omega)
      clear c0
      go_region_law
       ((first
         | (refine lj rfl (.tmp 43) (.tmp 45) 59 5 1 1 (.int .u8 0) Tryz.underlying59 p7 rfl (by decide) rfl 0 (.slice ga X.length gc) X.length (u8s X) rfl (by exact c2.out) (by exact a1.out) b.length (u8s b) (by exact ce.out) (oc b) (by omega) (by omega) (aL _) ?_;intro v7 w7 N bk Z bX;rw [←jV] at N;
            obtain ⟨m,o,rfl⟩:=N.shape;
            have V:=ae (iJ bk (a1.out.ne bb.out (by decide)) bb.out);
            have c5:w7.cell? ⟨d,3,none⟩=some (.slice ga X.length gc):=af _ _ 3 _ _ _ V.out;
            have c6:=ao _ _ 3 _ _ V.out;have c7:=fI V.out)))
      all_goals
       have I:(w7.setCell ⟨d,3,none⟩ (.slice m (X.length+b.length) o)).heap[d]?=some (.cells #[.int .u64 (tv:Nat),.int .i64 (of:Nat),.int .i64 (got.length:Nat),.slice m (X.length+b.length) o] 214 (0,0)):=heap_setCell _ _ 3 _ V.out
       have bo:Ext (fun k=>k=d∨(Value.slice ga X.length gc).ownBlock=some k) w (w7.setCell ⟨d,3,none⟩ (.slice m (X.length+b.length) o)):=((Ext.fM ((Below.rf w).drew.drew)).trans (Ext.mono (oi (w:=w.drew.drew) bk) fun k e=>(.inr e:k=d∨(Value.slice ga X.length gc).ownBlock=some k))).setCell ⟨d,3,none⟩ _ (.inl (.inl rfl))
       have br:OwnS (w7.setCell ⟨d,3,none⟩ (.slice m (X.length+b.length) o)) 0 1 (.slice m (X.length+b.length) o) (X.length+b.length) (u8s (X++b)):=N.frame (by rw [size_setCell];exact ah _) fun k e _=>Below.heap_setCell w7 ⟨d,3,none⟩ _ k fun u=>by
        obtain ⟨C,fz,hC⟩:=Z k e
        exact iM hC V.out (by decide) u
       have ap:CellsOf (w7.setCell ⟨d,3,none⟩ (.slice m (X.length+b.length) o)) (.slice m (X.length+b.length) o) 5:=Z.frame fun k e _=>Below.heap_setCell w7 ⟨d,3,none⟩ _ k fun u=>by
        obtain ⟨C,fz,hC⟩:=Z k e
        exact iM hC V.out (by decide) u
       have b1:∀ k,(Value.slice m (X.length+b.length) o).ownBlock=some k→(Value.slice ga X.length gc).ownBlock=some k∨w.heap.size≤k:=fun k e=>(bX k e).imp id fun e=>by have u:k=w.heap.size:=e;omega
       generalize w7.setCell ⟨d,3,none⟩ (.slice m (X.length+b.length) o)=w8 at *
       have eS:=ae I
       have c8:=ae bo
       have c9:=ae br
       have da:=ae ap
       have b2:=ae b1
       have eT:=af _ _ 2 _ _ _ I
       have eV:=ao _ _ 2 _ _ I
       have g18:=af _ _ 1 _ _ _ I
       have e0:=fI I
       have dc:IntKind.i64.wrap ((got.length:Int)+1)=(got.length:Int)+1:=by rw [show ((got.length:Int)+1)=((got.length+1:Nat):Int) by omega];exact IntWalk.i64_in _ (by omega)
       have W:(w8.setCell ⟨d,2,none⟩ (.int .i64 ((got.length:Int)+1))).heap[d]?=some (.cells #[.int .u64 (tv:Nat),.int .i64 (of:Nat),.int .i64 ((got.length:Int)+1),.slice m (X.length+b.length) o] 214 (0,0)):=heap_setCell _ _ 2 _ I
       have av:=bo.setCell ⟨d,2,none⟩ (.int .i64 ((got.length:Int)+1)) (.inl (.inl rfl))
       have aE:=br.frame (w':=w8.setCell ⟨d,2,none⟩ (.int .i64 ((got.length:Int)+1))) (by rw [size_setCell];exact ah _) fun k e _=>Below.heap_setCell w8 ⟨d,2,none⟩ _ k fun u=>by
        obtain ⟨C,fz,hC⟩:=ap k e
        exact iM hC I (by decide) u
       have b3:=ap.frame (w':=w8.setCell ⟨d,2,none⟩ (.int .i64 ((got.length:Int)+1))) fun k e _=>Below.heap_setCell w8 ⟨d,2,none⟩ _ k fun u=>by
        obtain ⟨C,fz,hC⟩:=ap k e
        exact iM hC I (by decide) u
       clear I bo br ap b1 N bk Z bX c5 c6 c7
       go_upto_region 13 with fail
       generalize dk:w8.setCell ⟨d,2,none⟩ (.int .i64 ((got.length:Int)+1))=J at *
       have e1:=af _ _ 2 _ _ _ W
       have g19:=af _ _ 1 _ _ _ W
       have e2:=fI W
       have b4:=ae W
       have a2:X++b=(got++[b]).flatten:=by rw [bP.out,List.flatten_append,List.flatten_cons,List.flatten_nil,cN]
       have bs:X.length+b.length=(got++[b]).flatten.length:=by rw [←a2,ar]
       have b5:=q.out.ag.glt
       have dl:=q.out.host.lt
       have dn:=q.out.ag.olt
       have Y:Hid (gU J F (fun k=>G k∨(w.heap.size≤k∧k<J.heap.size)) O a h H {P with a := {P.a with com:=some (tv,of,got++[b])}} x):=ae (by
        refine q.out.FT bb.out a1.out a9 bc.out av (fun k => .inl) (fun k hk => ?_) ?_
        ·rcases hk with hk | hk
         ·have:=b5 k hk
          exact ⟨aC this av.size,q.out.ag.sep k hk,fun e=>q.out.fg k e hk⟩
         ·exact ⟨hk.2,fun e=>by have:=dn k e;omega,fun e=>by have:=dl k e;omega⟩
        ·refine ⟨d,.slice m (X.length+b.length) o,ak,.inl a9,?_,?_,b3,fun k e => ?_⟩
         ·rw [W]
          simp
         ·rw [a2,bs] at aE
          rw [bs]
          exact aE
         ·rcases b2.out k e with u | u
          ·exact .inl (bc.out k u)
          ·exact .inr ⟨u,aE.gZ k e⟩)
       have bt:=ae (show Ext M w J from av.mono fun k e=>D.out k (.inr (.inl (e.elim (fun e=>e▸a9) (bc.out k)))))
       have b6:=ae aE
       have ds:=ae a2
       have e3:=ae av.size
       have b7:Hid (∀ k,F k∨(G k∨(w.heap.size≤k∧k<J.heap.size))∨O k→M k∨w.heap.size≤k):=ae fun k hk=>by
        rcases hk with hk | (hk | hk) | hk
        ·exact .inl (D.out k (.inl hk))
        ·exact .inl (D.out k (.inr (.inl hk)))
        ·exact .inr hk.1
        ·exact .inl (D.out k (.inr (.inr hk)))
       clear W av aE b3 dk a2 bs c9 da c8 dc
       by_cases a3:got.length+1<of
       ·have cf:(got.length:Int)+1<(of:Int):=by omega
        rw [aF a3] at i
        clear a3
        go_region
        all_goals
         go_wp2_with fail
         refine (pS a h _ x _ O _ (Y.out.below ((Below.rf J).drew)).ag tv of (got++[b]) rfl (by rw [ar,dt];omega)).mono ?_
         rintro e e4 ⟨rfl,hp⟩
         have HG:=ae (gU.pH (M:=M) (Y.out.below ((Below.rf J).drew)) b7.out (bt.out.trans (Ext.fM ((Below.rf J).drew))) hp)
         clear hp
         go_wp2
         go_ret
         unfold im
         rw [i.out]
         exact ⟨HG.out,rfl⟩
       ·have cf:¬(got.length:Int)+1<(of:Int):=by omega
        rw [aw a3] at i
        clear a3
        have b8:=Y.out.below ((Below.rf J).drew)
        have s:=b8.ag.row
        have ec:=ae s
        unfold AV.cells rO at s
        have e5:=af _ _ 6 _ _ _ s
        have f69:=ao _ _ 6 _ _ s
        have ed:=fI s
        clear b8 s
        go_region
        all_goals
         have r:Ext (fun j=>j=a) J (J.setCell ⟨a,6,none⟩ (.pointer none)).drew:=((Ext.refl (fun j=>j=a) J).setCell ⟨a,6,none⟩ (.pointer none) (.inl rfl)).drew
         have bw:=Y.out.ended r (heap_setCell _ _ 6 _ Y.out.ag.row)
         have U:d≠a:=fun e=>iM b4.out Y.out.ag.row (by decide) e
         have bx:UpAg n l H {P with a := {P.a with com:=none}} := ⟨HU.out.disk,HU.out.dpS,HU.out.room,HU.out.tab,HU.out.deg⟩
         have Q:BytesAt (J.setCell ⟨a,6,none⟩ (.pointer none)).drew (.slice m (X.length+b.length) o) (X++b):=(b6.out.frame r.size fun k e hk=>r.block k hk fun u=>by
          have u:k=a:=u
          rcases b2.out k e with h' | h'
          ·obtain ⟨C,fz,hC⟩:=a1.out k h'
           exact iM hC q.out.ag.row (by decide) u
          ·have:=b5 a q.out.ag.gin.1
           omega).bytes
         have dv:=ae (wM n B a h d l F _ O (fun k=>M k∨w.heap.size≤k) H {P with a := {P.a with com:=none}} _ _ _ _ tv (X++b) _ bw b7.out bx hn cs.out hB cp hL (r.at U b4.out) Q (fun k e=>by have h':=Q;have:=b6.out.gZ k e;exact aC this r.size) (by rw [ar];omega) ((ct.out.ext bt.out bI).ext r fun k e=>e▸bI a (D.out a (.inr (.inl q.out.ag.gin.1)))) k3)
         have cl:=ae (bt.out.trans (r.mono fun k e=>D.out k (.inr (.inl (e▸q.out.ag.gin.1)))))
         clear r bw bx Q
         go_wp2_with fail
         refine dv.out.mono ?_
         rintro e e6 bz
         obtain ⟨ev,rfl⟩:=bz.ev
         have dT:=ae (im.trans (fun k hk=>hk) cl.out bz)
         clear bz
         go_wp2
         go_ret
         rw [i.out,←ds.out]
         exact dT.out
    ·have q1:((bn:Int)==(got.length:Int))=false:=aD.2 (by omega)
     have c4:¬(bn:Int)=(got.length:Int):=by omega
     have q2:(got.length:Int)<(of:Int):=by omega
     rw [aF U] at i
     clear U
     go_enter Tryz.func84,Tryz.ntmps84
     go_upto_region 10 with fail
     go_region
     all_goals
      go_wp2
      go_region
      all_goals
       go_wp2_with fail
       refine (pS a h P x G O _ (q.out.below ((Below.rf w).drew.drew)).ag tv of got c1.out (by omega)).mono ?_
       rintro e w3 ⟨rfl,hp⟩
       have HG:=ae (gU.pH (M:=M) (q.out.below ((Below.rf w).drew.drew)) (fun k hk => .inl (D.out k hk)) (Ext.fM ((Below.rf w).drew.drew)) hp)
       clear hp
       go_wp2
       go_ret
       unfold im
       rw [i.out]
       exact ⟨HG.out,rfl⟩
theorem yo (n B a h:Nat) (l:List Int) (F G O M:Nat→Prop) (H:fJ) (P:PAg) (x:AV) (bv:Value) (frame:List UInt8) (w:World) (hm:gU w F G O a h H P x) (q:∀ k,F k∨G k∨O k→M k) (hu:P.a.deg=none→UpAg n l H P) (d:P.a.Fit) (r:32≤n∧n≤128) (i:HostOk H B) (s:B≤800000000) (j:P.lg.stamp<8999999999999999999) (u:H.dp.log.length≤7500000000000)
  (J:BytesAt w bv frame) (C:frame.length≤gx) (m:ShapesVar w) (D:ErrVar w) (o:∀ k,M k→2≤k) :
  Calls Tryz.prog 44 #[.pointer (some ⟨a,0,none⟩),bv] w fun e w'=>e = .returned (.tuple #[])∧kh w M a h (iy H P frame).1 (iy H P frame).2 w':=by
 rw [←FU]
 refine wN n B a h l F G O M H P x bv frame (sZ H P frame) w hm q hu r i s j u J C m D d.v o (fun body W v' hd b E N => ?_) fun k hk => ?_
 ·have hl:=wG b
  rw [show sZ H P frame=mf H P body by unfold sZ;rw [b]]
  refine (zC n B a h w.heap.size l F G O M H P x v' body W (hm.below E) q (hu hd) d r i s j u N (by omega) (m.new E) o).mono ?_
  intro e w' I
  exact I
 ·unfold sZ at hk⊢
  cases b:gX frame with
  | inr f=>rw [b] at hk;cases hk
  | inl y =>
   rw [b] at hk
   exact CF H P y.2 d k hk
end Go.Proofs.YtkkfmkhbdoeglaaGreatDoor
