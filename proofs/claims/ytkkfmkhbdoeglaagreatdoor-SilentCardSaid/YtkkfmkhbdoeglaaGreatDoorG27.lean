/- A part of what is proved here: lemmas and contracts of single functions. No condition but those that each names. -/
import Derived.Test.YtkkfmkhbdoeglaaGreatDoorG00
import Derived.Test.YtkkfmkhbdoeglaaGreatDoorG23
set_option maxHeartbeats 4000000
set_option maxRecDepth 100000
namespace Go.Proofs.YtkkfmkhbdoeglaaGreatDoor
open Go.RowKit
def qv (l:List UInt8) (w:World) (e:Ending) (w':World):Prop :=
 Below w.heap.size w w'∧match im l with
  | .inl (n,S)=>∃ r,e = .returned (.tuple #[.int .u64 n,.pointer (some ⟨r+1,0,none⟩),.nilIface])∧EntAt w' (r+1) 0 r S∧w.heap.size≤r
  | .inr (k,p)=>∃ ev,e = .returned (.tuple #[.int .u64 0,.pointer none,ev])∧iJ w' w.heap.size ev k p
theorem Ff {c:Cu} (h:c.ended.f=none):c.f=none:=by
 obtain ⟨l,a,t,f⟩:=c
 cases f with
 | some f=>simp [Cu.ended] at h
 | none=>rfl
theorem zX (a b:Nat) (ha:a<65536) (d:b<65536):bits .or .i64 (a:Int) (b:Int)=((a ||| b:Nat):Int):=by
 have i:a ||| b<2^16:=Nat.or_lt_two_pow (by omega) (by omega)
 have key:∀ x:Nat,x<65536→(BitVec.ofInt 64 (x:Int)).toNat=x:=fun x i=>by
  rw [BitVec.ofInt_natCast,BitVec.toNat_ofNat];exact Nat.mod_eq_of_lt (by omega)
 show IntKind.i64.wrap ((BitVec.ofInt 64 (a:Int) ||| BitVec.ofInt 64 (b:Int)).toNat:Int)=_
 rw [BitVec.toNat_or,key a ha,key b d]
 exact IntWalk.i64_in _ (by omega)
theorem Ew (x y:UInt8):bits BinOp.or IntKind.i64 ((x.toNat:Int)*256) (y.toNat:Int)=((x.toNat*256+y.toNat:Nat):Int):=by
 have h1:=x.toNat_lt
 have h2:=y.toNat_lt
 have j:x.toNat*256 ||| y.toNat=x.toNat*256+y.toNat:=nat_join 8 _ _ (by omega) (by omega)
 rw [show ((x.toNat:Int)*256)=((x.toNat*256:Nat):Int) by omega,zX _ _ (by omega) (by omega),j]
def AllEnd (w5:World) (base c r Bl n:Nat) (C:Cu) (W:World):Prop :=
 ∃ cu last S,(gY n C (-1,[]) []).1=cu∧(cu.f=none→(gY n C (-1,[]) []).2=S)∧j8 w5 base c r Bl cu last S W
def Gj (w5:World) (base c r Bl n:Nat) (C:Cu) (i:Value) (W:World):Prop :=
 ∃ m cu last S,m≤n∧i = .int .i64 ((m:Nat):Int)∧gY n C (-1,[]) []=gY m cu last S∧j8 w5 base c r Bl cu last S W
theorem qe (v:Value) (l:List UInt8) (w:World) (hv:BytesAt w v l) (f0:∀ b,v.ownBlock=some b→b<w.heap.size) (hl:l.length≤fX) (kr:ShapesVar w) :
  Calls Tryz.prog 111 #[v] w (qv l w):=by
 obtain ⟨va,N,rfl,-,-⟩:=hv.opened
 have e4:=kr.two
 have HG:=ab kr
 have f1:Below w.heap.size w (w.alloc (.cells #[.slice va l.length N,.int .i64 0,.int .i64 0,.pointer none] 211)):=(Below.refl _ w).alloc (af _) _
 have d5:BytesAt (w.alloc (.cells #[.slice va l.length N,.int .i64 0,.int .i64 0,.pointer none] 211)) (.slice va l.length N) l:=hv.below f1
 have f2:Hid (CurAt (w.alloc (.cells #[.slice va l.length N,.int .i64 0,.int .i64 0,.pointer none] 211)) w.heap.size w.heap.size ⟨l,0,0,none⟩) :=
  ab ⟨aK _,af _,hl,af _,.slice va l.length N,none,fA w _,d5,fun b kE=>f0 b kE,rfl⟩
 clear d5 kr
 obtain ⟨a,kw⟩:∃ a,a=Cu.take ⟨l,0,0,none⟩ 8:=⟨_,rfl⟩
 have HA:=ab kw
 clear kw
 go_enter Tryz.func111,Tryz.ntmps111
 go_wp2_with fail
 refine (lL w.heap.size w.heap.size ⟨l,0,0,none⟩ _ f2.out (by simp)).mono ?_
 rintro e w1 ⟨rfl,a7,Y⟩
 rw [←HA.out] at a7⊢
 have f5:w.heap.size+1≤w1.heap.size:=by simpa using Y.size
 have kn:Below w.heap.size w w1:=⟨Y.os,Y.tape,Y.output,by omega,fun k hk=>(Y.block k (by simp;omega) (fun e=>by cases e;omega)).trans (heap_alloc_old _ _ hk)⟩
 obtain ⟨V,ks⟩:∃ V,V=iw a.2:=⟨_,rfl⟩
 have HV:=ab ks
 rw [←ks]
 clear ks
 go_wp2_with fail
 refine (jn V _).mono ?_
 rintro e w2 ⟨rfl,rfl⟩
 go_wp2_with fail
 refine (ig w.heap.size w.heap.size a.1 (isVersionB V) 4 _ a7 (by omega)).mono ?_
 rintro e w2 ⟨rfl,b8,Z⟩
 have f6:=Z.size
 have o:Below w.heap.size w w2:=⟨Z.os.trans kn.os,Z.tape.trans kn.tape,Z.output.trans kn.output,by omega,fun k hk=>(Z.block k (by omega) (fun e=>by cases e;omega)).trans (kn.block k hk)⟩
 obtain ⟨b,kB⟩:∃ b,b=(a.1.ja (isVersionB V) 4).take 2:=⟨_,rfl⟩
 have HB:=ab kB
 clear kB
 go_wp2_with fail
 refine (js w.heap.size w.heap.size _ 2 _ b8 (by omega) (by decide) (by decide)).mono ?_
 rintro e w3 ⟨vv,rfl,bz,-,a9,aa⟩
 rw [←HB.out] at bz a9
 have f8:=aa.size
 have b3:Below w.heap.size w w3:=⟨aa.os.trans o.os,aa.tape.trans o.tape,aa.output.trans o.output,by omega,fun k hk=>(aa.block k (by omega) (fun e=>by cases e;omega)).trans (o.block k hk)⟩
 obtain ⟨x,y,ca⟩:=te (show b.2.length=2 by rw [HB.out,Cu.take_length])
 rw [ca] at bz
 have d6:=ab ca
 obtain ⟨hS,hr,rfl,bD,cb⟩:=bz.opened
 obtain ⟨xb,xo,rfl,bH⟩:=cb 0 (by simp)
 obtain ⟨hT,hV,he,O⟩:=cb 1 (by simp)
 cases he
 simp only [cx,cg,dS] at bH O
 have ba:=fE bH
 have ga:=x.toNat_lt
 have gb:=y.toNat_lt
 simp only [ar,aM] at bD
 clear cb bz ca
 have HT:=ab (nA w3)
 clear a7 b8
 go_wp2_with fail
 refine HT.out.mono ?_
 rintro e Q ⟨rfl,d7,a2,d8⟩
 have ci:=ab d7
 have gc:=ab d8
 have cl:=(a2.cell (p:=⟨xb,xo,none⟩) ba).trans bH
 have co:=(a2.cell (p:=⟨xb,xo+1,none⟩) ba).trans O
 have bb:xb<Q.heap.size:=by omega
 have e7:w3.heap.size+2≤Q.heap.size:=by omega
 clear d7 d8 bH O HT
 go_wp2_with fail
 generalize bI:Q.alloc (.cells #[.int .i64 (-1),.string ⟨#[]⟩] 94)=w5
 have t5:Below Q.heap.size Q w5:=by rw [←bI];exact (Below.refl _ Q).alloc (af _) _
 have B5:Hid (w5.heap[Q.heap.size]?=some (.cells #[.int .i64 (-1),.string ⟨#[]⟩] 94 (0,0))):=ab (by rw [←bI];exact fA Q _)
 have s5:w5.heap.size=Q.heap.size+1:=by rw [←bI];simp
 clear bI
 have e8:=(t5.cell (p:=⟨xb,xo,none⟩) bb).trans cl
 have e9:=(t5.cell (p:=⟨xb,xo+1,none⟩) bb).trans co
 have fb:xb<w5.heap.size:=by omega
 clear cl co
 obtain ⟨n,kt⟩:∃ n,n=x.toNat*256+y.toNat:=⟨_,rfl⟩
 have gf:bits BinOp.or IntKind.i64 ((x.toNat:Int)*256) (y.toNat:Int)=((n:Nat):Int):=by rw [kt];exact Ew x y
 have hW:n<65536:=by omega
 have HN:=ab kt
 clear kt
 go_quiet (fail)
 have R:Below w.heap.size w (w5.drewN nq):=((b3.tn a2).tn t5).drewN nq
 have cp:CurAt (w5.drewN nq) w.heap.size w.heap.size b.1:=(((a9.fP a2).fP t5).fP ((Below.refl _ w5).drewN nq))
 have ag:Hid (j8 (w5.drewN nq) w.heap.size w.heap.size w3.heap.size Q.heap.size b.1 (-1,[]) [] (w5.drewN nq)) :=
  ab ⟨cp,((ci.out.below t5).tab.fP rfl),((ci.out.below t5).below ((Below.refl _ w5).drewN nq)).cell,B5.out,HG.out.new R,Ext.refl _ _,e4,af _,by omega,by omega,by show _<w5.heap.size;omega⟩
 obtain ⟨W5,d9⟩:∃ W5,W5=w5.drewN nq:=⟨_,rfl⟩
 rw [←d9] at ag R⊢
 obtain ⟨r,kC⟩:∃ r,r=w3.heap.size:=⟨_,rfl⟩
 obtain ⟨Bl,eb⟩:∃ Bl,Bl=Q.heap.size:=⟨_,rfl⟩
 have gl:w.heap.size<r:=by omega
 have HC:Hid (b.2.getD 0 0=x∧b.2.getD 1 0=y):=ab (by rw [d6.out];exact ⟨rfl,rfl⟩)
 rw [←kC,←eb] at ag⊢
 clear d9 kC eb cp e8 e9 gf ci gc d6 a9 B5 ba bb fb s5 Y Z aa kn o b3 a2 t5 f5 f6 f8 e7 bD ga gb
 obtain ⟨base,ap⟩:∃ base,base=w.heap.size:=⟨_,rfl⟩
 rw [←ap] at ag R gl⊢
 have D:=ab ap
 clear ap
 go_upto_block 0 with fail
 go_cut [] from 36 to 104 (fun wx=>AllEnd W5 base base r Bl n b.1 wx)
 case first =>
  go_wp2_with fail
  go_loopw [10] (fun i wr=>Gj W5 base base r Bl n b.1 i wr) (fun i _=>(intOf i).toNat)
  case atStart=>exact ⟨n,b.1,(-1,[]),[],af _,rfl,rfl,ag.out⟩
  case round =>
   clear ag
   obtain ⟨m,cu,last,S,hm,rfl,ec,q⟩:=hrel
   have cr:=ab ec
   clear ec
   by_cases bL:0<m∧cu.f=none
   ·obtain ⟨hX,kl⟩:=bL
    obtain ⟨m',rfl⟩:∃ m',m=m'+1:=⟨m-1,by omega⟩
    have hw:(0:Int)<((m'+1:Nat):Int):=by omega
    have k3:=q.cur.jA kl
    have fg:=q.geo
    have hx:=q.size
    obtain ⟨hY,-,hZ,h0,h3⟩:=fg
    go_wp2_with fail
    refine (js base base cu 1 _ q.cur (by omega) (by decide) (by decide)).mono ?_
    rintro e w6 ⟨v6,rfl,ct,-,cv,ed⟩
    obtain ⟨t,ht⟩:=Cf (show (cu.take 1).2.length=1 by rw [Cu.take_length])
    rw [ht] at ct
    have HT:=ab ht
    clear ht
    have bd:=q.yc ed cv
    have hy:=bd.size
    obtain ⟨h4,hz,rfl,dv,cB⟩:=ct.opened
    obtain ⟨tb,tq,rfl,c0⟩:=cB 0 (by simp)
    simp only [cx,cg] at c0
    have hA:=fE c0
    have h5:=t.toNat_lt
    simp only [ar,aM] at dv
    clear cB ct k3
    go_wp2_with fail
    generalize c3:w6.alloc (.cells #[.int .i64 (t.toNat:Int),.string ⟨#[]⟩] 94)=w7
    have t7:Below w6.heap.size w6 w7:=by rw [←c3];exact (Below.refl _ w6).alloc (af _) _
    have K7:Hid (w7.heap[w6.heap.size]?=some (.cells #[.int .i64 (t.toNat:Int),.string ⟨#[]⟩] 94 (0,0))):=ab (by rw [←c3];exact fA w6 _)
    clear c3 c0
    have U:=bd.fresh t7
    have hB:=U.size
    obtain ⟨W,eg⟩:∃ W,W=w6.heap.size:=⟨_,rfl⟩
    rw [←eg] at K7⊢
    have fl:Bl<W:=by omega
    have gp:W5.heap.size≤W:=by omega
    have hC:W<w7.heap.size:=fw K7.out
    clear eg
    go_wp2_with fail
    refine (ig base base _ (decide ((t.toNat:Int)<3)) 6 _ U.cur (by omega)).mono ?_
    rintro e w8 ⟨rfl,C,a3⟩
    have d:=U.yc a3 C
    have hD:=d.size
    have K8:=ab (U.boxes K7.out (by omega) a3)
    clear cv C bd U ed a3 K7 t7 q
    obtain ⟨c1,O⟩:∃ c1,c1=(cu.take 1).1.ja (decide ((t.toNat:Int)<3)) 6:=⟨_,rfl⟩
    rw [←O] at d
    have bM:=ab O
    clear O
    cases ak:c1.f with
    | some f =>
     obtain ⟨g8,gq⟩:=d.cur.pL (by rw [ak];simp)
     go_wp2_with fail
     go_meet
     have fn:gY n b.1 (-1,[]) []=(c1,S):=by
      rw [cr.out,qd kl (c':=c1)]
      have:=Cl (last:=last) HT.out (f:=f) (by rw [←bM.out];exact ak)
      rw [bM.out]
      exact this
     exact ⟨c1,last,S,by rw [fn],(fun h=>by rw [ak] at h;cases h),d⟩
    | none =>
     have k8:=d.cur.jA ak
     have c4:t.toNat<3:=by
      have:=(qy (bM.out▸ak)).2
      have:=dM this
      omega
     have c5:(t.toNat:Int)<3:=by omega
     have c6:(0:Int)≤t.toNat:=by omega
     have X:=ae _ _ 0 _ _ _ K8.out
     have x1:=ae _ _ 1 _ _ _ K8.out
     have ej:=aj _ _ 1 _ _ K8.out
     have lx:=fw K8.out
     have sk:=BM d.shp t c4
     have sv:=tT d.shp t c4
     go_wp2_with fail
     obtain ⟨o,bN⟩:∃ o,o=c1.take (fB (t.toNat:Int)):=⟨_,rfl⟩
     refine (js base base c1 (fB (t.toNat:Int)) _ d.cur (by omega) (rO _) (AO _)).mono ?_
     rintro e w9 ⟨v9,rfl,bO,-,bi,el⟩
     rw [←bN] at bO bi
     have bk:=d.yc el bi
     have hH:=bk.size
     have K9:=ab (d.boxes K8.out (by omega) el)
     have X:=ae _ _ 0 _ _ _ K9.out
     have x1:=ae _ _ 1 _ _ _ K9.out
     have ej:=aj _ _ 1 _ _ K9.out
     have lx:=fw K9.out
     have h6:o.2.length≤100:=by rw [bN,Cu.take_length];exact rO _
     obtain ⟨h7,hI,rfl,g7,-⟩:=bO.opened
     have fp:=bO.convert
     have gs:=ab bN
     clear bN bi sk sv K8 k8 bO
     go_wp2_with fail
     have bn:w9.grownBy (w9.setCell ⟨W,1,none⟩ (.string ⟨o.2.toArray⟩)) (some W):=grownBy_set (Below.refl _ w9) 1 _
     have J:=bk.Hf K9.out fl (by decide) bn gp
     have al:=ab (heap_setCell w9 W 1 (.string ⟨o.2.toArray⟩) K9.out)
     have d1:=bn.size
     generalize w9.setCell ⟨W,1,none⟩ (.string ⟨o.2.toArray⟩)=h8 at J al d1⊢
     clear bn fp X x1 ej
     have X:=ae _ _ 0 _ _ _ al.out
     have x1:=ae _ _ 1 _ _ _ al.out
     go_wp2_with fail
     refine (nN (t.toNat:Int) o.2 _ J.shp c6 c5 (by unfold fX;omega)).mono ?_
     rintro e h9 ⟨rfl,bo⟩
     have E:=J.fresh bo
     have em:=ab (fy bo (fw al.out) al.out)
     have g9:=E.size
     clear X x1
     go_wp2_with fail
     refine (ig base base _ (gR (t.toNat:Int) o.2) 7 _ E.cur (by omega)).mono ?_
     rintro e en ⟨rfl,bP,br⟩
     have B:=E.yc br bP
     have am:=ab (E.boxes em.out (by omega) br)
     have hb:=B.size
     have X:=ae _ _ 0 _ _ _ am.out
     have x1:=ae _ _ 1 _ _ _ am.out
     have y0:=ae _ _ 0 _ _ _ B.box
     have y1:=ae _ _ 1 _ _ _ B.box
     have lx:=fw am.out
     have ly:=fw B.box
     clear bP
     go_wp2_with fail
     refine (wz last ((t.toNat:Int),o.2) _).mono ?_
     rintro e gv ⟨rfl,kO,ii,c8⟩
     have bs:Below en.heap.size en gv:=by rw [c8];exact Bs _ _ _
     clear c8
     have F:=B.fresh bs
     have er:=ab (fy bs (fw am.out) am.out)
     have hd:=F.size
     clear X x1 y0 y1
     go_wp2_with fail
     refine (ig base base _ (decide (nX last ((t.toNat:Int),o.2)<0)) 14 _ F.cur (by omega)).mono ?_
     rintro e io ⟨rfl,bS,bt⟩
     have s:=F.yc bt bS
     have a4:=ab (F.boxes er.out (by omega) bt)
     have hf:=s.size
     obtain ⟨c2,c9⟩:∃ c2,c2=(o.1.ja (gR (t.toNat:Int) o.2) 7).ja (decide (nX last ((t.toNat:Int),o.2)<0)) 14:=⟨_,rfl⟩
     rw [←c9] at s
     have gz:=ab c9
     have X:=ae _ _ 0 _ _ _ a4.out
     have x1:=ae _ _ 1 _ _ _ a4.out
     have sv:=tT s.shp t c4
     have lx:=fw a4.out
     clear bS c9 d bk J E B F K9 al em am er
     go_wp2_with fail
     obtain ⟨d2,bX⟩:∃ d2,d2=c2.take (fO (t.toNat:Int)):=⟨_,rfl⟩
     refine (js base base c2 (fO (t.toNat:Int)) _ s.cur (by omega) (rI _) (Ac _)).mono ?_
     rintro e ip ⟨i0,rfl,a0,-,a1,bv⟩
     rw [←bX] at a0 a1
     have M:=s.yc bv a1
     have hg:=M.size
     have a5:=ab (s.boxes a4.out (by omega) bv)
     have X:=ae _ _ 0 _ _ _ a5.out
     have lx:=fw a5.out
     have i1:d2.2.length≤100:=by rw [bX,Cu.take_length];exact rI _
     obtain ⟨hJ,hh,rfl,g0,-⟩:=a0.opened
     have d3:=a0.convert
     have g1:=ab bX
     clear bX a1 sv a0 x1
     go_wp2_with fail
     refine (pC (t.toNat:Int) d2.2 _ M.shp c6 c5 (by unfold fX;omega)).mono ?_
     rintro e i2 ⟨rfl,bw⟩
     have G:=M.fresh bw
     have eD:=ab (fy bw (fw a5.out) a5.out)
     have hi:=G.size
     clear X d3
     go_wp2_with fail
     refine (ig base base _ (gi (t.toNat:Int) d2.2) 9 _ G.cur (by omega)).mono ?_
     rintro e i3 ⟨rfl,b0,bx⟩
     have I:=G.yc bx b0
     have a6:=ab (G.boxes eD.out (by omega) bx)
     have hj:=I.size
     have X:=ae _ _ 0 _ _ _ a6.out
     have x1:=ae _ _ 1 _ _ _ a6.out
     have lx:=fw a6.out
     have cq:=I.cell
     have lq:=fE cq
     clear b0
     obtain ⟨W1,hu,g3,eS,i4⟩:=I.tab.put (mt:=107) Tryz.underlying107 ((t.toNat:Int),o.2) d2.2
     have eT:=hu 1
     have da:∀ w:World,w.drewN 1=w.drew:=fun _=>rfl
     rw [da,da] at eT
     simp only [kV,iD,kc] at eT
     have u:=I.put eS g3
     have dc:Hid (W1.heap[W]?=some (.cells #[.int .i64 (t.toNat:Int),.string ⟨o.2.toArray⟩] 94 (0,0))):=ab ((eS.block W lx (fun e=>by cases e;omega)).trans a6.out)
     clear hu da
     have fr:Hid (gY n b.1 (-1,[]) []=gY m' (d2.1.ja (gi (t.toNat:Int) d2.2) 9) ((t.toNat:Int),o.2) (jS ((t.toNat:Int),o.2) d2.2 S)):=ab (by
      rw [cr.out]
      exact oh kl (Gx HT.out bM.out ak rfl gs.out gz.out g1.out))
     have b1:=(u.fresh ((Below.refl _ W1).drew)).step ((t.toNat:Int),o.2)
     have hn:=ab b1
     have z0:=ae _ _ 0 _ _ _ dc.out
     have z1:=ae _ _ 1 _ _ _ dc.out
     have y0:=ae _ _ 0 _ _ _ u.box
     have y1:=ae _ _ 1 _ _ _ u.box
     have i5:=aj _ _ 0 _ _ u.box
     have i6:=aj _ _ 1 _ _ u.box
     have hM:=fw dc.out
     have hN:=fw u.box
     clear b1 s M G a4 a5 eD bt bv bx bw bo bs br I a6
     go_wp2_with fail
     go_region
     go_wp2
     refine ⟨⟨m',_,_,_,by omega,rfl,fr.out,(u.step ((t.toNat:Int),o.2)).fresh ((Below.refl _ _).drew)⟩,?_⟩
     simp [intOf]
   ·have dk:(gY n b.1 (-1,[]) []).1=cu∧(cu.f=none→(gY n b.1 (-1,[]) []).2=S):=by
     rw [cr.out]
     by_cases ko:0<m
     ·cases kl:cu.f with
      | none=>exact absurd ⟨ko,kl⟩ bL
      | some f=>exact ⟨p8 kl,fun h=>by cases h⟩
     ·rw [show m=0 by omega]
      exact ⟨rfl,fun _=>rfl⟩
    have dn:=ab dk
    have d4:(¬(0:Int)<m)∨((0:Int)<m∧∃ g,wr.cell? ⟨base,3,none⟩=some (.pointer (some ⟨g,0,none⟩))):=by
     by_cases ko:0<m
     ·cases kl:cu.f with
      | none=>exact absurd ⟨ko,kl⟩ bL
      | some f=>exact .inr ⟨by omega,q.cur.pL (by rw [kl];simp)⟩
     ·exact .inl (by omega)
    clear dk bL
    have lc:=q.cur.lt
    rcases d4 with ko | ⟨ko,gg,i7⟩
    all_goals
     go_wp2_with fail
     go_meet
     exact ⟨cu,last,S,dn.out.1,dn.out.2,q⟩
 case rest =>
  obtain ⟨cu,last,S,eV,e0,q⟩:=hcut
  have hO:=q.size
  have i8:=R.size
  have ag:=ab q
  have dp:Hid (im l=match cu.ended.f with | some f => .inr f | none => .inl (V,(gY n b.1 (-1,[]) []).2)):=ab (by
   unfold im
   simp only [←HA.out,←HV.out,←HB.out,HC.out.1,HC.out.2,←HN.out,eV]
   cases cu.ended.f <;> rfl)
  have g4:=ab e0
  clear eV e0
  go_wp2_with fail
  refine (vU base base cu _ q.cur (by have:=D.out;omega)).mono ?_
  rintro e w8 ⟨rfl,C,a3⟩
  have d:=q.yc a3 C
  have hP:=C.lt
  have e1:Below base w w8:=by
   have h1:=d.ext
   have h2:=d.geo
   exact R.trans (h1.below (by have:=D.out;omega) (fun j k0 e=>by rcases e with e | e | e <;> omega))
  cases hE:cu.ended.f with
  | some kp =>
   obtain ⟨kk,pp⟩:=kp
   obtain ⟨g,gq,g5,e2⟩:=C.fault hE
   have HP:Hid (im l = .inr (kk,pp)):=ab (by rw [dp.out,hE])
   have g6:=ab e2
   have i9:=ab D.out
   clear hE e2
   go_wp2_with fail
   go_quiet (fail)
   go_wp2
   go_ret3
   unfold qv
   rw [HP.out,←D.out]
   exact ⟨e1.drewN _,_,rfl,g,rfl,g5,g6.out⟩
  | none =>
   have k3:=C.jA hE
   have HP:Hid (im l = .inl (V,S)):=ab (by rw [dp.out,hE,g4.out (Ff hE)])
   go_wp2
   go_ret3
   unfold qv
   rw [HP.out,←D.out]
   exact ⟨e1,r,rfl,⟨d.cell,d.tab⟩,by omega⟩
end Go.Proofs.YtkkfmkhbdoeglaaGreatDoor
namespace Go.Proofs.YtkkfmkhbdoeglaaGreatDoor
open Go.RowKit
theorem iB.apart {w:World} {v:Value} {S:List E} (h:iB w v S) {B:Nat} {k j d:IntKind} {a b c:Int} {T:TypeId} {fz:Nat×Nat} (l:w.heap[B]?=some (.cells #[.int k a,.int j b,.int d c] T fz)):S=[]∨v.ownBlock≠some B:=by
 cases S with
 | nil=>exact .inl rfl
 | cons x S =>
  refine .inr fun e => ?_
  obtain ⟨o,cap,rfl,-,m⟩:=h.opened
  obtain ⟨g,off,rfl,-,c1,-⟩:=m 0 (by simp)
  obtain rfl:g=B:=by simpa [Value.ownBlock] using e
  rw [ae _ _ _ _ _ _ l] at c1
  have i:=(cj.1 c1).1
  simp at i
  have:off=0∨off=1:=by omega
  rcases this with rfl | rfl <;> simp at c1
theorem iB.gh {w:World} {v:Value} {S:List E} (h:iB w v S) (p:Addr) (u:Value) (b:v.ownBlock≠some p.block):iB (w.setCell p u) v S:=fH.gh h p u b
end Go.Proofs.YtkkfmkhbdoeglaaGreatDoor
