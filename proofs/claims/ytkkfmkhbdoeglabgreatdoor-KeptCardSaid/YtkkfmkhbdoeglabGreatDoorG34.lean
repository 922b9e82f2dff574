/- A part of what is proved here: lemmas and contracts of single functions. No condition but those that each names. -/
import Derived.Test.YtkkfmkhbdoeglabGreatDoorG00
import Derived.LoopTactic
import Derived.Maps.OwnSet
import Derived.WideKeyEntry
import Derived.Test.YtkkfmkhbdoeglabGreatDoorG03
import Derived.Test.YtkkfmkhbdoeglabGreatDoorG18
set_option maxHeartbeats 4000000
set_option maxRecDepth 100000
namespace Go.Proofs.YtkkfmkhbdoeglabGreatDoor
open Go.RowKit
def rG (l:List UInt8) (w:World) (e:Ending) (w':World):Prop :=
 Below w.heap.size w w'∧match iG l with
  | .inl (n,S)=>∃ r,e = .returned (.tuple #[.int .u64 n,.pointer (some ⟨r+1,0,none⟩),.nilIface])∧EntAt w' (r+1) 0 r S∧w.heap.size≤r
  | .inr (k,p)=>∃ ev,e = .returned (.tuple #[.int .u64 0,.pointer none,ev])∧ja w' w.heap.size ev k p
theorem Hk {c:Cu} (h:c.ended.f=none):c.f=none:=by
 obtain ⟨l,a,t,f⟩:=c
 cases f with
 | some f=>simp [Cu.ended] at h
 | none=>rfl
theorem CK (a b:Nat) (ha:a<65536) (d:b<65536):bits .or .i64 (a:Int) (b:Int)=((a ||| b:Nat):Int):=by
 have i:a ||| b<2^16:=Nat.or_lt_two_pow (by omega) (by omega)
 have key:∀ x:Nat,x<65536→(BitVec.ofInt 64 (x:Int)).toNat=x:=fun x i=>by
  rw [BitVec.ofInt_natCast,BitVec.toNat_ofNat];exact Nat.mod_eq_of_lt (by omega)
 show IntKind.i64.wrap ((BitVec.ofInt 64 (a:Int) ||| BitVec.ofInt 64 (b:Int)).toNat:Int)=_
 rw [BitVec.toNat_or,key a ha,key b d]
 exact IntWalk.i64_in _ (by omega)
theorem Gr (x y:UInt8):bits BinOp.or IntKind.i64 ((x.toNat:Int)*256) (y.toNat:Int)=((x.toNat*256+y.toNat:Nat):Int):=by
 have h1:=x.toNat_lt
 have h2:=y.toNat_lt
 have j:x.toNat*256 ||| y.toNat=x.toNat*256+y.toNat:=nat_join 8 _ _ (by omega) (by omega)
 rw [show ((x.toNat:Int)*256)=((x.toNat*256:Nat):Int) by omega,CK _ _ (by omega) (by omega),j]
def AllEnd (w5:World) (base c r Bl n:Nat) (C:Cu) (W:World):Prop :=
 ∃ cu last S,(iC n C (-1,[]) []).1=cu∧(cu.f=none→(iC n C (-1,[]) []).2=S)∧kW w5 base c r Bl cu last S W
def Iw (w5:World) (base c r Bl n:Nat) (C:Cu) (i:Value) (W:World):Prop :=
 ∃ m cu last S,m≤n∧i = .int .i64 ((m:Nat):Int)∧iC n C (-1,[]) []=iC m cu last S∧kW w5 base c r Bl cu last S W
theorem q7 (v:Value) (l:List UInt8) (w:World) (kd:BytesAt w v l) (fo:∀ b,v.ownBlock=some b→b<w.heap.size) (hl:l.length≤gF) (hg:ShapesVar w) :
  Calls Tryz.prog 192 #[v] w (rG l w):=by
 obtain ⟨va,N,rfl,-,-⟩:=kd.opened
 have e1:=hg.two
 have HG:=ab hg
 have fp:Below w.heap.size w (w.alloc (.cells #[.slice va l.length N,.int .i64 0,.int .i64 0,.pointer none] 254)):=(Below.refl _ w).alloc (af _) _
 have d4:BytesAt (w.alloc (.cells #[.slice va l.length N,.int .i64 0,.int .i64 0,.pointer none] 254)) (.slice va l.length N) l:=kd.below fp
 have fr:Hid (CurAt (w.alloc (.cells #[.slice va l.length N,.int .i64 0,.int .i64 0,.pointer none] 254)) w.heap.size w.heap.size ⟨l,0,0,none⟩) :=
  ab ⟨aM _,af _,hl,af _,.slice va l.length N,none,fR w _,d4,fun b ko=>fo b ko,rfl⟩
 clear d4 hg
 obtain ⟨a,kf⟩:∃ a,a=Cu.take ⟨l,0,0,none⟩ 8:=⟨_,rfl⟩
 have HA:=ab kf
 clear kf
 go_enter Tryz.func192,Tryz.ntmps192
 go_wp2_with fail
 refine (mJ w.heap.size w.heap.size ⟨l,0,0,none⟩ _ fr.out (by simp)).mono ?_
 rintro e w1 ⟨rfl,a7,Y⟩
 rw [←HA.out] at a7⊢
 have fB:w.heap.size+1≤w1.heap.size:=by simpa using Y.size
 have j1:Below w.heap.size w w1:=⟨Y.os,Y.tape,Y.output,by omega,fun k hk=>(Y.block k (by simp;omega) (fun e=>by cases e;omega)).trans (heap_alloc_old _ _ hk)⟩
 obtain ⟨V,j3⟩:∃ V,V=iP a.2:=⟨_,rfl⟩
 have HV:=ab j3
 rw [←j3]
 clear j3
 go_wp2_with fail
 refine (jO V _).mono ?_
 rintro e w2 ⟨rfl,rfl⟩
 go_wp2_with fail
 refine (iO w.heap.size w.heap.size a.1 (isVersionB V) 4 _ a7 (by omega)).mono ?_
 rintro e w2 ⟨rfl,b8,Z⟩
 have f0:=Z.size
 have o:Below w.heap.size w w2:=⟨Z.os.trans j1.os,Z.tape.trans j1.tape,Z.output.trans j1.output,by omega,fun k hk=>(Z.block k (by omega) (fun e=>by cases e;omega)).trans (j1.block k hk)⟩
 obtain ⟨b,kl⟩:∃ b,b=(a.1.jC (isVersionB V) 4).take 2:=⟨_,rfl⟩
 have HB:=ab kl
 clear kl
 go_wp2_with fail
 refine (jU w.heap.size w.heap.size _ 2 _ b8 (by omega) (by decide) (by decide)).mono ?_
 rintro e w3 ⟨vv,rfl,bz,-,a9,aa⟩
 rw [←HB.out] at bz a9
 have f2:=aa.size
 have b3:Below w.heap.size w w3:=⟨aa.os.trans o.os,aa.tape.trans o.tape,aa.output.trans o.output,by omega,fun k hk=>(aa.block k (by omega) (fun e=>by cases e;omega)).trans (o.block k hk)⟩
 obtain ⟨x,y,ca⟩:=vg (show b.2.length=2 by rw [HB.out,Cu.take_length])
 rw [ca] at bz
 have d5:=ab ca
 obtain ⟨hM,hh,rfl,bD,cb⟩:=bz.opened
 obtain ⟨xb,xo,rfl,bH⟩:=cb 0 (by simp)
 obtain ⟨hN,hO,he,O⟩:=cb 1 (by simp)
 cases he
 simp only [cz,cj,ee] at bH O
 have ba:=fU bH
 have f4:=x.toNat_lt
 have f5:=y.toNat_lt
 simp only [ar,aJ] at bD
 clear cb bz ca
 have HT:=ab (mM w3)
 clear a7 b8
 go_wp2_with fail
 refine HT.out.mono ?_
 rintro e Q ⟨rfl,d6,a2,d7⟩
 have ci:=ab d6
 have f6:=ab d7
 have cl:=(a2.cell (p:=⟨xb,xo,none⟩) ba).trans bH
 have co:=(a2.cell (p:=⟨xb,xo+1,none⟩) ba).trans O
 have bb:xb<Q.heap.size:=by omega
 have e4:w3.heap.size+2≤Q.heap.size:=by omega
 clear d6 d7 bH O HT
 go_wp2_with fail
 generalize bI:Q.alloc (.cells #[.int .i64 (-1),.string ⟨#[]⟩] 103)=w5
 have t5:Below Q.heap.size Q w5:=by rw [←bI];exact (Below.refl _ Q).alloc (af _) _
 have B5:Hid (w5.heap[Q.heap.size]?=some (.cells #[.int .i64 (-1),.string ⟨#[]⟩] 103 (0,0))):=ab (by rw [←bI];exact fR Q _)
 have s5:w5.heap.size=Q.heap.size+1:=by rw [←bI];simp
 clear bI
 have e5:=(t5.cell (p:=⟨xb,xo,none⟩) bb).trans cl
 have e6:=(t5.cell (p:=⟨xb,xo+1,none⟩) bb).trans co
 have e7:xb<w5.heap.size:=by omega
 clear cl co
 obtain ⟨n,hn⟩:∃ n,n=x.toNat*256+y.toNat:=⟨_,rfl⟩
 have f8:bits BinOp.or IntKind.i64 ((x.toNat:Int)*256) (y.toNat:Int)=((n:Nat):Int):=by rw [hn];exact Gr x y
 have hP:n<65536:=by omega
 have HN:=ab hn
 clear hn
 go_quiet (fail)
 have R:Below w.heap.size w (w5.drewN nq):=((b3.tn a2).tn t5).drewN nq
 have cp:CurAt (w5.drewN nq) w.heap.size w.heap.size b.1:=(((a9.gr a2).gr t5).gr ((Below.refl _ w5).drewN nq))
 have ag:Hid (kW (w5.drewN nq) w.heap.size w.heap.size w3.heap.size Q.heap.size b.1 (-1,[]) [] (w5.drewN nq)) :=
  ab ⟨cp,((ci.out.below t5).tab.gr rfl),((ci.out.below t5).below ((Below.refl _ w5).drewN nq)).cell,B5.out,HG.out.new R,Ext.refl _ _,e1,af _,by omega,by omega,by show _<w5.heap.size;omega⟩
 obtain ⟨W5,d8⟩:∃ W5,W5=w5.drewN nq:=⟨_,rfl⟩
 rw [←d8] at ag R⊢
 obtain ⟨r,kn⟩:∃ r,r=w3.heap.size:=⟨_,rfl⟩
 obtain ⟨Bl,d9⟩:∃ Bl,Bl=Q.heap.size:=⟨_,rfl⟩
 have ga:w.heap.size<r:=by omega
 have HC:Hid (b.2.getD 0 0=x∧b.2.getD 1 0=y):=ab (by rw [d5.out];exact ⟨rfl,rfl⟩)
 rw [←kn,←d9] at ag⊢
 clear d8 kn d9 cp e5 e6 f8 ci f6 d5 a9 B5 ba bb e7 s5 Y Z aa j1 o b3 a2 t5 fB f0 f2 e4 bD f4 f5
 obtain ⟨base,ap⟩:∃ base,base=w.heap.size:=⟨_,rfl⟩
 rw [←ap] at ag R ga⊢
 have D:=ab ap
 clear ap
 go_upto_block 0 with fail
 go_cut [] from 36 to 104 (fun wx=>AllEnd W5 base base r Bl n b.1 wx)
 case first =>
  go_wp2_with fail
  go_loopw [10] (fun i wr=>Iw W5 base base r Bl n b.1 i wr) (fun i _=>(intOf i).toNat)
  case atStart=>exact ⟨n,b.1,(-1,[]),[],af _,rfl,rfl,ag.out⟩
  case round =>
   clear ag
   obtain ⟨m,cu,last,S,hm,rfl,ea,q⟩:=hrel
   have cr:=ab ea
   clear ea
   by_cases bL:0<m∧cu.f=none
   ·obtain ⟨hQ,hf⟩:=bL
    obtain ⟨m',rfl⟩:∃ m',m=m'+1:=⟨m-1,by omega⟩
    have ho:(0:Int)<((m'+1:Nat):Int):=by omega
    have k3:=q.cur.j4 hf
    have e9:=q.geo
    have hp:=q.size
    obtain ⟨hR,-,hS,hT,hU⟩:=e9
    go_wp2_with fail
    refine (jU base base cu 1 _ q.cur (by omega) (by decide) (by decide)).mono ?_
    rintro e w6 ⟨v6,rfl,ct,-,cv,eb⟩
    obtain ⟨t,kb⟩:=DR (show (cu.take 1).2.length=1 by rw [Cu.take_length])
    rw [kb] at ct
    have HT:=ab kb
    clear kb
    have be:=q.Ap eb cv
    have hr:=be.size
    obtain ⟨hV,hs,rfl,dv,cB⟩:=ct.opened
    obtain ⟨tb,tq,rfl,c0⟩:=cB 0 (by simp)
    simp only [cz,cj] at c0
    have ht:=fU c0
    have hW:=t.toNat_lt
    simp only [ar,aJ] at dv
    clear cB ct k3
    go_wp2_with fail
    generalize c3:w6.alloc (.cells #[.int .i64 (t.toNat:Int),.string ⟨#[]⟩] 103)=w7
    have t7:Below w6.heap.size w6 w7:=by rw [←c3];exact (Below.refl _ w6).alloc (af _) _
    have K7:Hid (w7.heap[w6.heap.size]?=some (.cells #[.int .i64 (t.toNat:Int),.string ⟨#[]⟩] 103 (0,0))):=ab (by rw [←c3];exact fR w6 _)
    clear c3 c0
    have U:=be.fresh t7
    have hv:=U.size
    obtain ⟨W,ec⟩:∃ W,W=w6.heap.size:=⟨_,rfl⟩
    rw [←ec] at K7⊢
    have fc:Bl<W:=by omega
    have ge:W5.heap.size≤W:=by omega
    have hw:W<w7.heap.size:=fO K7.out
    clear ec
    go_wp2_with fail
    refine (iO base base _ (decide ((t.toNat:Int)<3)) 6 _ U.cur (by omega)).mono ?_
    rintro e w8 ⟨rfl,C,a3⟩
    have d:=U.Ap a3 C
    have hx:=d.size
    have K8:=ab (U.boxes K7.out (by omega) a3)
    clear cv C be U eb a3 K7 t7 q
    obtain ⟨c1,O⟩:∃ c1,c1=(cu.take 1).1.jC (decide ((t.toNat:Int)<3)) 6:=⟨_,rfl⟩
    rw [←O] at d
    have bM:=ab O
    clear O
    cases ak:c1.f with
    | some f =>
     obtain ⟨g8,gf⟩:=d.cur.qL (by rw [ak];simp)
     go_wp2_with fail
     go_meet
     have fd:iC n b.1 (-1,[]) []=(c1,S):=by
      rw [cr.out,q8 hf (c':=c1)]
      have:=Es (last:=last) HT.out (f:=f) (by rw [←bM.out];exact ak)
      rw [bM.out]
      exact this
     exact ⟨c1,last,S,by rw [fd],(fun h=>by rw [ak] at h;cases h),d⟩
    | none =>
     have k8:=d.cur.j4 ak
     have c4:t.toNat<3:=by
      have:=(rR (bM.out▸ak)).2
      have:=dE this
      omega
     have c5:(t.toNat:Int)<3:=by omega
     have c6:(0:Int)≤t.toNat:=by omega
     have X:=ae _ _ 0 _ _ _ K8.out
     have x1:=ae _ _ 1 _ _ _ K8.out
     have ed:=aj _ _ 1 _ _ K8.out
     have lx:=fO K8.out
     have sk:=Dn d.shp t c4
     have sv:=wX d.shp t c4
     go_wp2_with fail
     obtain ⟨o,bN⟩:∃ o,o=c1.take (fS (t.toNat:Int)):=⟨_,rfl⟩
     refine (jU base base c1 (fS (t.toNat:Int)) _ d.cur (by omega) (tE _) (CQ _)).mono ?_
     rintro e w9 ⟨v9,rfl,bO,-,bi,eg⟩
     rw [←bN] at bO bi
     have bk:=d.Ap eg bi
     have hA:=bk.size
     have K9:=ab (d.boxes K8.out (by omega) eg)
     have X:=ae _ _ 0 _ _ _ K9.out
     have x1:=ae _ _ 1 _ _ _ K9.out
     have ed:=aj _ _ 1 _ _ K9.out
     have lx:=fO K9.out
     have hX:o.2.length≤100:=by rw [bN,Cu.take_length];exact tE _
     obtain ⟨hY,hB,rfl,g1,-⟩:=bO.opened
     have fi:=bO.convert
     have gg:=ab bN
     clear bN bi sk sv K8 k8 bO
     go_wp2_with fail
     have bn:w9.grownBy (w9.setCell ⟨W,1,none⟩ (.string ⟨o.2.toArray⟩)) (some W):=grownBy_set (Below.refl _ w9) 1 _
     have J:=bk.JA K9.out fc (by decide) bn ge
     have al:=ab (heap_setCell w9 W 1 (.string ⟨o.2.toArray⟩) K9.out)
     have d0:=bn.size
     generalize w9.setCell ⟨W,1,none⟩ (.string ⟨o.2.toArray⟩)=hZ at J al d0⊢
     clear bn fi X x1 ed
     have X:=ae _ _ 0 _ _ _ al.out
     have x1:=ae _ _ 1 _ _ _ al.out
     go_wp2_with fail
     refine (oV (t.toNat:Int) o.2 _ J.shp c6 c5 (by unfold gF;omega)).mono ?_
     rintro e h0 ⟨rfl,bo⟩
     have E:=J.fresh bo
     have ej:=ab (fQ bo (fO al.out) al.out)
     have g2:=E.size
     clear X x1
     go_wp2_with fail
     refine (iO base base _ (iz (t.toNat:Int) o.2) 7 _ E.cur (by omega)).mono ?_
     rintro e el ⟨rfl,bP,br⟩
     have B:=E.Ap br bP
     have am:=ab (E.boxes ej.out (by omega) br)
     have g3:=B.size
     have X:=ae _ _ 0 _ _ _ am.out
     have x1:=ae _ _ 1 _ _ _ am.out
     have y0:=ae _ _ 0 _ _ _ B.box
     have y1:=ae _ _ 1 _ _ _ B.box
     have lx:=fO am.out
     have ly:=fO B.box
     clear bP
     go_wp2_with fail
     refine (yu last ((t.toNat:Int),o.2) _).mono ?_
     rintro e go ⟨rfl,kr,h3,c8⟩
     have bs:Below el.heap.size el go:=by rw [c8];exact CI _ _ _
     clear c8
     have F:=B.fresh bs
     have em:=ab (fQ bs (fO am.out) am.out)
     have g4:=F.size
     clear X x1 y0 y1
     go_wp2_with fail
     refine (iO base base _ (decide (oQ last ((t.toNat:Int),o.2)<0)) 14 _ F.cur (by omega)).mono ?_
     rintro e h4 ⟨rfl,bS,bt⟩
     have s:=F.Ap bt bS
     have a4:=ab (F.boxes em.out (by omega) bt)
     have g5:=s.size
     obtain ⟨c2,c9⟩:∃ c2,c2=(o.1.jC (iz (t.toNat:Int) o.2) 7).jC (decide (oQ last ((t.toNat:Int),o.2)<0)) 14:=⟨_,rfl⟩
     rw [←c9] at s
     have gp:=ab c9
     have X:=ae _ _ 0 _ _ _ a4.out
     have x1:=ae _ _ 1 _ _ _ a4.out
     have sv:=wX s.shp t c4
     have lx:=fO a4.out
     clear bS c9 d bk J E B F K9 al ej am em
     go_wp2_with fail
     obtain ⟨d2,bX⟩:∃ d2,d2=c2.take (gw (t.toNat:Int)):=⟨_,rfl⟩
     refine (jU base base c2 (gw (t.toNat:Int)) _ s.cur (by omega) (tT _) (Dy _)).mono ?_
     rintro e h5 ⟨h6,rfl,a0,-,a1,bv⟩
     rw [←bX] at a0 a1
     have M:=s.Ap bv a1
     have g6:=M.size
     have a5:=ab (s.boxes a4.out (by omega) bv)
     have X:=ae _ _ 0 _ _ _ a5.out
     have lx:=fO a5.out
     have h7:d2.2.length≤100:=by rw [bX,Cu.take_length];exact tT _
     obtain ⟨hC,g7,rfl,gq,-⟩:=a0.opened
     have d1:=a0.convert
     have gs:=ab bX
     clear bX a1 sv a0 x1
     go_wp2_with fail
     refine (qe (t.toNat:Int) d2.2 _ M.shp c6 c5 (by unfold gF;omega)).mono ?_
     rintro e h8 ⟨rfl,bw⟩
     have G:=M.fresh bw
     have en:=ab (fQ bw (fO a5.out) a5.out)
     have g9:=G.size
     clear X d1
     go_wp2_with fail
     refine (iO base base _ (gL (t.toNat:Int) d2.2) 9 _ G.cur (by omega)).mono ?_
     rintro e h9 ⟨rfl,b0,bx⟩
     have I:=G.Ap bx b0
     have a6:=ab (G.boxes en.out (by omega) bx)
     have hb:=I.size
     have X:=ae _ _ 0 _ _ _ a6.out
     have x1:=ae _ _ 1 _ _ _ a6.out
     have lx:=fO a6.out
     have cq:=I.cell
     have lq:=fU cq
     clear b0
     obtain ⟨W1,hu,gu,er,ii⟩:=I.tab.put (mt:=162) Tryz.underlying162 ((t.toNat:Int),o.2) d2.2
     have eC:=hu 1
     have da:∀ w:World,w.drewN 1=w.drew:=fun _=>rfl
     rw [da,da] at eC
     simp only [kV,jh,kU] at eC
     have u:=I.put er gu
     have dc:Hid (W1.heap[W]?=some (.cells #[.int .i64 (t.toNat:Int),.string ⟨o.2.toArray⟩] 103 (0,0))):=ab ((er.block W lx (fun e=>by cases e;omega)).trans a6.out)
     clear hu da
     have fk:Hid (iC n b.1 (-1,[]) []=iC m' (d2.1.jC (gL (t.toNat:Int) d2.2) 9) ((t.toNat:Int),o.2) (ke ((t.toNat:Int),o.2) d2.2 S)):=ab (by
      rw [cr.out]
      exact pf hf (IG HT.out bM.out ak rfl gg.out gp.out gs.out))
     have b1:=(u.fresh ((Below.refl _ W1).drew)).step ((t.toNat:Int),o.2)
     have hd:=ab b1
     have z0:=ae _ _ 0 _ _ _ dc.out
     have z1:=ae _ _ 1 _ _ _ dc.out
     have y0:=ae _ _ 0 _ _ _ u.box
     have y1:=ae _ _ 1 _ _ _ u.box
     have io:=aj _ _ 0 _ _ u.box
     have ip:=aj _ _ 1 _ _ u.box
     have hE:=fO dc.out
     have hG:=fO u.box
     clear b1 s M G a4 a5 en bt bv bx bw bo bs br I a6
     go_wp2_with fail
     go_region
     go_wp2
     refine ⟨⟨m',_,_,_,by omega,rfl,fk.out,(u.step ((t.toNat:Int),o.2)).fresh ((Below.refl _ _).drew)⟩,?_⟩
     simp [intOf]
   ·have dk:(iC n b.1 (-1,[]) []).1=cu∧(cu.f=none→(iC n b.1 (-1,[]) []).2=S):=by
     rw [cr.out]
     by_cases j2:0<m
     ·cases hf:cu.f with
      | none=>exact absurd ⟨j2,hf⟩ bL
      | some f=>exact ⟨q9 hf,fun h=>by cases h⟩
     ·rw [show m=0 by omega]
      exact ⟨rfl,fun _=>rfl⟩
    have dn:=ab dk
    have d3:(¬(0:Int)<m)∨((0:Int)<m∧∃ g,wr.cell? ⟨base,3,none⟩=some (.pointer (some ⟨g,0,none⟩))):=by
     by_cases j2:0<m
     ·cases hf:cu.f with
      | none=>exact absurd ⟨j2,hf⟩ bL
      | some f=>exact .inr ⟨by omega,q.cur.qL (by rw [hf];simp)⟩
     ·exact .inl (by omega)
    clear dk bL
    have lc:=q.cur.lt
    rcases d3 with j2 | ⟨j2,ks,i0⟩
    all_goals
     go_wp2_with fail
     go_meet
     exact ⟨cu,last,S,dn.out.1,dn.out.2,q⟩
 case rest =>
  obtain ⟨cu,last,S,eD,eS,q⟩:=hcut
  have hH:=q.size
  have i1:=R.size
  have ag:=ab q
  have dp:Hid (iG l=match cu.ended.f with | some f => .inr f | none => .inl (V,(iC n b.1 (-1,[]) []).2)):=ab (by
   unfold iG
   simp only [←HA.out,←HV.out,←HB.out,HC.out.1,HC.out.2,←HN.out,eD]
   cases cu.ended.f <;> rfl)
  have gv:=ab eS
  clear eD eS
  go_wp2_with fail
  refine (yd base base cu _ q.cur (by have:=D.out;omega)).mono ?_
  rintro e w8 ⟨rfl,C,a3⟩
  have d:=q.Ap a3 C
  have hI:=C.lt
  have eT:Below base w w8:=by
   have h1:=d.ext
   have h2:=d.geo
   exact R.trans (h1.below (by have:=D.out;omega) (fun j hj e=>by rcases e with e | e | e <;> omega))
  cases j0:cu.ended.f with
  | some kp =>
   obtain ⟨kk,pp⟩:=kp
   obtain ⟨g,gf,gz,eV⟩:=C.fault j0
   have HP:Hid (iG l = .inr (kk,pp)):=ab (by rw [dp.out,j0])
   have g0:=ab eV
   have i2:=ab D.out
   clear j0 eV
   go_wp2_with fail
   go_quiet (fail)
   go_wp2
   go_ret3
   unfold rG
   rw [HP.out,←D.out]
   exact ⟨eT.drewN _,_,rfl,g,rfl,gz,g0.out⟩
  | none =>
   have k3:=C.j4 j0
   have HP:Hid (iG l = .inl (V,S)):=ab (by rw [dp.out,j0,gv.out (Hk j0)])
   go_wp2
   go_ret3
   unfold rG
   rw [HP.out,←D.out]
   exact ⟨eT,r,rfl,⟨d.cell,d.tab⟩,by omega⟩
end Go.Proofs.YtkkfmkhbdoeglabGreatDoor
namespace Go.Proofs.YtkkfmkhbdoeglabGreatDoor
open Go.RowKit
theorem iJ.apart {w:World} {v:Value} {S:List E} (h:iJ w v S) {B:Nat} {k j d:IntKind} {a b c:Int} {T:TypeId} {fz:Nat×Nat} (l:w.heap[B]?=some (.cells #[.int k a,.int j b,.int d c] T fz)):S=[]∨v.ownBlock≠some B:=by
 cases S with
 | nil=>exact .inl rfl
 | cons x S =>
  refine .inr fun e => ?_
  obtain ⟨o,cap,rfl,-,m⟩:=h.opened
  obtain ⟨g,off,rfl,-,c1,-⟩:=m 0 (by simp)
  obtain rfl:g=B:=by simpa [Value.ownBlock] using e
  rw [ae _ _ _ _ _ _ l] at c1
  have i:=(cm.1 c1).1
  simp at i
  have:off=0∨off=1:=by omega
  rcases this with rfl | rfl <;> simp at c1
theorem iJ.gJ {w:World} {v:Value} {S:List E} (h:iJ w v S) (p:Addr) (u:Value) (b:v.ownBlock≠some p.block):iJ (w.setCell p u) v S:=fW.gJ h p u b
end Go.Proofs.YtkkfmkhbdoeglabGreatDoor
namespace Go.Proofs.YtkkfmkhbdoeglabGreatDoor.U
open Go.RowKit
abbrev K:=Nat
def kV (x:K):Value := .int .u64 (x:Int)
theorem ib (em:Bool) (x:K) (w:World):(Instr.checkKey em 10000 48 (kV x)).run Tryz.prog w = .ok () w:=by
 have h:∀ n,(Instr.checkKey em (n+1) 48 (kV x)).run Tryz.prog w = .ok () w:=by
  intro n
  simp [Instr.checkKey,kV,aL Tryz.underlying48,Result.andThen]
 exact h 9999
theorem tA (x y:K) (w:World):(Op.equal 48 (kV x) (kV y)).run Tryz.prog w = .ok (x==y) w:=by
 have b:((x:Int)==(y:Int))=(x==y):=by
  rw [dI,a8,a8]
  exact Int.ofNat_inj
 have hd:∀ n,(Op.equalIn (n+1) 48 (kV x) (kV y)).run Tryz.prog w = .ok (x==y) w:=by
  intro n
  rw [←b]
  simp [Op.equalIn,kV,aL Tryz.underlying48]
 exact hd 9999
def gN (k:K):List (K×Value)→Nat→Option (Nat×Value)
 | [],_=>none
 | e::es,i=>if k==e.1 then some (i,e.2) else gN k es (i+1)
theorem GF (x y:K):Instr.sameNow (.int .u64) (kV x) (kV y)=some (x==y):=by
 have b:((x:Int)==(y:Int))=(x==y):=by
  rw [dI,a8,a8]
  exact Int.ofNat_inj
 show some ((x:Int)==(y:Int))=_
 rw [b]
theorem kF (k:K) (w:World):∀ (es:List MapEntry) (l:List (K×Value)) (_:es.map (fun e=>(e.key,e.val))=l.map (fun x=>(kV x.1,x.2))),(Instr.findKey 48 (kV k) es).run Tryz.prog w = .ok (gN k l 0) w:=by
 have go:∀ (es:List MapEntry) (l:List (K×Value)) (i:Nat) (_:es.map (fun e=>(e.key,e.val))=l.map (fun x=>(kV x.1,x.2))),Instr.findNow (.int .u64) (kV k) es i=some (gN k l i):=by
  intro es
  induction es with
  | nil =>
   intro l i h
   cases l with
   | nil=>rfl
   | cons x l=>cases h
  | cons e es ih =>
   intro l i h
   cases l with
   | nil=>cases h
   | cons x l =>
    rw [bq,bq] at h
    have h1:=(List.cons.inj h).1
    have h2:=(List.cons.inj h).2
    have b:e.key=kV x.1:=(Prod.mk.inj h1).1
    have d:e.val=x.2:=(Prod.mk.inj h1).2
    unfold Instr.findNow gN
    rw [b,GF]
    cases hk:(k==x.1) with
    | false=>exact ih l (i+1) h2
    | true =>
     rw [d]
     rfl
 intro es l h
 exact MapKept.run_findKey Tryz.underlying48 (go es l 0 h)
theorem o4 (x:K) (w:World):(Instr.keyThatStays (kV x) (kV x)).run Tryz.prog w = .ok (kV x) w:=by
 have h:∀ n,Instr.sameBits (n+2) (kV x) (kV x)=true:=by
  intro n
  simp [Instr.sameBits,kV]
 have b:Instr.sameBits 10000 (kV x) (kV x)=true:=h 9998
 simp only [Instr.keyThatStays,b,dM]
 rfl
def fY (w:World) (r:Nat) (l:List (K×Value)):Prop :=
 ∃ es clock,w.heap[r]?=some (.map es clock)∧es.toList.map (fun e=>(e.key,e.val))=l.map (fun x=>(kV x.1,x.2))∧(∀ e∈es.toList,e.born<clock)∧(es.toList.map (·.born)).Nodup∧(l.map (·.1)).Nodup
theorem fY.lt {w:World} {r:Nat} {l:List (K×Value)} (h:fY w r l):r<w.heap.size:=by
 obtain ⟨es,clock,h,_⟩:=h
 exact fO h
theorem fY.gr {w w':World} {r:Nat} {l:List (K×Value)} (h:fY w r l) (b:w'.heap[r]?=w.heap[r]?):fY w' r l:=by
 obtain ⟨es,clock,h,x⟩:=h
 exact ⟨es,clock,b.trans h,x⟩
theorem fY.new (w:World):fY (w.alloc (.map #[] 0)) w.heap.size []:=⟨#[],0,fR _ _,rfl,by simp,by simp,by simp⟩
def nE (k:K) (l:List (K×Value)):Option Value:=(l.find? (fun x=>k==x.1)).map (·.2)
theorem kR (k:K):∀ (l:List (K×Value)) (i:Nat),(gN k l i).map (·.2)=nE k l
 | [],i=>rfl
 | x::l,i=>by
  unfold gN nE
  rw [dW]
  cases h:(k==x.1) with
  | true=>rfl
  | false=>exact kR k l (i+1)
theorem pz (k:K):∀ (l:List (K×Value)) (i:Nat),(∀ x∈l,x.1≠k)→gN k l i=none
 | [],i,_=>rfl
 | x::l,i,h=>by
  unfold gN
  have:(k==x.1)=false:=by rw [aA];exact fun e=>h x bV e.symm
  rw [this]
  exact pz k l (i+1) fun y b=>h y (aR _ b)
section
variable {w:World} {r:Nat} {l:List (K×Value)} {mt e:TypeId} {z:Value}
theorem fY.lookup (h:fY w r l) (d:Tryz.prog.underlying mt=some (.map 48 e)) (m:(zeroValue e).run Tryz.prog w = .ok z w) (k:K) :
  (Instr.lookup mt (.map (some r)) (kV k) false).run Tryz.prog w = .ok ((nE k l).getD z) w:=by
 obtain ⟨es,clock,j,hl,_⟩:=h
 have b:=kF k w es.toList l hl
 rw [←kR k l 0]
 cases hk:gN k l 0 with
 | none =>
  rw [hk] at b
  simp [Instr.lookup,aL d,aK j,ib,b,m,Result.andThen]
 | some x =>
  rw [hk] at b
  obtain ⟨i,v⟩:=x
  simp [Instr.lookup,aL d,aK j,ib,b,Result.andThen]
theorem fY.kT (h:fY w r l) (d:Tryz.prog.underlying mt=some (.map 48 e)) (m:(zeroValue e).run Tryz.prog w = .ok z w) (k:K) :
  (Instr.lookup mt (.map (some r)) (kV k) true).run Tryz.prog w = .ok (.tuple #[(nE k l).getD z,.bool (nE k l).isSome]) w:=by
 obtain ⟨es,clock,j,hl,_⟩:=h
 have b:=kF k w es.toList l hl
 rw [←kR k l 0]
 cases hk:gN k l 0 with
 | none =>
  rw [hk] at b
  simp [Instr.lookup,aL d,aK j,ib,b,m,Result.andThen]
 | some x =>
  rw [hk] at b
  obtain ⟨i,v⟩:=x
  simp [Instr.lookup,aL d,aK j,ib,b,Result.andThen]
end
end Go.Proofs.YtkkfmkhbdoeglabGreatDoor.U
namespace Go.Proofs.YtkkfmkhbdoeglabGreatDoor.U
open Go.RowKit Go.WideElems Go.WideMaps Go.ChangeMaps
def mS (k:K) (v:Value) (l:List (K×Value)):List (K×Value) :=
 match gN k l 0 with
 | some (j,_)=>l.set j (k,v)
 | none=>l++[(k,v)]
def vU (k:K) (l:List (K×Value)):List (K×Value) :=
 match gN k l 0 with
 | some (j,_)=>l.eraseIdx j
 | none=>l
theorem jI (k:K):∀ (l:List (K×Value)) (i j:Nat) (v:Value),gN k l i=some (j,v)→i≤j∧l[j-i]?=some (k,v)
 | [],_,_,_,h=>by simp [gN] at h
 | x::l,i,j,v,h=>by
  unfold gN at h
  cases hk:(k==x.1) with
  | true =>
   rw [hk,aD rfl] at h
   cases h
   rw [a8] at hk
   subst hk
   simp
  | false =>
   rw [hk,au (by simp)] at h
   obtain ⟨h1,h2⟩:=jI k l (i+1) j v h
   refine ⟨by omega,?_⟩
   rw [show j-i=(j-(i+1))+1 by omega,aY]
   exact h2
theorem iM (k:K):∀ (l:List (K×Value)) (i:Nat),gN k l i=none→∀ x∈l,x.1≠k
 | [],_,_,x,b=>by simp at b
 | y::l,i,h,x,b=>by
  unfold gN at h
  cases hk:(k==y.1) with
  | true=>rw [hk,aD rfl] at h;cases h
  | false =>
   rw [hk,au (by simp)] at h
   rcases aP.1 b with rfl | b
   ·rw [aA] at hk
    exact fun e=>hk e.symm
   ·exact iM k l (i+1) h x b
theorem oZ {l:List (K×Value)} {j:Nat} {k:K} {v u:Value} (h:l[j]?=some (k,u)):(l.set j (k,v)).map (·.1)=l.map (·.1):=by
 rw [cY]
 exact set_self _ _ _ (by rw [bd,h];rfl)
theorem gy {w:World} {r:Nat} {es:Array MapEntry} {clock:Nat} {b:Obj} (h:w.heap[r]?=some (.map es clock)):w.grownBy (setBlock w r b) (some r) :=
 ⟨rfl,rfl,rfl,by simp [setBlock],fun k _ hk=>heap_setBlock_other h _ (fun e=>hk (by rw [e]))⟩
theorem gj {w:World} {r:Nat} {o b:Obj} (h:w.heap[r]?=some o):(setBlock w r b).heap[r]?=some b:=by
 have d:=fO h
 simp [setBlock,d]
section
variable {w:World} {r:Nat} {l:List (K×Value)} {mt e:TypeId} {z:Value}
theorem fY.entry (h:fY w r l) (S:Tryz.prog.underlying mt=some (.map 48 e)) (X:∀ u:World,(zeroValue e).run Tryz.prog u = .ok z u) (k:K) :
  ∃ m st,(∀ n,(Instr.mapEntry mt (.map (some r)) (kV k)).run Tryz.prog (w.drewN n) = .ok (.tuple #[(nE k l).getD z,goInt st]) (m.drewN n))∧fY m r (mS k ((nE k l).getD z) l)∧w.grownBy m (some r)∧m.heap.size=w.heap.size∧
   ∀ v,∃ D,(∀ n,(Instr.entryStore mt (.map (some r)) (goInt st) v).run Tryz.prog (m.drewN n) = .ok () (D.drewN n))∧fY D r (mS k v l)∧m.grownBy D (some r)∧D.heap.size=m.heap.size:=by
 obtain ⟨es,clock,B,hl,hc,E,hk⟩:=h
 have F:∀ n,(Instr.findKey 48 (kV k) es.toList).run Tryz.prog (w.drewN n) = .ok (gN k l 0) (w.drewN n):=fun n=>kF k (w.drewN n) es.toList l hl
 have q:∀ n,(w.drewN n).heap[r]?=some (.map es clock):=fun n=>B
 rw [←kR k l 0]
 unfold mS
 cases s:gN k l 0 with
 | none =>
  rw [s] at F
  have O:=iM k l 0 s
  have G:(es.push ⟨kV k,z,clock⟩).toList.map (·.born)=es.toList.map (·.born)++[clock]:=by simp
  have C:((es.push ⟨kV k,z,clock⟩).toList.map (·.born)).Nodup:=by
   rw [G]
   refine cf.2 ⟨E,by simp,fun a ha c y U => ?_⟩
   simp only [ax] at y
   obtain ⟨x,d,rfl⟩:=aB.1 ha
   have:=hc x d
   omega
  have M:∀ v:Value,((l++[(k,v)]).map (·.1)).Nodup:=fun v=>by
   rw [bm]
   refine cf.2 ⟨hk,by simp,fun a ha c y U => ?_⟩
   simp at y
   obtain ⟨x,d,rfl⟩:=aB.1 ha
   exact O x d (U.trans y)
  have N:∀ v:Value,∀ x∈(es.push ⟨kV k,v,clock⟩).toList,x.born<clock+1:=by
   intro v x d
   simp at d
   rcases d with d | rfl
   ·have:=hc x (by simpa using d);omega
   ·simp
  have b:(setBlock w r (.map (es.push ⟨kV k,z,clock⟩) (clock+1))).heap[r]?=some (.map (es.push ⟨kV k,z,clock⟩) (clock+1)):=gj B
  refine ⟨setBlock w r (.map (es.push ⟨kV k,z,clock⟩) (clock+1)),clock,fun n => ?_,⟨_,_,b,by simp [hl],N z,C,M _⟩,gy B,by simp [setBlock],
   fun v=>⟨setBlock (setBlock w r (.map (es.push ⟨kV k,z,clock⟩) (clock+1))) r (.map (es.push ⟨kV k,v,clock⟩) (clock+1)),fun n => ?_,⟨_,_,gj b,by simp [hl],N v,by simpa using C,M _⟩,gy b,by simp [setBlock]⟩⟩
  ·simp [Instr.mapEntry,aL S,aK (q n),ib,F,X,bh _ (q n),Result.andThen]
   rfl
  ·have o:(es.push ⟨kV k,z,clock⟩).findIdx? (fun e=>((e.born:Nat):Int)==((clock:Nat):Int))=some es.size:=by
    rw [findIdx_arr]
    exact findIdx_born (l:=(es.push ⟨kV k,z,clock⟩).toList) (j:=es.size) (e0:=⟨kV k,z,clock⟩) C (by simp)
   have Q:(es.push ⟨kV k,z,clock⟩).modify es.size (fun e => {e with val:=v})=es.push ⟨kV k,v,clock⟩:=by
    apply Array.ext'
    rw [bJ,fH,fH,←dh,modify_last]
   have i:((setBlock w r (.map (es.push ⟨kV k,z,clock⟩) (clock+1))).drewN n).heap[r]?=some (.map (es.push ⟨kV k,z,clock⟩) (clock+1)):=b
   simp [Instr.entryStore,aK i,asInt,asIntOf,goInt,o,Q,bh _ i,Result.andThen]
   rfl
 | some x =>
  obtain ⟨j,u⟩:=x
  rw [s] at F
  obtain ⟨-,I⟩:=jI k l 0 j u s
  rw [cJ] at I
  have V:∃ e0,es.toList[j]?=some e0∧e0.key=kV k∧e0.val=u:=by
   have h1:(es.toList.map (fun e=>(e.key,e.val)))[j]?=some (kV k,u):=by rw [hl,bd,I];rfl
   rw [bd] at h1
   obtain ⟨e0,h2,h3⟩:=ck.1 h1
   exact ⟨e0,h2,(Prod.mk.inj h3).1,(Prod.mk.inj h3).2⟩
  obtain ⟨e0,h2,h3,h4⟩:=V
  have W:es[j]?=some e0:=by simpa using h2
  have J:es.modify j (fun e => {e with key:=kV k})=es:=by
   apply Array.ext'
   rw [bJ,cX _ _ _ _ h2]
   have:({e0 with key:=kV k} : MapEntry)=e0:=by rw [←h3]
   rw [this]
   exact set_self _ _ _ h2
  have R:l.set j (k,u)=l:=set_self _ _ _ I
  simp only [dX,bR,R]
  have b:(setBlock w r (.map es clock)).heap[r]?=some (.map es clock):=gj B
  refine ⟨setBlock w r (.map es clock),e0.born,fun n => ?_,⟨_,_,b,hl,hc,E,hk⟩,gy B,by simp [setBlock],
   fun v=>⟨setBlock (setBlock w r (.map es clock)) r (.map (es.modify j (fun e => {e with val:=v})) clock),fun n => ?_,⟨_,_,gj b,?_,?_,?_,?_⟩,gy b,by simp [setBlock]⟩⟩
  ·simp [Instr.mapEntry,aL S,aK (q n),ib,F,W,h3,o4,J,bh _ (q n),Result.andThen]
   rfl
  ·have o:es.findIdx? (fun e=>((e.born:Nat):Int)==((e0.born:Nat):Int))=some j:=by
    rw [findIdx_arr]
    exact findIdx_born E h2
   have i:((setBlock w r (.map es clock)).drewN n).heap[r]?=some (.map es clock):=b
   simp [Instr.entryStore,aK i,asInt,asIntOf,goInt,o,bh _ i,Result.andThen]
   rfl
  ·rw [bJ,cX _ _ _ _ h2,cY,hl,cY,h3]
  ·intro x d
   rw [bJ,cX _ _ _ _ h2] at d
   rcases cS d with d | rfl
   ·exact hc x d
   ·exact hc e0 (aV h2)
  ·rw [bJ,cX _ _ _ _ h2,cY]
   rw [set_self _ _ _ (by rw [bd,h2];rfl)]
   exact E
  ·rw [oZ I]
   exact hk
end
end Go.Proofs.YtkkfmkhbdoeglabGreatDoor.U
namespace Go.Proofs.YtkkfmkhbdoeglabGreatDoor.U
open Go.RowKit Go.WideElems Go.ChangeMaps
section
variable {w:World} {r:Nat} {l:List (K×Value)} {mt e:TypeId} {z:Value}
theorem fY.update (h:fY w r l) (D:Tryz.prog.underlying mt=some (.map 48 e)) (k:K) (v:Value) :
  ∃ q,(∀ n,(Instr.mapUpdate mt (.map (some r)) (kV k) v).run Tryz.prog (w.drewN n) = .ok () (q.drewN n))∧fY q r (mS k v l)∧w.grownBy q (some r)∧q.heap.size=w.heap.size:=by
 obtain ⟨es,clock,o,hl,hc,E,hk⟩:=h
 have s:∀ n,(Instr.findKey 48 (kV k) es.toList).run Tryz.prog (w.drewN n) = .ok (gN k l 0) (w.drewN n):=fun n=>kF k (w.drewN n) es.toList l hl
 have d:∀ n,(w.drewN n).heap[r]?=some (.map es clock):=fun n=>o
 unfold mS
 cases i:gN k l 0 with
 | none =>
  rw [i] at s
  have B:=iM k l 0 i
  have y:(es.push ⟨kV k,v,clock⟩).toList.map (·.born)=es.toList.map (·.born)++[clock]:=by simp
  have F:((es.push ⟨kV k,v,clock⟩).toList.map (·.born)).Nodup:=by
   rw [y]
   refine cf.2 ⟨E,by simp,fun a ha c m G => ?_⟩
   simp only [ax] at m
   obtain ⟨x,b,rfl⟩:=aB.1 ha
   have:=hc x b
   omega
  have I:((l++[(k,v)]).map (·.1)).Nodup:=by
   rw [bm]
   refine cf.2 ⟨hk,by simp,fun a ha c m G => ?_⟩
   simp at m
   obtain ⟨x,b,rfl⟩:=aB.1 ha
   exact B x b (G.trans m)
  have J:∀ x∈(es.push ⟨kV k,v,clock⟩).toList,x.born<clock+1:=by
   intro x b
   simp at b
   rcases b with b | rfl
   ·have:=hc x (by simpa using b);omega
   ·simp
  refine ⟨setBlock w r (.map (es.push ⟨kV k,v,clock⟩) (clock+1)),fun n => ?_,⟨_,_,gj o,by simp [hl],J,F,I⟩,gy o,by simp [setBlock]⟩
  simp [Instr.mapUpdate,aL D,aK (d n),ib,s,bh _ (d n),Result.andThen]
  rfl
 | some x =>
  obtain ⟨j,u⟩:=x
  rw [i] at s
  obtain ⟨-,C⟩:=jI k l 0 j u i
  rw [cJ] at C
  have M:∃ e0,es.toList[j]?=some e0∧e0.key=kV k∧e0.val=u:=by
   have h1:(es.toList.map (fun e=>(e.key,e.val)))[j]?=some (kV k,u):=by rw [hl,bd,C];rfl
   rw [bd] at h1
   obtain ⟨e0,h2,h3⟩:=ck.1 h1
   exact ⟨e0,h2,(Prod.mk.inj h3).1,(Prod.mk.inj h3).2⟩
  obtain ⟨e0,h2,h3,h4⟩:=M
  have N:es[j]?=some e0:=by simpa using h2
  refine ⟨setBlock w r (.map (es.modify j (fun e => {e with key:=kV k,val:=v})) clock),fun n => ?_,⟨_,_,gj o,?_,?_,?_,?_⟩,gy o,by simp [setBlock]⟩
  ·simp [Instr.mapUpdate,aL D,aK (d n),ib,s,N,h3,o4,bh _ (d n),Result.andThen]
   rfl
  ·rw [bJ,cX _ _ _ _ h2,cY,hl,cY]
  ·intro x b
   rw [bJ,cX _ _ _ _ h2] at b
   rcases cS b with b | rfl
   ·exact hc x b
   ·exact hc e0 (aV h2)
  ·rw [bJ,cX _ _ _ _ h2,cY]
   rw [set_self _ _ _ (by rw [bd,h2];rfl)]
   exact E
  ·show ((l.set j (k,v)).map (·.1)).Nodup
   rw [oZ C]
   exact hk
theorem iA {α β:Type} (f : α→β):∀ (l:List α) (j:Nat),(l.eraseIdx j).map f=(l.map f).eraseIdx j
 | [],_=>by simp
 | x::l,0=>rfl
 | x::l,j+1=>by simp [iA f l j]
theorem fY.delete (h:fY w r l) (s:Tryz.prog.underlying mt=some (.map 48 e)) (k:K) (t2 ty:TypeId) :
  ∃ m,(∀ n,(Builtin.delete_ #[mt,t2] ty #[.map (some r),kV k]).run Tryz.prog (w.drewN n) = .ok (.tuple #[]) (m.drewN n))∧fY m r (vU k l)∧w.grownBy m (some r)∧m.heap.size=w.heap.size:=by
 obtain ⟨es,clock,i,hl,hc,y,hk⟩:=h
 have o:∀ n,(Instr.findKey 48 (kV k) es.toList).run Tryz.prog (w.drewN n) = .ok (gN k l 0) (w.drewN n):=fun n=>kF k (w.drewN n) es.toList l hl
 have d:∀ n,(w.drewN n).heap[r]?=some (.map es clock):=fun n=>i
 unfold vU
 cases q:gN k l 0 with
 | none =>
  rw [q] at o
  refine ⟨setBlock w r (.map es clock),fun n => ?_,⟨_,_,gj i,hl,hc,y,hk⟩,gy i,by simp [setBlock]⟩
  simp [Builtin.delete_,aL s,aK (d n),ib,o,bh _ (d n),Result.andThen]
  rfl
 | some x =>
  obtain ⟨j,u⟩:=x
  rw [q] at o
  have b:(es.eraseIdxIfInBounds j).toList=es.toList.eraseIdx j:=by
   unfold Array.eraseIdxIfInBounds
   split
   ·simp
   ·rw [List.eraseIdx_of_length_le (by rw [dh];omega)]
  refine ⟨setBlock w r (.map (es.eraseIdxIfInBounds j) clock),fun n => ?_,⟨_,_,gj i,?_,?_,?_,?_⟩,gy i,by simp [setBlock]⟩
  ·simp [Builtin.delete_,aL s,aK (d n),ib,o,bh _ (d n),Result.andThen]
   rfl
  ·rw [b,iA,hl,iA]
  ·intro x B
   rw [b] at B
   exact hc x ((dN _ _).subset B)
  ·rw [b,iA]
   exact y.sublist (dN _ _)
  ·show ((l.eraseIdx j).map (·.1)).Nodup
   rw [iA]
   exact hk.sublist (dN _ _)
end
end Go.Proofs.YtkkfmkhbdoeglabGreatDoor.U
namespace Go.Proofs.YtkkfmkhbdoeglabGreatDoor.U
open Go.RowKit
theorem pj {k:K} {v:Value} : ∀ {L:List (K×Value)},(L.map (·.1)).Nodup→(nE k L=some v↔(k,v)∈L)
 | [],_=>by simp [nE]
 | y::L,h=>by
  rw [bq,dw] at h
  unfold nE
  rw [dW]
  cases hk:(k==y.1) with
  | true =>
   rw [a8] at hk
   subst hk
   simp only [dX,eP,aP]
   constructor
   ·rintro rfl;exact .inl rfl
   ·rintro (e | hm)
    ·rw [←e]
    ·exact absurd (aB.2 ⟨_,hm,rfl⟩) h.1
  | false =>
   rw [aA] at hk
   have := @pj k v L h.2
   unfold nE at this
   simp only [this,aP]
   constructor
   ·exact .inr
   ·rintro (e | hm)
    ·exact absurd (by rw [←e]) hk
    ·exact hm
theorem qO {l:List K} (h:l.Nodup) {i j:Nat} (b:i<l.length) (d:j<l.length) (e:l[i]=l[j]):i=j :=
 (List.getElem?_inj b h).1 (by rw [ay b,ay d,e])
theorem qt (k:K) (v:Value) {L:List (K×Value)} (r:(L.map (·.1)).Nodup) (x:K×Value):x∈mS k v L↔x=(k,v)∨(x∈L∧x.1≠k):=by
 unfold mS
 cases m:gN k L 0 with
 | none =>
  have ha:=iM k L 0 m
  simp only [bE,ax]
  constructor
  ·rintro (h | h)
   ·exact .inr ⟨h,ha x h⟩
   ·exact .inl h
  ·rintro (h | h)
   ·exact .inr h
   ·exact .inl h.1
 | some y =>
  obtain ⟨j,u⟩:=y
  obtain ⟨-,o⟩:=jI k L 0 j u m
  rw [cJ] at o
  obtain ⟨d,l⟩:=aF.1 o
  simp only
  constructor
  ·intro h
   obtain ⟨i,b,e⟩:=cF h
   rw [List.getElem_set] at e
   rw [bW] at b
   split at e
   ·exact .inl e.symm
   ·rename_i q
    refine .inr ⟨e▸cD b,fun hk=>q ?_⟩
    have h1:(L.map (·.1))[j]'(by simpa using d)=k:=by simp [l]
    have h2:(L.map (·.1))[i]'(by simpa using b)=k:=by simp [e,hk]
    exact qO r _ _ (h1.trans h2.symm)
  ·rintro (h | ⟨h1,h2⟩)
   ·rw [h]
    exact aV (i:=j) (by rw [dZ d])
   ·obtain ⟨i,b,rfl⟩:=cF h1
    refine aV (i:=i) ?_
    rw [ew (fun e=>h2 (by subst e;rw [l])),ay b]
theorem De (k:K) (v:Value) {L:List (K×Value)} (b:(L.map (·.1)).Nodup):((mS k v L).map (·.1)).Nodup:=by
 unfold mS
 cases d:gN k L 0 with
 | none =>
  have ha:=iM k L 0 d
  show ((L++[(k,v)]).map (·.1)).Nodup
  rw [bm]
  refine cf.2 ⟨b,by simp,fun a i c hc e => ?_⟩
  simp at hc
  obtain ⟨x,m,rfl⟩:=aB.1 i
  exact ha x m (e.trans hc)
 | some y =>
  obtain ⟨j,u⟩:=y
  obtain ⟨-,l⟩:=jI k L 0 j u d
  rw [cJ] at l
  show ((L.set j (k,v)).map (·.1)).Nodup
  rw [oZ l]
  exact b
theorem lV (k b:K) (v:Value) {L:List (K×Value)} (d:(L.map (·.1)).Nodup):nE b (mS k v L)=if b=k then some v else nE b L:=by
 have h1:∀ u,nE b (mS k v L)=some u↔(b,u)∈mS k v L:=fun u=>pj (De k v d)
 have h2:∀ u,nE b L=some u↔(b,u)∈L:=fun u=>pj d
 by_cases e:b=k
 ·rw [aD e]
  exact (h1 v).2 ((qt k v d _).2 (.inl (by rw [e])))
 ·rw [au e]
  cases ha:nE b L with
  | some u=>exact (h1 u).2 ((qt k v d _).2 (.inr ⟨(h2 u).1 ha,e⟩))
  | none =>
   cases i:nE b (mS k v L) with
   | none=>rfl
   | some u =>
    rcases (qt k v d _).1 ((h1 u).1 i) with h | ⟨h,-⟩
    ·exact absurd (aZ Prod.fst h) e
    ·rw [(h2 u).2 h] at ha
     cases ha
theorem fY.AK {w:World} {r:Nat} {L:List (K×Value)} (h:fY w r L):(L.map (·.1)).Nodup:=by
 obtain ⟨es,c,-,-,-,-,b⟩:=h
 exact b
end Go.Proofs.YtkkfmkhbdoeglabGreatDoor.U
