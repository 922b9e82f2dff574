/- A part of what is proved here: lemmas and contracts of single functions. No condition but those that each names. -/
import Derived.Test.YtkkfmkhbdoeglaaGreatDoorG00
import Derived.Test.YtkkfmkhbdoeglaaGreatDoorG16
set_option maxHeartbeats 4000000
set_option maxRecDepth 100000
namespace Go.Proofs.YtkkfmkhbdoeglaaGreatDoor
open Go.RowKit
def rz (l:List UInt8) (w:World) (e:Ending) (w':World):Prop :=
 Below w.heap.size w w'∧match iD l with
  | .inl (n,S)=>∃ r,e = .returned (.tuple #[.int .u64 n,.pointer (some ⟨r+1,0,none⟩),.nilIface])∧EntAt w' (r+1) 0 r S∧w.heap.size≤r
  | .inr (k,p)=>∃ ev,e = .returned (.tuple #[.int .u64 0,.pointer none,ev])∧iT w' w.heap.size ev k p
theorem GG {c:Cu} (h:c.ended.f=none):c.f=none:=by
 obtain ⟨l,a,t,f⟩:=c
 cases f with
 | some f=>simp [Cu.ended] at h
 | none=>rfl
theorem Cd (a b:Nat) (ha:a<65536) (d:b<65536):bits .or .i64 (a:Int) (b:Int)=((a ||| b:Nat):Int):=by
 have i:a ||| b<2^16:=Nat.or_lt_two_pow (by omega) (by omega)
 have key:∀ x:Nat,x<65536→(BitVec.ofInt 64 (x:Int)).toNat=x:=fun x i=>by
  rw [BitVec.ofInt_natCast,BitVec.toNat_ofNat];exact Nat.mod_eq_of_lt (by omega)
 show IntKind.i64.wrap ((BitVec.ofInt 64 (a:Int) ||| BitVec.ofInt 64 (b:Int)).toNat:Int)=_
 rw [BitVec.toNat_or,key a ha,key b d]
 exact IntWalk.i64_in _ (by omega)
theorem FI (x y:UInt8):bits BinOp.or IntKind.i64 ((x.toNat:Int)*256) (y.toNat:Int)=((x.toNat*256+y.toNat:Nat):Int):=by
 have h1:=x.toNat_lt
 have h2:=y.toNat_lt
 have j:x.toNat*256 ||| y.toNat=x.toNat*256+y.toNat:=nat_join 8 _ _ (by omega) (by omega)
 rw [show ((x.toNat:Int)*256)=((x.toNat*256:Nat):Int) by omega,Cd _ _ (by omega) (by omega),j]
def AllEnd (w5:World) (base c r Bl n:Nat) (C:Cu) (W:World):Prop :=
 ∃ cu last S,(iA n C (-1,[]) []).1=cu∧(cu.f=none→(iA n C (-1,[]) []).2=S)∧kQ w5 base c r Bl cu last S W
def Hu (w5:World) (base c r Bl n:Nat) (C:Cu) (i:Value) (W:World):Prop :=
 ∃ m cu last S,m≤n∧i = .int .i64 ((m:Nat):Int)∧iA n C (-1,[]) []=iA m cu last S∧kQ w5 base c r Bl cu last S W
theorem qW (v:Value) (l:List UInt8) (w:World) (kr:BytesAt w v l) (fr:∀ b,v.ownBlock=some b→b<w.heap.size) (hl:l.length≤gx) (kf:ShapesVar w) :
  Calls Tryz.prog 111 #[v] w (rz l w):=by
 obtain ⟨va,N,rfl,-,-⟩:=kr.opened
 have e1:=kf.two
 have HG:=ae kf
 have fz:Below w.heap.size w (w.alloc (.cells #[.slice va l.length N,.int .i64 0,.int .i64 0,.pointer none] 211)):=(Below.refl _ w).alloc (ah _) _
 have d3:BytesAt (w.alloc (.cells #[.slice va l.length N,.int .i64 0,.int .i64 0,.pointer none] 211)) (.slice va l.length N) l:=kr.below fz
 have fB:Hid (CurAt (w.alloc (.cells #[.slice va l.length N,.int .i64 0,.int .i64 0,.pointer none] 211)) w.heap.size w.heap.size ⟨l,0,0,none⟩) :=
  ae ⟨aL _,ah _,hl,ah _,.slice va l.length N,none,fL w _,d3,fun b kt=>fr b kt,rfl⟩
 clear d3 kf
 obtain ⟨a,ks⟩:∃ a,a=Cu.take ⟨l,0,0,none⟩ 8:=⟨_,rfl⟩
 have HA:=ae ks
 clear ks
 go_enter Tryz.func111,Tryz.ntmps111
 go_wp2_with fail
 refine (mo w.heap.size w.heap.size ⟨l,0,0,none⟩ _ fB.out (by simp)).mono ?_
 rintro e w1 ⟨rfl,a6,Y⟩
 rw [←HA.out] at a6⊢
 have f2:w.heap.size+1≤w1.heap.size:=by simpa using Y.size
 have kb:Below w.heap.size w w1:=⟨Y.os,Y.tape,Y.output,by omega,fun k hk=>(Y.block k (by simp;omega) (fun e=>by cases e;omega)).trans (heap_alloc_old _ _ hk)⟩
 obtain ⟨V,kl⟩:∃ V,V=iL a.2:=⟨_,rfl⟩
 have HV:=ae kl
 rw [←kl]
 clear kl
 go_wp2_with fail
 refine (jh V _).mono ?_
 rintro e w2 ⟨rfl,rfl⟩
 go_wp2_with fail
 refine (iK w.heap.size w.heap.size a.1 (isVersionB V) 4 _ a6 (by omega)).mono ?_
 rintro e w2 ⟨rfl,b8,Z⟩
 have f3:=Z.size
 have o:Below w.heap.size w w2:=⟨Z.os.trans kb.os,Z.tape.trans kb.tape,Z.output.trans kb.output,by omega,fun k hk=>(Z.block k (by omega) (fun e=>by cases e;omega)).trans (kb.block k hk)⟩
 obtain ⟨b,hB⟩:∃ b,b=(a.1.jr (isVersionB V) 4).take 2:=⟨_,rfl⟩
 have HB:=ae hB
 clear hB
 go_wp2_with fail
 refine (jH w.heap.size w.heap.size _ 2 _ b8 (by omega) (by decide) (by decide)).mono ?_
 rintro e w3 ⟨vv,rfl,bz,-,a7,aa⟩
 rw [←HB.out] at bz a7
 have f5:=aa.size
 have b3:Below w.heap.size w w3:=⟨aa.os.trans o.os,aa.tape.trans o.tape,aa.output.trans o.output,by omega,fun k hk=>(aa.block k (by omega) (fun e=>by cases e;omega)).trans (o.block k hk)⟩
 obtain ⟨x,y,ca⟩:=uI (show b.2.length=2 by rw [HB.out,Cu.take_length])
 rw [ca] at bz
 have d4:=ae ca
 obtain ⟨hP,hn,rfl,bD,cb⟩:=bz.opened
 obtain ⟨xb,xo,rfl,bH⟩:=cb 0 (by simp)
 obtain ⟨hQ,hR,he,O⟩:=cb 1 (by simp)
 cases he
 simp only [cC,cn,ee] at bH O
 have a9:=fP bH
 have f7:=x.toNat_lt
 have f8:=y.toNat_lt
 simp only [au,aJ] at bD
 clear cb bz ca
 have HT:=ae (kX w3)
 clear a6 b8
 go_wp2_with fail
 refine HT.out.mono ?_
 rintro e Q ⟨rfl,d5,a1,d6⟩
 have cf:=ae d5
 have f9:=ae d6
 have ci:=(a1.cell (p:=⟨xb,xo,none⟩) a9).trans bH
 have cl:=(a1.cell (p:=⟨xb,xo+1,none⟩) a9).trans O
 have ba:xb<Q.heap.size:=by omega
 have e4:w3.heap.size+2≤Q.heap.size:=by omega
 clear d5 d6 bH O HT
 go_wp2_with fail
 generalize bI:Q.alloc (.cells #[.int .i64 (-1),.string ⟨#[]⟩] 94)=w5
 have t5:Below Q.heap.size Q w5:=by rw [←bI];exact (Below.refl _ Q).alloc (ah _) _
 have B5:Hid (w5.heap[Q.heap.size]?=some (.cells #[.int .i64 (-1),.string ⟨#[]⟩] 94 (0,0))):=ae (by rw [←bI];exact fL Q _)
 have s5:w5.heap.size=Q.heap.size+1:=by rw [←bI];simp
 clear bI
 have e5:=(t5.cell (p:=⟨xb,xo,none⟩) ba).trans ci
 have e6:=(t5.cell (p:=⟨xb,xo+1,none⟩) ba).trans cl
 have e7:xb<w5.heap.size:=by omega
 clear ci cl
 obtain ⟨n,kn⟩:∃ n,n=x.toNat*256+y.toNat:=⟨_,rfl⟩
 have gb:bits BinOp.or IntKind.i64 ((x.toNat:Int)*256) (y.toNat:Int)=((n:Nat):Int):=by rw [kn];exact FI x y
 have hS:n<65536:=by omega
 have HN:=ae kn
 clear kn
 go_quiet (fail)
 have R:Below w.heap.size w (w5.drewN nq):=((b3.tn a1).tn t5).drewN nq
 have co:CurAt (w5.drewN nq) w.heap.size w.heap.size b.1:=(((a7.fW a1).fW t5).fW ((Below.refl _ w5).drewN nq))
 have ab:Hid (kQ (w5.drewN nq) w.heap.size w.heap.size w3.heap.size Q.heap.size b.1 (-1,[]) [] (w5.drewN nq)) :=
  ae ⟨co,((cf.out.below t5).tab.fW rfl),((cf.out.below t5).below ((Below.refl _ w5).drewN nq)).cell,B5.out,HG.out.new R,Ext.refl _ _,e1,ah _,by omega,by omega,by show _<w5.heap.size;omega⟩
 obtain ⟨W5,d7⟩:∃ W5,W5=w5.drewN nq:=⟨_,rfl⟩
 rw [←d7] at ab R⊢
 obtain ⟨r,hr⟩:∃ r,r=w3.heap.size:=⟨_,rfl⟩
 obtain ⟨Bl,d8⟩:∃ Bl,Bl=Q.heap.size:=⟨_,rfl⟩
 have ge:w.heap.size<r:=by omega
 have HC:Hid (b.2.getD 0 0=x∧b.2.getD 1 0=y):=ae (by rw [d4.out];exact ⟨rfl,rfl⟩)
 rw [←hr,←d8] at ab⊢
 clear d7 hr d8 co e5 e6 gb cf f9 d4 a7 B5 a9 ba e7 s5 Y Z aa kb o b3 a1 t5 f2 f3 f5 e4 bD f7 f8
 obtain ⟨base,am⟩:∃ base,base=w.heap.size:=⟨_,rfl⟩
 rw [←am] at ab R ge⊢
 have D:=ae am
 clear am
 go_upto_block 0 with fail
 go_cut [] from 36 to 104 (fun wx=>AllEnd W5 base base r Bl n b.1 wx)
 case first =>
  go_wp2_with fail
  go_loopw [10] (fun i wr=>Hu W5 base base r Bl n b.1 i wr) (fun i _=>(intOf i).toNat)
  case atStart=>exact ⟨n,b.1,(-1,[]),[],ah _,rfl,rfl,ab.out⟩
  case round =>
   clear ab
   obtain ⟨m,cu,last,S,hm,rfl,d9,q⟩:=hrel
   have cq:=ae d9
   clear d9
   by_cases bL:0<m∧cu.f=none
   ·obtain ⟨hT,j2⟩:=bL
    obtain ⟨m',rfl⟩:∃ m',m=m'+1:=⟨m-1,by omega⟩
    have hs:(0:Int)<((m'+1:Nat):Int):=by omega
    have k3:=q.cur.jR j2
    have e9:=q.geo
    have ht:=q.size
    obtain ⟨hU,-,hV,hW,hX⟩:=e9
    go_wp2_with fail
    refine (jH base base cu 1 _ q.cur (by omega) (by decide) (by decide)).mono ?_
    rintro e w6 ⟨v6,rfl,cs,-,ct,eb⟩
    obtain ⟨t,ko⟩:=Dh (show (cu.take 1).2.length=1 by rw [Cu.take_length])
    rw [ko] at cs
    have HT:=ae ko
    clear ko
    have bc:=q.zR eb ct
    have hv:=bc.size
    obtain ⟨hY,hw,rfl,ds,cv⟩:=cs.opened
    obtain ⟨tb,tq,rfl,cB⟩:=cv 0 (by simp)
    simp only [cC,cn] at cB
    have hx:=fP cB
    have hZ:=t.toNat_lt
    simp only [au,aJ] at ds
    clear cv cs k3
    go_wp2_with fail
    generalize c0:w6.alloc (.cells #[.int .i64 (t.toNat:Int),.string ⟨#[]⟩] 94)=w7
    have t7:Below w6.heap.size w6 w7:=by rw [←c0];exact (Below.refl _ w6).alloc (ah _) _
    have K7:Hid (w7.heap[w6.heap.size]?=some (.cells #[.int .i64 (t.toNat:Int),.string ⟨#[]⟩] 94 (0,0))):=ae (by rw [←c0];exact fL w6 _)
    clear c0 cB
    have U:=bc.fresh t7
    have hy:=U.size
    obtain ⟨W,ec⟩:∃ W,W=w6.heap.size:=⟨_,rfl⟩
    rw [←ec] at K7⊢
    have fg:Bl<W:=by omega
    have gl:W5.heap.size≤W:=by omega
    have hz:W<w7.heap.size:=fI K7.out
    clear ec
    go_wp2_with fail
    refine (iK base base _ (decide ((t.toNat:Int)<3)) 6 _ U.cur (by omega)).mono ?_
    rintro e w8 ⟨rfl,C,a2⟩
    have d:=U.zR a2 C
    have hA:=d.size
    have K8:=ae (U.boxes K7.out (by omega) a2)
    clear ct C bc U eb a2 K7 t7 q
    obtain ⟨c1,O⟩:∃ c1,c1=(cu.take 1).1.jr (decide ((t.toNat:Int)<3)) 6:=⟨_,rfl⟩
    rw [←O] at d
    have bM:=ae O
    clear O
    cases ag:c1.f with
    | some f =>
     obtain ⟨g8,gn⟩:=d.cur.qG (by rw [ag];simp)
     go_wp2_with fail
     go_meet
     have fi:iA n b.1 (-1,[]) []=(c1,S):=by
      rw [cq.out,qX j2 (c':=c1)]
      have:=DJ (last:=last) HT.out (f:=f) (by rw [←bM.out];exact ag)
      rw [bM.out]
      exact this
     exact ⟨c1,last,S,by rw [fi],(fun h=>by rw [ag] at h;cases h),d⟩
    | none =>
     have k8:=d.cur.jR ag
     have c3:t.toNat<3:=by
      have:=(rJ (bM.out▸ag)).2
      have:=dV this
      omega
     have c4:(t.toNat:Int)<3:=by omega
     have c5:(0:Int)≤t.toNat:=by omega
     have X:=af _ _ 0 _ _ _ K8.out
     have x1:=af _ _ 1 _ _ _ K8.out
     have ed:=ao _ _ 1 _ _ K8.out
     have lx:=fI K8.out
     have sk:=CP d.shp t c3
     have sv:=wo d.shp t c3
     go_wp2_with fail
     obtain ⟨o,bN⟩:∃ o,o=c1.take (fN (t.toNat:Int)):=⟨_,rfl⟩
     refine (jH base base c1 (fN (t.toNat:Int)) _ d.cur (by omega) (sS _) (Cl _)).mono ?_
     rintro e w9 ⟨v9,rfl,bO,-,bi,eg⟩
     rw [←bN] at bO bi
     have bk:=d.zR eg bi
     have hD:=bk.size
     have K9:=ae (d.boxes K8.out (by omega) eg)
     have X:=af _ _ 0 _ _ _ K9.out
     have x1:=af _ _ 1 _ _ _ K9.out
     have ed:=ao _ _ 1 _ _ K9.out
     have lx:=fI K9.out
     have h0:o.2.length≤100:=by rw [bN,Cu.take_length];exact sS _
     obtain ⟨h3,hE,rfl,g4,-⟩:=bO.opened
     have fl:=bO.convert
     have go:=ae bN
     clear bN bi sk sv K8 k8 bO
     go_wp2_with fail
     have bn:w9.grownBy (w9.setCell ⟨W,1,none⟩ (.string ⟨o.2.toArray⟩)) (some W):=grownBy_set (Below.refl _ w9) 1 _
     have J:=bk.I5 K9.out fg (by decide) bn gl
     have ak:=ae (heap_setCell w9 W 1 (.string ⟨o.2.toArray⟩) K9.out)
     have dT:=bn.size
     generalize w9.setCell ⟨W,1,none⟩ (.string ⟨o.2.toArray⟩)=h4 at J ak dT⊢
     clear bn fl X x1 ed
     have X:=af _ _ 0 _ _ _ ak.out
     have x1:=af _ _ 1 _ _ _ ak.out
     go_wp2_with fail
     refine (oG (t.toNat:Int) o.2 _ J.shp c5 c4 (by unfold gx;omega)).mono ?_
     rintro e h5 ⟨rfl,bo⟩
     have E:=J.fresh bo
     have ej:=ae (fK bo (fI ak.out) ak.out)
     have g5:=E.size
     clear X x1
     go_wp2_with fail
     refine (iK base base _ (iw (t.toNat:Int) o.2) 7 _ E.cur (by omega)).mono ?_
     rintro e el ⟨rfl,bP,br⟩
     have B:=E.zR br bP
     have al:=ae (E.boxes ej.out (by omega) br)
     have g6:=B.size
     have X:=af _ _ 0 _ _ _ al.out
     have x1:=af _ _ 1 _ _ _ al.out
     have y0:=af _ _ 0 _ _ _ B.box
     have y1:=af _ _ 1 _ _ _ B.box
     have lx:=fI al.out
     have ly:=fI B.box
     clear bP
     go_wp2_with fail
     refine (xS last ((t.toNat:Int),o.2) _).mono ?_
     rintro e gs ⟨rfl,gq,h6,c7⟩
     have bs:Below el.heap.size el gs:=by rw [c7];exact Cb _ _ _
     clear c7
     have F:=B.fresh bs
     have em:=ae (fK bs (fI al.out) al.out)
     have g7:=F.size
     clear X x1 y0 y1
     go_wp2_with fail
     refine (iK base base _ (decide (oA last ((t.toNat:Int),o.2)<0)) 14 _ F.cur (by omega)).mono ?_
     rintro e h7 ⟨rfl,bS,bt⟩
     have s:=F.zR bt bS
     have a3:=ae (F.boxes em.out (by omega) bt)
     have g9:=s.size
     obtain ⟨c2,c8⟩:∃ c2,c2=(o.1.jr (iw (t.toNat:Int) o.2) 7).jr (decide (oA last ((t.toNat:Int),o.2)<0)) 14:=⟨_,rfl⟩
     rw [←c8] at s
     have gt:=ae c8
     have X:=af _ _ 0 _ _ _ a3.out
     have x1:=af _ _ 1 _ _ _ a3.out
     have sv:=wo s.shp t c3
     have lx:=fI a3.out
     clear bS c8 d bk J E B F K9 ak ej al em
     go_wp2_with fail
     obtain ⟨d2,bX⟩:∃ d2,d2=c2.take (fZ (t.toNat:Int)):=⟨_,rfl⟩
     refine (jH base base c2 (fZ (t.toNat:Int)) _ s.cur (by omega) (tz _) (CZ _)).mono ?_
     rintro e h8 ⟨h9,rfl,aE,-,a0,bv⟩
     rw [←bX] at aE a0
     have M:=s.zR bv a0
     have hb:=M.size
     have a4:=ae (s.boxes a3.out (by omega) bv)
     have X:=af _ _ 0 _ _ _ a4.out
     have lx:=fI a4.out
     have ib:d2.2.length≤100:=by rw [bX,Cu.take_length];exact tz _
     obtain ⟨hG,hd,rfl,gu,-⟩:=aE.opened
     have d0:=aE.convert
     have gv:=ae bX
     clear bX a0 sv aE x1
     go_wp2_with fail
     refine (p8 (t.toNat:Int) d2.2 _ M.shp c5 c4 (by unfold gx;omega)).mono ?_
     rintro e ii ⟨rfl,bw⟩
     have G:=M.fresh bw
     have en:=ae (fK bw (fI a4.out) a4.out)
     have hf:=G.size
     clear X d0
     go_wp2_with fail
     refine (iK base base _ (gG (t.toNat:Int) d2.2) 9 _ G.cur (by omega)).mono ?_
     rintro e io ⟨rfl,b0,bx⟩
     have I:=G.zR bx b0
     have a5:=ae (G.boxes en.out (by omega) bx)
     have hg:=I.size
     have X:=af _ _ 0 _ _ _ a5.out
     have x1:=af _ _ 1 _ _ _ a5.out
     have lx:=fI a5.out
     have kw:=I.cell
     have lq:=fP kw
     clear b0
     obtain ⟨W1,hu,g0,er,ip⟩:=I.tab.put (mt:=107) Tryz.underlying107 ((t.toNat:Int),o.2) d2.2
     have eC:=hu 1
     have c9:∀ w:World,w.drewN 1=w.drew:=fun _=>rfl
     rw [c9,c9] at eC
     simp only [kV,iX,kP] at eC
     have u:=I.put er g0
     have da:Hid (W1.heap[W]?=some (.cells #[.int .i64 (t.toNat:Int),.string ⟨o.2.toArray⟩] 94 (0,0))):=ae ((er.block W lx (fun e=>by cases e;omega)).trans a5.out)
     clear hu c9
     have fn:Hid (iA n b.1 (-1,[]) []=iA m' (d2.1.jr (gG (t.toNat:Int) d2.2) 9) ((t.toNat:Int),o.2) (jJ ((t.toNat:Int),o.2) d2.2 S)):=ae (by
      rw [cq.out]
      exact oT j2 (Ic HT.out bM.out ag rfl go.out gt.out gv.out))
     have b1:=(u.fresh ((Below.refl _ W1).drew)).step ((t.toNat:Int),o.2)
     have hh:=ae b1
     have z0:=af _ _ 0 _ _ _ da.out
     have z1:=af _ _ 1 _ _ _ da.out
     have y0:=af _ _ 0 _ _ _ u.box
     have y1:=af _ _ 1 _ _ _ u.box
     have i0:=ao _ _ 0 _ _ u.box
     have i1:=ao _ _ 1 _ _ u.box
     have hI:=fI da.out
     have hJ:=fI u.box
     clear b1 s M G a3 a4 en bt bv bx bw bo bs br I a5
     go_wp2_with fail
     go_region
     go_wp2
     refine ⟨⟨m',_,_,_,by omega,rfl,fn.out,(u.step ((t.toNat:Int),o.2)).fresh ((Below.refl _ _).drew)⟩,?_⟩
     simp [intOf]
   ·have dc:(iA n b.1 (-1,[]) []).1=cu∧(cu.f=none→(iA n b.1 (-1,[]) []).2=S):=by
     rw [cq.out]
     by_cases kd:0<m
     ·cases j2:cu.f with
      | none=>exact absurd ⟨kd,j2⟩ bL
      | some f=>exact ⟨qY j2,fun h=>by cases h⟩
     ·rw [show m=0 by omega]
      exact ⟨rfl,fun _=>rfl⟩
    have dl:=ae dc
    have d1:(¬(0:Int)<m)∨((0:Int)<m∧∃ g,wr.cell? ⟨base,3,none⟩=some (.pointer (some ⟨g,0,none⟩))):=by
     by_cases kd:0<m
     ·cases j2:cu.f with
      | none=>exact absurd ⟨kd,j2⟩ bL
      | some f=>exact .inr ⟨by omega,q.cur.qG (by rw [j2];simp)⟩
     ·exact .inl (by omega)
    clear dc bL
    have lc:=q.cur.lt
    rcases d1 with kd | ⟨kd,gg,i2⟩
    all_goals
     go_wp2_with fail
     go_meet
     exact ⟨cu,last,S,dl.out.1,dl.out.2,q⟩
 case rest =>
  obtain ⟨cu,last,S,eD,eS,q⟩:=hcut
  have hL:=q.size
  have i3:=R.size
  have ab:=ae q
  have dn:Hid (iD l=match cu.ended.f with | some f => .inr f | none => .inl (V,(iA n b.1 (-1,[]) []).2)):=ae (by
   unfold iD
   simp only [←HA.out,←HV.out,←HB.out,HC.out.1,HC.out.2,←HN.out,eD]
   cases cu.ended.f <;> rfl)
  have g1:=ae eS
  clear eD eS
  go_wp2_with fail
  refine (xC base base cu _ q.cur (by have:=D.out;omega)).mono ?_
  rintro e w8 ⟨rfl,C,a2⟩
  have d:=q.zR a2 C
  have hM:=C.lt
  have eT:Below base w w8:=by
   have h1:=d.ext
   have h2:=d.geo
   exact R.trans (h1.below (by have:=D.out;omega) (fun j hj e=>by rcases e with e | e | e <;> omega))
  cases j3:cu.ended.f with
  | some kp =>
   obtain ⟨kk,pp⟩:=kp
   obtain ⟨g,gn,g2,eV⟩:=C.fault j3
   have HP:Hid (iD l = .inr (kk,pp)):=ae (by rw [dn.out,j3])
   have g3:=ae eV
   have i4:=ae D.out
   clear j3 eV
   go_wp2_with fail
   go_quiet (fail)
   go_wp2
   go_ret3
   unfold rz
   rw [HP.out,←D.out]
   exact ⟨eT.drewN _,_,rfl,g,rfl,g2,g3.out⟩
  | none =>
   have k3:=C.jR j3
   have HP:Hid (iD l = .inl (V,S)):=ae (by rw [dn.out,j3,g1.out (GG j3)])
   go_wp2
   go_ret3
   unfold rz
   rw [HP.out,←D.out]
   exact ⟨eT,r,rfl,⟨d.cell,d.tab⟩,by omega⟩
end Go.Proofs.YtkkfmkhbdoeglaaGreatDoor
namespace Go.Proofs.YtkkfmkhbdoeglaaGreatDoor
open Go.RowKit
theorem ic.apart {w:World} {v:Value} {S:List E} (h:ic w v S) {B:Nat} {k j d:IntKind} {a b c:Int} {T:TypeId} {fz:Nat×Nat} (l:w.heap[B]?=some (.cells #[.int k a,.int j b,.int d c] T fz)):S=[]∨v.ownBlock≠some B:=by
 cases S with
 | nil=>exact .inl rfl
 | cons x S =>
  refine .inr fun e => ?_
  obtain ⟨o,cap,rfl,-,m⟩:=h.opened
  obtain ⟨g,off,rfl,-,c1,-⟩:=m 0 (by simp)
  obtain rfl:g=B:=by simpa [Value.ownBlock] using e
  rw [af _ _ _ _ _ _ l] at c1
  have i:=(cx.1 c1).1
  simp at i
  have:off=0∨off=1:=by omega
  rcases this with rfl | rfl <;> simp at c1
theorem ic.gh {w:World} {v:Value} {S:List E} (h:ic w v S) (p:Addr) (u:Value) (b:v.ownBlock≠some p.block):ic (w.setCell p u) v S:=fR.gh h p u b
end Go.Proofs.YtkkfmkhbdoeglaaGreatDoor
