/- Lemmas of the proof. No condition. -/
import Derived.Test.YtkkfmkhbdoeglabGreatDoorV12
set_option maxHeartbeats 4000000
set_option maxRecDepth 100000
namespace Go.Proofs.YtkkfmkhbdoeglabGreatDoor
open Go.World renaming heap->Q
open List renaming length->O,toArray->Rm
open Option renaming none->J,some->N
open _root_.Array renaming size->G
open Go.Proofs.Tryz
open Go.RowKit
variable{S:List E}{v:Value}{w:World}
def wG(l:gw)(w:World)(e:Ending)(w':World):Prop:=
 Below (G (Q w)) w w'/\match kJ l with
  | .inl (n,S)=>∃r,e=.returned (.tuple #[.int .u64 n,.pointer (N ⟨r+1,0,none⟩),.nilIface])/\jt w' (r+1) 0 r S/\G (Q w)<=r
  | .inr (k,p)=>∃ev,e=.returned (.tuple #[.int .u64 0,.pointer J,ev])/\mB w' (G (Q w)) ev k p
theorem Oz{c:Cu}(h:c.mT.f=J):c.f=J:=by
 obtain⟨l,a,t,f⟩:=c;cases f with
 | some f=>simp[Cu.mT]at h
 | none=>rfl
theorem IM(a b:Nat)(ha:a<65536)(d:b<65536):bits .or .i64 (a:Int) (b:Int)=((a ||| b:Nat):Int):=by
 have i:a ||| b<2^16:=Nat.or_lt_two_pow (by omega) (by omega);have key:∀x:Nat,x<65536->(BitVec.ofInt 64 (x:Int)).toNat=x:=fun x i=>by rw[BitVec.ofInt_natCast,BitVec.toNat_ofNat];exact Nat.mod_eq_of_lt (by omega)
 show IntKind.i64.wrap ((BitVec.ofInt 64 (a:Int) ||| BitVec.ofInt 64 (b:Int)).toNat:Int)=_;rw[BitVec.toNat_or,key a ha,key b d];exact IntWalk.i64_in _ (by omega)
theorem Nn(x y:UInt8):bits BinOp.or .i64 ((x.toNat:Int)*256) (y.toNat:Int)=((x.toNat*256+y.toNat:Nat):Int):=by have h1:=x.toNat_lt;have b:=y.toNat_lt;have j:x.toNat*256 ||| y.toNat=x.toNat*256+y.toNat:=nat_join 8 _ _ (by omega) (by omega);rw[show((x.toNat:Int)*256)=((x.toNat*256:Nat):Int) by omega,IM _ _ (by omega) (by omega),j]
def AllEnd(w5:World)(base c r Bl n:Nat)(C:Cu)(W:World):Prop:=
 ∃cu last S,(km n C (-1,[]) []).1=cu/\(cu.f=J->(km n C (-1,[]) []).2=S)/\oL w5 base c r Bl cu last S W
def Pq(w5:World)(base c r Bl n:Nat)(C:Cu)(i:Value)(W:World):Prop:=
 ∃m cu last S,m<=n/\i=.int .i64 ((m:Nat):Int)/\km n C (-1,[]) []=km m cu last S/\oL w5 base c r Bl cu last S W
theorem vW(v:Value)(l:gw)(w:World)(j0:gI w v l)(fr:∀b,Value.ownBlock v=N b->b<G (Q w))(hl:O l<=im)(hg:gZ w):
  Calls prog 192 #[v] w (wG l w):=by
 obtain⟨va,X,rfl,-,-⟩:=j0.gU;have e1:=hg.two;have HG:=gj hg;have fx:Below (G (Q w)) w (World.alloc w (.cells #[.slice va (O l) X,.int .i64 0,.int .i64 0,.pointer J] 254)):=(gJ w).alloc gH _;have d3:gI (World.alloc w (.cells #[.slice va (O l) X,.int .i64 0,.int .i64 0,.pointer J] 254)) (.slice va (O l) X) l:=j0.below fx
 have fz:gy (jd (World.alloc w (.cells #[.slice va (O l) X,.int .i64 0,.int .i64 0,.pointer J] 254)) (G (Q w)) (G (Q w)) ⟨l,0,0,J⟩):=
  gj ⟨aJ _,aq _,hl,aq _,.slice va (O l) X,J,gB w _,d3,fun b kf=>fr b kf,rfl⟩
 clear d3 hg;obtain⟨a,j1⟩:∃a,a=Cu.take ⟨l,0,0,J⟩ 8:=⟨_,rfl⟩;have HA:=gj j1;clear j1;go_enter func192,ntmps192;go_wp2_with fail;refine(qv (G (Q w)) (G (Q w)) ⟨l,0,0,J⟩ _ fz.o (by simp)).mono ?_;rintro e w1 ⟨rfl,bk,ap⟩;rw[<-HA.o]at bk⊢;have f0:G (Q w)+1<=G (Q w1):=by simpa using ap.size
 have i8:Below (G (Q w)) w w1:=⟨ap.os,ap.tape,ap.output,by omega,fun k hk=>(ap.block k (by simp;omega) (fun e=>by cases e;omega)).trans (heap_alloc_old _ _ hk)⟩;obtain⟨V,jj⟩:∃V,V=j6 a.2:=⟨_,rfl⟩;have HV:=gj jj;rw[<-jj];clear jj;go_wp2_with fail;refine(sJ V _).mono ?_;rintro e w2 ⟨rfl,rfl⟩;go_wp2_with fail;refine(kZ (G (Q w)) (G (Q w)) a.1 (ij V) 4 _ bk (by omega)).mono ?_;rintro e w2 ⟨rfl,cd,av⟩;have f1:=av.size;have b2:Below (G (Q w)) w w2:=⟨av.os.trans i8.os,av.tape.trans i8.tape,av.output.trans i8.output,by omega,fun k hk=>(av.block k (by omega) (fun e=>by cases e;omega)).trans (i8.block k hk)⟩;obtain⟨b,j2⟩:∃b,b=(a.1.mG (ij V) 4).take 2:=⟨_,rfl⟩;have HB:=gj j2;clear j2;go_wp2_with fail;refine(nb (G (Q w)) (G (Q w)) _ 2 _ cd (by omega) (by decide) (by decide)).mono ?_;rintro e w3 ⟨vv,rfl,bL,-,bl,aE⟩;rw[<-HB.o]at bL bl;have f3:=aE.size;have j3:Below (G (Q w)) w w3:=⟨aE.os.trans b2.os,aE.tape.trans b2.tape,aE.output.trans b2.output,by omega,fun k hk=>(aE.block k (by omega) (fun e=>by cases e;omega)).trans (b2.block k hk)⟩;obtain⟨x,y,ce⟩:=tY (show(O b.2)=2 by rw[HB.o,Cu.take_length]);rw[ce]at bL;have d4:=gj ce;obtain⟨hM,hi,rfl,bM,cg⟩:=bL.gU;obtain⟨xb,xo,rfl,bN⟩:=cg 0 (by simp);obtain⟨hN,hO,he,Z⟩:=cg 1 (by simp);cases he;simp only[cL,cG,eG]at bN Z;have bn:=gK bN;have f5:=x.toNat_lt;have f6:=y.toNat_lt;simp only[ao,aI]at bM;clear cg bL ce;have HT:=gj (sL w3);clear bk cd;go_wp2_with fail;refine HT.o.mono ?_;rintro e w4 ⟨rfl,d5,a9,d6⟩;have cl:=gj d5;have f7:=gj d6;have cm:=(a9.cell (p:=⟨xb,xo,J⟩) bn).trans bN;have cn:=(a9.cell (p:=⟨xb,xo+1,J⟩) bn).trans Z;have bo:xb<G (Q w4):=by omega
 have e4:G (Q w3)+2<=G (Q w4):=by omega
 clear d5 d6 bN Z HT;go_wp2_with fail;generalize bO:World.alloc w4 (.cells #[.int .i64 (-1),.string ⟨#[]⟩] 103)=w5;have t5:Below (G (Q w4)) w4 w5:=by rw[<-bO];exact(gJ w4).alloc gH _
 have B5:gy (w5.heap[G (Q w4)]?=N (.cells #[.int .i64 (-1),.string ⟨#[]⟩] 103 (0,0))):=gj (by rw[<-bO];exact gB w4 _);have s5:G (Q w5)=G (Q w4)+1:=by rw[<-bO];simp
 clear bO;have e5:=(t5.cell (p:=⟨xb,xo,J⟩) bo).trans cm;have e6:=(t5.cell (p:=⟨xb,xo+1,J⟩) bo).trans cn;have e7:xb<G (Q w5):=by omega
 clear cm cn;obtain⟨n,hn⟩:∃n,n=x.toNat*256+y.toNat:=⟨_,rfl⟩;have f9:bits BinOp.or .i64 ((x.toNat:Int)*256) (y.toNat:Int)=((n:Nat):Int):=by rw[hn];exact Nn x y
 have hP:n<65536:=by omega
 have HN:=gj hn;clear hn;go_quiet (fail);have ag:Below (G (Q w)) w (w5.drewN nq):=((j3.tn a9).tn t5).drewN nq;have co:jd (w5.drewN nq) (G (Q w)) (G (Q w)) b.1:=(((bl.iI a9).iI t5).iI ((gJ w5).drewN nq))
 have a0:gy (oL (w5.drewN nq) (G (Q w)) (G (Q w)) (G (Q w3)) (G (Q w4)) b.1 (-1,[]) [] (w5.drewN nq)):=
  gj ⟨co,((cl.o.below t5).jh.iI rfl),((cl.o.below t5).below ((gJ w5).drewN nq)).cell,B5.o,HG.o.new ag,gR.refl _ _,e1,aq _,by omega,by omega,by show _<G (Q w5);omega⟩
 obtain⟨W5,d7⟩:∃W5,W5=w5.drewN nq:=⟨_,rfl⟩;rw[<-d7]at a0 ag⊢;obtain⟨r,kb⟩:∃r,r=G (Q w3):=⟨_,rfl⟩;obtain⟨Bl,d8⟩:∃Bl,Bl=G (Q w4):=⟨_,rfl⟩;have gb:G (Q w)<r:=by omega
 have HC:gy (b.2.getD 0 0=x/\b.2.getD 1 0=y):=gj (by rw[d4.o];exact⟨rfl,rfl⟩);rw[<-kb,<-d8]at a0⊢;clear d7 kb d8 co e5 e6 f9 cl f7 d4 bl B5 bn bo e7 s5 ap av aE i8 b2 j3 a9 t5 f0 f1 f3 e4 bM f5 f6;obtain⟨base,a4⟩:∃base,base=G (Q w):=⟨_,rfl⟩;rw[<-a4]at a0 ag gb⊢;have D:=gj a4;clear a4;go_upto_block 0 with fail;go_cut []from 36 to 104 (fun wx=>AllEnd W5 base base r Bl n b.1 wx)
 case first=>
  go_wp2_with fail;go_loopw [10] (fun i wr=>Pq W5 base base r Bl n b.1 i wr) (fun i _=>(intOf i).toNat)
  case atStart=>exact⟨n,b.1,(-1,[]),[],aq _,rfl,rfl,a0.o⟩
  case round=>
   clear a0;obtain⟨m,cu,last,S,hm,rfl,d9,q⟩:=hrel;have cq:=gj d9;clear d9;by_cases bP:0<m/\cu.f=J
   .obtain⟨hQ,i6⟩:=bP;obtain⟨m',rfl⟩:∃m',m=m'+1:=⟨m-1,by omega⟩;have hp:(0:Int)<((m'+1:Nat):Int):=by omega
    have k3:=q.cur.nt i6;have e9:=q.geo;have hr:=q.size;obtain⟨hR,-,hS,hT,hU⟩:=e9;go_wp2_with fail;refine(nb base base cu 1 _ q.cur (by omega) (by decide) (by decide)).mono ?_;rintro e w6 ⟨v6,rfl,cs,-,ct,eb⟩;obtain⟨t,jp⟩:=Kk (show(cu.take 1).2.length=1 by rw[Cu.take_length]);rw[jp]at cs;have HT:=gj jp;clear jp;have bs:=q.FW eb ct;have hs:=bs.size;obtain⟨hV,ht,rfl,ds,cv⟩:=cs.gU;obtain⟨tb,tq,rfl,cB⟩:=cv 0 (by simp);simp only[cL,cG]at cB;have hu:=gK cB;have hW:=t.toNat_lt;simp only[ao,aI]at ds;clear cv cs k3;go_wp2_with fail;generalize c0:World.alloc w6 (.cells #[.int .i64 (t.toNat:Int),.string ⟨#[]⟩] 103)=w7;have t7:Below (G (Q w6)) w6 w7:=by rw[<-c0];exact(gJ w6).alloc gH _
    have K7:gy (w7.heap[G (Q w6)]?=N (.cells #[.int .i64 (t.toNat:Int),.string ⟨#[]⟩] 103 (0,0))):=gj (by rw[<-c0];exact gB w6 _);clear c0 cB;have ak:=bs.rU t7;have hv:=ak.size;obtain⟨Bk,ec⟩:∃Bk,Bk=G (Q w6):=⟨_,rfl⟩;rw[<-ec]at K7⊢;have fg:Bl<Bk:=by omega
    have gf:G (Q W5)<=Bk:=by omega
    have hw:Bk<G (Q w7):=gm K7.o;clear ec;go_wp2_with fail;refine(kZ base base _ (decide ((t.toNat:Int)<3)) 6 _ ak.cur (by omega)).mono ?_;rintro e w8 ⟨rfl,C,ba⟩;have d:=ak.FW ba C;have hx:=d.size;have K8:=gj (ak.boxes K7.o (by omega) ba);clear ct C bs ak eb ba K7 t7 q;obtain⟨c1,Z⟩:∃c1,c1=(cu.take 1).1.mG (decide ((t.toNat:Int)<3)) 6:=⟨_,rfl⟩;rw[<-Z]at d;have bR:=gj Z;clear Z;cases a1:c1.f with
    | some f=>
     obtain⟨g8,gg⟩:=d.cur.vG (by rw[a1];simp);go_wp2_with fail;go_meet;have fi:km n b.1 (-1,[]) []=(c1,S):=by rw[cq.o,vX i6 (c':=c1)];have:=KY (last:=last) HT.o (f:=f) (by rw[<-bR.o];exact a1);rw[bR.o];exact this
     exact⟨c1,last,S,by rw[fi],(fun h=>by rw[a1]at h;cases h),d⟩
    | none=>
     have k8:=d.cur.nt a1;have c3:t.toNat<3:=by have:=(wU (bR.o▸a1)).2;have:=dh this;omega
     have c4:(t.toNat:Int)<3:=by omega
     have c5:(0:Int)<=t.toNat:=by omega
     have x0:=gr 0 K8.o;have x1:=gr 1 K8.o;have ed:=gD 1 K8.o;have lx:=gm K8.o;have sk:=JA d.shp t c3;have sv:=BY d.shp t c3;go_wp2_with fail;obtain⟨b2,bS⟩:∃b2,b2=c1.take (gL (t.toNat:Int)):=⟨_,rfl⟩;refine(nb base base c1 (gL (t.toNat:Int)) _ d.cur (by omega) (yH _) (IU _)).mono ?_;rintro e w9 ⟨v9,rfl,bX,-,bt,eg⟩;rw[<-bS]at bX bt;have bv:=d.FW eg bt;have hA:=bv.size;have K9:=gj (d.boxes K8.o (by omega) eg);have x0:=gr 0 K9.o;have x1:=gr 1 K9.o;have ed:=gD 1 K9.o;have lx:=gm K9.o;have hX:O b2.2<=100:=by rw[bS,Cu.take_length];exact yH _
     obtain⟨hY,hB,rfl,g2,-⟩:=bX.gU;have fl:=bX.convert;have gl:=gj bS;clear bS bt sk sv K8 k8 bX;go_wp2_with fail;have bx:w9.grownBy (World.setCell w9 ⟨Bk,1,J⟩ (.string ⟨Rm b2.2⟩)) (N Bk):=jg (gJ w9) 1 _;have U:=bv.QC K9.o fg (by decide) bx gf;have a2:=gj (QN w9 Bk 1 (.string ⟨Rm b2.2⟩) K9.o);have dT:=bx.size;generalize World.setCell w9 ⟨Bk,1,J⟩ (.string ⟨Rm b2.2⟩)=w10 at U a2 dT⊢;clear bx fl x0 x1 ed;have x0:=gr 0 a2.o;have x1:=gr 1 a2.o;go_wp2_with fail;refine(yG (t.toNat:Int) b2.2 _ U.shp c5 c4 (by unfold im;omega)).mono ?_;rintro e hZ ⟨rfl,bz⟩;have E:=U.rU bz;have ej:=gj (gC bz (gm a2.o) a2.o);have g3:=E.size;clear x0 x1;go_wp2_with fail;refine(kZ base base _ (js (t.toNat:Int) b2.2) 7 _ E.cur (by omega)).mono ?_;rintro e el ⟨rfl,b0,bA⟩;have B:=E.FW bA b0;have a3:=gj (E.boxes ej.o (by omega) bA);have g4:=B.size;have x0:=gr 0 a3.o;have x1:=gr 1 a3.o;have y0:=gr 0 B.box;have y1:=gr 1 B.box;have lx:=gm a3.o;have ly:=gm B.box;clear b0;go_wp2_with fail;refine(DL last ((t.toNat:Int),b2.2) _).mono ?_;rintro e gp ⟨rfl,kn,h0,c7⟩;have bB:Below (G (Q el)) el gp:=by rw[c7];exact IK _ _ _
     clear c7;have F:=B.rU bB;have em:=gj (gC bB (gm a3.o) a3.o);have g5:=F.size;clear x0 x1 y0 y1;go_wp2_with fail;refine(kZ base base _ (decide (sZ last ((t.toNat:Int),b2.2)<0)) 14 _ F.cur (by omega)).mono ?_;rintro e h2 ⟨rfl,b1,bD⟩;have s:=F.FW bD b1;have bb:=gj (F.boxes em.o (by omega) bD);have g6:=s.size;obtain⟨c2,c8⟩:∃c2,c2=(b2.1.mG (js (t.toNat:Int) b2.2) 7).mG (decide (sZ last ((t.toNat:Int),b2.2)<0)) 14:=⟨_,rfl⟩;rw[<-c8]at s;have gq:=gj c8;have x0:=gr 0 bb.o;have x1:=gr 1 bb.o;have sv:=BY s.shp t c3;have lx:=gm bb.o;clear b1 c8 d bv U E B F K9 a2 ej a3 em;go_wp2_with fail;obtain⟨d2,b3⟩:∃d2,d2=c2.take (iu (t.toNat:Int)):=⟨_,rfl⟩;refine(nb base base c2 (iu (t.toNat:Int)) _ s.cur (by omega) (yU _) (JL _)).mono ?_;rintro e h3 ⟨h4,rfl,a7,-,a8,bE⟩;rw[<-b3]at a7 a8;have W:=s.FW bE a8;have g7:=W.size;have bc:=gj (s.boxes bb.o (by omega) bE);have x0:=gr 0 bc.o;have lx:=gm bc.o;have h5:O d2.2<=100:=by rw[b3,Cu.take_length];exact yU _
     obtain⟨hC,g9,rfl,gs,-⟩:=a7.gU;have d0:=a7.convert;have gt:=gj b3;clear b3 a8 sv a7 x1;go_wp2_with fail;refine(zo (t.toNat:Int) d2.2 _ W.shp c5 c4 (by unfold im;omega)).mono ?_;rintro e h6 ⟨rfl,bH⟩;have M:=W.rU bH;have en:=gj (gC bH (gm bc.o) bc.o);have hb:=M.size;clear x0 d0;go_wp2_with fail;refine(kZ base base _ (jb (t.toNat:Int) d2.2) 9 _ M.cur (by omega)).mono ?_;rintro e h7 ⟨rfl,b4,bI⟩;have R:=M.FW bI b4;have bi:=gj (M.boxes en.o (by omega) bI);have hd:=R.size;have x0:=gr 0 bi.o;have x1:=gr 1 bi.o;have lx:=gm bi.o;have kl:=R.cell;have lq:=gK kl;clear b4;obtain⟨W1,kd,gx,eo,h8⟩:=R.jh.put (mt:=162) underlying162 ((t.toNat:Int),b2.2) d2.2;have er:=kd 1;have c9:∀w:World,w.drewN 1=w.drew:=fun _=>rfl;rw[c9,c9]at er;simp only[kV,nd,nW]at er;have u:=R.put eo gx;have da:gy (W1.heap[Bk]?=N (.cells #[.int .i64 (t.toNat:Int),.string ⟨Rm b2.2⟩] 103 (0,0))):=gj ((eo.block Bk lx (fun e=>by cases e;omega)).trans bi.o);clear kd c9;have fn:gy (km n b.1 (-1,[]) []=km m' (d2.1.mG (jb (t.toNat:Int) d2.2) 9) ((t.toNat:Int),b2.2) (nf ((t.toNat:Int),b2.2) d2.2 S)):=gj (by rw[cq.o];exact tH i6 (PC HT.o bR.o a1 rfl gl.o gq.o gt.o));have b5:=(u.rU ((gJ W1).drew)).step ((t.toNat:Int),b2.2);have hf:=gj b5;have z0:=gr 0 da.o;have z1:=gr 1 da.o;have y0:=gr 0 u.box;have y1:=gr 1 u.box;have h9:=gD 0 u.box;have ia:=gD 1 u.box;have hE:=gm da.o;have hG:=gm u.box;clear b5 s W M bb bc en bD bE bI bH bz bB bA R bi;go_wp2_with fail;go_region;go_wp2;refine⟨⟨m',_,_,_,by omega,rfl,fn.o,(u.step ((t.toNat:Int),b2.2)).rU ((kz).drew)⟩,?_⟩;simp[intOf]
   .have dc:(km n b.1 (-1,[]) []).1=cu/\(cu.f=J->(km n b.1 (-1,[]) []).2=S):=by
     rw[cq.o];by_cases i9:0<m
     .cases i6:cu.f with
      | none=>exact absurd ⟨i9,i6⟩ bP
      | some f=>exact⟨vY i6,fun h=>by cases h⟩
     .rw[show m=0 by omega];exact⟨rfl,fun _=>rfl⟩
    have dl:=gj dc;have d1:(¬(0:Int)<m)\/((0:Int)<m/\∃g,World.cell? wr ⟨base,3,J⟩=N (.pointer (N ⟨g,0,J⟩))):=by
     by_cases i9:0<m
     .cases i6:cu.f with
      | none=>exact absurd ⟨i9,i6⟩ bP
      | some f=>exact .inr ⟨by omega,q.cur.vG (by rw[i6];simp)⟩
     .exact .inl (by omega)
    clear dc bP;have lc:=q.cur.lt;rcases d1 with i9|⟨i9,ko,ib⟩
    all_goals
     go_wp2_with fail;go_meet;exact⟨cu,last,S,dl.o.1,dl.o.2,q⟩
 case rest=>
  obtain⟨cu,last,S,eD,eS,q⟩:=hcut;have hH:=q.size;have ic:=ag.size;have a0:=gj q;have dn:gy (kJ l=match cu.mT.f with|some f=>.inr f|none=>.inl (V,(km n b.1 (-1,[]) []).2)):=gj (by unfold kJ;simp only[<-HA.o,<-HV.o,<-HB.o,HC.o.1,HC.o.2,<-HN.o,eD];cases cu.mT.f<;>rfl);have gz:=gj eS;clear eD eS;go_wp2_with fail;refine(Dt base base cu _ q.cur (by have:=D.o;omega)).mono ?_;rintro e w8 ⟨rfl,C,ba⟩;have d:=q.FW ba C;have hI:=C.lt;have eT:Below base w w8:=by have h1:=d.ext;have kq:=d.geo;exact ag.trans (h1.below (by have:=D.o;omega) (fun j hj e=>by rcases e with e|e|e<;>omega))
  cases i7:cu.mT.f with
  | some kp=>obtain⟨kk,pp⟩:=kp;obtain⟨g,gg,g0,eV⟩:=C.fault i7;have HP:gy (kJ l=.inr (kk,pp)):=gj (by rw[dn.o,i7]);have g1:=gj eV;have ii:=gj D.o;clear i7 eV;go_wp2_with fail;go_quiet (fail);go_wp2;go_ret3;unfold wG;rw[HP.o,<-D.o];exact⟨eT.drewN _,_,rfl,g,rfl,g0,g1.o⟩
  | none=>have k3:=C.nt i7;have HP:gy (kJ l=.inl (V,S)):=gj (by rw[dn.o,i7,gz.o (Oz i7)]);go_wp2;go_ret3;unfold wG;rw[HP.o,<-D.o];exact⟨eT,r,rfl,⟨d.cell,d.jh⟩,by omega⟩
theorem iD.pV(h:iD w v S){B:Nat}{k j d:IntKind}{a b c:Int}{T:TypeId}{l:Nat×Nat}(m:w.heap[B]?=N (.cells #[.int k a,.int j b,.int d c] T l)):S=[]\/Value.ownBlock v≠N B:=by
 cases S with
 | nil=>exact .inl rfl
 | cons x S=>
  refine .inr fun e=>?_;obtain⟨a',cap,rfl,-,o⟩:=h.gU;obtain⟨g,off,rfl,-,c1,-⟩:=o 0 (by simp);obtain rfl:g=B:=by simpa [Value.ownBlock]using e
  rw[aP _ _ _ _ _ _ m]at c1;have i:=(cx.1 c1).1;simp at i;have:off=0\/off=1:=by omega
  rcases this with rfl|rfl<;>simp at c1
theorem iD.jR(h:iD w v S)(p:Addr)(u:Value)(b:Value.ownBlock v≠N p.block):iD (World.setCell w p u) v S:=gE.jR h p u b
end Go.Proofs.YtkkfmkhbdoeglabGreatDoor
namespace Go.Proofs.YtkkfmkhbdoeglabGreatDoor.U
open Go.World renaming heap->Q
open List renaming length->O,toArray->Rm
open Option renaming none->J,some->N
open _root_.Array renaming size->G
open Go.Proofs.Tryz
open Go.RowKit
abbrev K:=Nat
def kV(x:K):Value:=.int .u64 (x:Int)
theorem jT(em:Bool)(x:K)(w:World):(Instr.checkKey em 10000 48 (kV x)).run prog w=.ok () w:=by
 have h:∀n,(Instr.checkKey em (n+1) 48 (kV x)).run prog w=.ok () w:=by intro n;simp[Instr.checkKey,kV,aO underlying48,Result.andThen]
 exact h 9999
theorem yD(x y:K)(w:World):(Op.equal 48 (kV x) (kV y)).run prog w=.ok (x==y) w:=by
 have b:((x:Int)==(y:Int))=(x==y):=by rw[cS,aT,aT];exact Int.ofNat_inj
 have d:∀n,(Op.equalIn (n+1) 48 (kV x) (kV y)).run prog w=.ok (x==y) w:=by intro n;rw[<-b];simp[Op.equalIn,kV,aO underlying48]
 exact d 9999
def ju(k:K):List (K×Value)->Nat->Option (Nat×Value)
 | [],_=>J
 | e::es,i=>if k==e.1 then N (i,e.2)else ju k es (i+1)
theorem ND(x y:K):Instr.sameNow (.int .u64) (kV x) (kV y)=N (x==y):=by
 have b:((x:Int)==(y:Int))=(x==y):=by rw[cS,aT,aT];exact Int.ofNat_inj
 show N ((x:Int)==(y:Int))=_;rw[b]
theorem oR(k:K)(w:World):∀(es:List MapEntry) (l:List (K×Value)) (_:es.map (fun e=>(e.key,e.val))=l.map (fun x=>(kV x.1,x.2))),(Instr.findKey 48 (kV k) es).run prog w=.ok (ju k l 0) w:=by
 have go:∀(es:List MapEntry) (l:List (K×Value)) (i:Nat) (_:es.map (fun e=>(e.key,e.val))=l.map (fun x=>(kV x.1,x.2))),Instr.findNow (.int .u64) (kV k) es i=N (ju k l i):=by
  intro es
  induction es with
  | nil=>
   intro l i h;cases l with
   | nil=>rfl
   | cons x l=>cases h
  | cons e es ih=>
   intro l i h;cases l with
   | nil=>cases h
   | cons x l=>
    rw[bG,bG]at h;have h1:=(List.cons.inj h).1;have b:=(List.cons.inj h).2;have d:e.key=kV x.1:=(Prod.mk.inj h1).1;have j:e.val=x.2:=(Prod.mk.inj h1).2;unfold Instr.findNow ju;rw[d,ND];cases hk:(k==x.1) with
    | false=>exact ih l (i+1) b
    | true=>rw[j];rfl
 intro es l h;exact MapKept.run_findKey underlying48 (go es l 0 h)
theorem tw(x:K)(w:World):(Instr.keyThatStays (kV x) (kV x)).run prog w=.ok (kV x) w:=by
 have h:∀n,Instr.sameBits (n+2) (kV x) (kV x)=true:=by intro n;simp[Instr.sameBits,kV]
 have b:Instr.sameBits 10000 (kV x) (kV x)=true:=h 9998;simp only[Instr.keyThatStays,b,dX];rfl
def ix(w:World)(r:Nat)(l:List (K×Value)):Prop:=
 ∃es b,w.heap[r]?=N (.map es b)/\es.toList.map (fun e=>(e.key,e.val))=l.map (fun x=>(kV x.1,x.2))/\(∀e∈es.toList,e.born<b)/\(es.toList.map (·.born)).Nodup/\(l.map (·.1)).Nodup
theorem ix.lt{w:World}{r:Nat}{l:List (K×Value)}(h:ix w r l):r<G (Q w):=by obtain⟨es,b,h,_⟩:=h;exact gm h
theorem ix.iI{w w':World}{r:Nat}{l:List (K×Value)}(h:ix w r l)(d:w'.heap[r]?=w.heap[r]?):ix w' r l:=by obtain⟨es,b,h,x⟩:=h;exact⟨es,b,d.trans h,x⟩
theorem ix.new(w:World):ix (World.alloc w (.map #[] 0)) (G (Q w)) []:=⟨#[],0,gB _ _,rfl,by simp,by simp,by simp⟩
def rV(k:K)(l:List (K×Value)):Option Value:=(l.find? (fun x=>k==x.1)).map (·.2)
theorem oH(k:K):∀(l:List (K×Value)) (i:Nat),(ju k l i).map (·.2)=rV k l
 | [],i=>rfl
 | x::l,i=>by
  unfold ju rV;rw[dL];cases h:(k==x.1) with
  | true=>rfl
  | false=>exact oH k l (i+1)
theorem Bc(k:K):∀(l:List (K×Value)) (i:Nat),(∀x∈l,x.1≠k)->ju k l i=J
 | [],i,_=>rfl
 | x::l,i,h=>by
  unfold ju;have:(k==x.1)=false:=by rw[ar];exact fun e=>h x cy e.symm
  rw[this];exact Bc k l (i+1) fun y b=>h y (aR _ b)
section
variable {w:World} {r:Nat} {l:List (K×Value)} {mt e:TypeId} {z:Value}
theorem ix.lookup(h:ix w r l)(d:prog.underlying mt=N (.map 48 e))(o:(zeroValue e).run prog w=.ok z w)(k:K):
  (Instr.lookup mt (.map (N r)) (kV k) false).run prog w=.ok ((rV k l).getD z) w:=by
 obtain⟨es,m,j,hl,_⟩:=h;have b:=oR k w es.toList l hl;rw[<-oH k l 0];cases hk:ju k l 0 with
 | none=>rw[hk]at b;simp[Instr.lookup,aO d,aL j,jT,b,o,Result.andThen]
 | some x=>rw[hk]at b;obtain⟨i,v⟩:=x;simp[Instr.lookup,aO d,aL j,jT,b,Result.andThen]
theorem ix.mX(h:ix w r l)(d:prog.underlying mt=N (.map 48 e))(o:(zeroValue e).run prog w=.ok z w)(k:K):
  (Instr.lookup mt (.map (N r)) (kV k) true).run prog w=.ok (.tuple #[(rV k l).getD z,.bool (rV k l).isSome]) w:=by
 obtain⟨es,m,j,hl,_⟩:=h;have b:=oR k w es.toList l hl;rw[<-oH k l 0];cases hk:ju k l 0 with
 | none=>rw[hk]at b;simp[Instr.lookup,aO d,aL j,jT,b,o,Result.andThen]
 | some x=>rw[hk]at b;obtain⟨i,v⟩:=x;simp[Instr.lookup,aO d,aL j,jT,b,Result.andThen]
end
end Go.Proofs.YtkkfmkhbdoeglabGreatDoor.U
namespace Go.Proofs.YtkkfmkhbdoeglabGreatDoor.U
open Go.World renaming heap->Q
open List renaming length->O,toArray->Rm
open Option renaming none->J,some->N
open _root_.Array renaming size->G
open Go.Proofs.Tryz
open Go.RowKit Go.WideElems Go.WideMaps Go.ChangeMaps
variable{o':Obj}
def qH(k:K)(v:Value)(l:List (K×Value)):List (K×Value):=
 match ju k l 0 with
 | some (j,_)=>l.set j (k,v)
 | none=>l++[(k,v)]
def F6(k:K)(l:List (K×Value)):List (K×Value):=
 match ju k l 0 with
 | some (j,_)=>l.eraseIdx j
 | none=>l
theorem mO(k:K):∀(l:List (K×Value)) (i j:Nat) (v:Value),ju k l i=N (j,v)->i<=j/\l[j-i]?=N (k,v)
 | [],_,_,_,h=>by simp[ju]at h
 | x::l,i,j,v,h=>by
  unfold ju at h;cases hk:(k==x.1) with
  | true=>rw[hk,aw rfl]at h;cases h;rw[aT]at hk;subst hk;simp
  | false=>rw[hk,af (by simp)]at h;obtain⟨h1,b⟩:=mO k l (i+1) j v h;refine⟨by omega,?_⟩;rw[show j-i=(j-(i+1))+1 by omega,aX];exact b
theorem kY(k:K):∀(l:List (K×Value)) (i:Nat),ju k l i=J->∀x∈l,x.1≠k
 | [],_,_,x,b=>by simp at b
 | y::l,i,h,x,b=>by
  unfold ju at h;cases hk:(k==y.1) with
  | true=>rw[hk,aw rfl]at h;cases h
  | false=>
   rw[hk,af (by simp)]at h;rcases aZ.1 b with rfl|b
   .rw[ar]at hk;exact fun e=>hk e.symm
   .exact kY k l (i+1) h x b
theorem tu{l:List (K×Value)}{j:Nat}{k:K}{v u:Value}(h:l[j]?=N (k,u)):(l.set j (k,v)).map (·.1)=l.map (·.1):=by rw[dy];exact set_self _ _ _ (by rw[bg,h];rfl)
theorem iR{w:World}{r:Nat}{es:Array MapEntry}{b:Nat}(h:w.heap[r]?=N (.map es b)):w.grownBy (setBlock w r o') (N r):=
 ⟨rfl,rfl,rfl,by simp[setBlock],fun k _ hk=>heap_setBlock_other h _ (fun e=>hk (by rw[e]))⟩
theorem iG{w:World}{r:Nat}{o:Obj}(h:w.heap[r]?=N o):(setBlock w r o').heap[r]?=N o':=by have b:=gm h;simp[setBlock,b]
section
variable {w:World} {r:Nat} {l:List (K×Value)} {mt e:TypeId} {z:Value}
theorem ix.entry(h:ix w r l)(ht:prog.underlying mt=N (.map 48 e))(hz:∀u:World,(zeroValue e).run prog u=.ok z u)(k:K):
  ∃q st,(∀n,(Instr.mapEntry mt (.map (N r)) (kV k)).run prog (w.drewN n)=.ok (.tuple #[(rV k l).getD z,goInt st]) (q.drewN n))/\ix q r (qH k ((rV k l).getD z) l)/\w.grownBy q (N r)/\G (Q q)=G (Q w)/\
   ∀v,∃M,(∀n,(Instr.entryStore mt (.map (N r)) (goInt st) v).run prog (q.drewN n)=.ok () (M.drewN n))/\ix M r (qH k v l)/\q.grownBy M (N r)/\G (Q M)=G (Q q):=by
 obtain⟨es,b,E,hl,hc,R,hk⟩:=h;have S:∀n,(Instr.findKey 48 (kV k) es.toList).run prog (w.drewN n)=.ok (ju k l 0) (w.drewN n):=fun n=>oR k (w.drewN n) es.toList l hl;have y:∀n,(w.drewN n).heap[r]?=N (.map es b):=fun n=>E;rw[<-oH k l 0];unfold qH;cases B:ju k l 0 with
 | none=>
  rw[B]at S;have aa:=kY k l 0 B;have U:(es.push ⟨kV k,z,b⟩).toList.map (·.born)=es.toList.map (·.born)++[b]:=by simp
  have F:((es.push ⟨kV k,z,b⟩).toList.map (·.born)).Nodup:=by rw[U];refine cE.2 ⟨R,by simp,fun a ha c C e1=>?_⟩;simp only[ay]at C;obtain⟨x,i,rfl⟩:=aA.1 ha;have:=hc x i;omega
  have X:∀v:Value,((l++[(k,v)]).map (·.1)).Nodup:=fun v=>by rw[bj];refine cE.2 ⟨hk,by simp,fun a ha c C e1=>?_⟩;simp at C;obtain⟨x,i,rfl⟩:=aA.1 ha;exact aa x i (e1.trans C)
  have Z:∀v:Value,∀x∈(es.push ⟨kV k,v,b⟩).toList,x.born<b+1:=by
   intro v x i;simp at i;rcases i with i|rfl
   .have:=hc x (by simpa using i);omega
   .simp
  have d:(setBlock w r (.map (es.push ⟨kV k,z,b⟩) (b+1))).heap[r]?=N (.map (es.push ⟨kV k,z,b⟩) (b+1)):=iG E
  refine⟨setBlock w r (.map (es.push ⟨kV k,z,b⟩) (b+1)),b,fun n=>?_,⟨_,_,d,by simp[hl],Z z,F,X _⟩,iR E,by simp[setBlock],
   fun v=>⟨setBlock (setBlock w r (.map (es.push ⟨kV k,z,b⟩) (b+1))) r (.map (es.push ⟨kV k,v,b⟩) (b+1)),fun n=>?_,⟨_,_,iG d,by simp[hl],Z v,by simpa using F,X _⟩,iR d,by simp[setBlock]⟩⟩
  .simp[Instr.mapEntry,aO ht,aL (y n),jT,S,hz,bW _ (y n),Result.andThen];rfl
  .have s:(es.push ⟨kV k,z,b⟩).findIdx? (fun e=>((e.born:Nat):Int)==((b:Nat):Int))=N es.size:=by
    rw[findIdx_arr];exact findIdx_born (l:=(es.push ⟨kV k,z,b⟩).toList) (j:=es.size) (e0:=⟨kV k,z,b⟩) F (by simp)
   have ag:(es.push ⟨kV k,z,b⟩).modify es.size (fun e=>{e with val:=v})=es.push ⟨kV k,v,b⟩:=by apply Array.ext';rw[cf,fY,fY,<-ei,modify_last]
   have m:((setBlock w r (.map (es.push ⟨kV k,z,b⟩) (b+1))).drewN n).heap[r]?=N (.map (es.push ⟨kV k,z,b⟩) (b+1)):=d;simp[Instr.entryStore,aL m,asInt,asIntOf,goInt,s,ag,bW _ m,Result.andThen];rfl
 | some x=>
  obtain⟨j,u⟩:=x;rw[B]at S;obtain⟨-,V⟩:=mO k l 0 j u B;rw[cO]at V;have ap:∃e0,es.toList[j]?=N e0/\e0.key=kV k/\e0.val=u:=by
   have h1:(es.toList.map (fun e=>(e.key,e.val)))[j]?=N (kV k,u):=by rw[hl,bg,V];rfl
   rw[bg]at h1;obtain⟨e0,o,D⟩:=cH.1 h1;exact⟨e0,o,(Prod.mk.inj D).1,(Prod.mk.inj D).2⟩
  obtain⟨e0,o,D,h4⟩:=ap;have av:es[j]?=N e0:=by simpa using o
  have W:es.modify j (fun e=>{e with key:=kV k})=es:=by
   apply Array.ext';rw[cf,du _ _ _ _ o];have:({e0 with key:=kV k} : MapEntry)=e0:=by rw[<-D]
   rw[this];exact set_self _ _ _ o
  have ak:l.set j (k,u)=l:=set_self _ _ _ V;simp only[et,bZ,ak];have d:(setBlock w r (.map es b)).heap[r]?=N (.map es b):=iG E
  refine⟨setBlock w r (.map es b),e0.born,fun n=>?_,⟨_,_,d,hl,hc,R,hk⟩,iR E,by simp[setBlock],
   fun v=>⟨setBlock (setBlock w r (.map es b)) r (.map (es.modify j (fun e=>{e with val:=v})) b),fun n=>?_,⟨_,_,iG d,?_,?_,?_,?_⟩,iR d,by simp[setBlock]⟩⟩
  .simp[Instr.mapEntry,aO ht,aL (y n),jT,S,av,D,tw,W,bW _ (y n),Result.andThen];rfl
  .have s:es.findIdx? (fun e=>((e.born:Nat):Int)==((e0.born:Nat):Int))=N j:=by
    rw[findIdx_arr];exact findIdx_born R o
   have m:((setBlock w r (.map es b)).drewN n).heap[r]?=N (.map es b):=d;simp[Instr.entryStore,aL m,asInt,asIntOf,goInt,s,bW _ m,Result.andThen];rfl
  .rw[cf,du _ _ _ _ o,dy,hl,dy,D]
  .intro x i;rw[cf,du _ _ _ _ o]at i;rcases di i with i|rfl
   .exact hc x i
   .exact hc e0 (be o)
  .rw[cf,du _ _ _ _ o,dy];rw[set_self _ _ _ (by rw[bg,o];rfl)];exact R
  .rw[tu V];exact hk
end
end Go.Proofs.YtkkfmkhbdoeglabGreatDoor.U
namespace Go.Proofs.YtkkfmkhbdoeglabGreatDoor.U
open Go.World renaming heap->Q
open List renaming length->O,toArray->Rm
open Option renaming none->J,some->N
open _root_.Array renaming size->G
open Go.Proofs.Tryz
open Go.RowKit Go.WideElems Go.ChangeMaps
section
variable {w:World} {r:Nat} {l:List (K×Value)} {mt e:TypeId} {z:Value}
theorem ix.update(h:ix w r l)(M:prog.underlying mt=N (.map 48 e))(k:K)(v:Value):
  ∃y,(∀n,(Instr.mapUpdate mt (.map (N r)) (kV k) v).run prog (w.drewN n)=.ok () (y.drewN n))/\ix y r (qH k v l)/\w.grownBy y (N r)/\G (Q y)=G (Q w):=by
 obtain⟨es,b,s,hl,hc,R,hk⟩:=h;have B:∀n,(Instr.findKey 48 (kV k) es.toList).run prog (w.drewN n)=.ok (ju k l 0) (w.drewN n):=fun n=>oR k (w.drewN n) es.toList l hl;have m:∀n,(w.drewN n).heap[r]?=N (.map es b):=fun n=>s;unfold qH;cases o:ju k l 0 with
 | none=>
  rw[o]at B;have E:=kY k l 0 o;have C:(es.push ⟨kV k,v,b⟩).toList.map (·.born)=es.toList.map (·.born)++[b]:=by simp
  have S:((es.push ⟨kV k,v,b⟩).toList.map (·.born)).Nodup:=by rw[C];refine cE.2 ⟨R,by simp,fun a ha c q U=>?_⟩;simp only[ay]at q;obtain⟨x,d,rfl⟩:=aA.1 ha;have:=hc x d;omega
  have V:((l++[(k,v)]).map (·.1)).Nodup:=by rw[bj];refine cE.2 ⟨hk,by simp,fun a ha c q U=>?_⟩;simp at q;obtain⟨x,d,rfl⟩:=aA.1 ha;exact E x d (U.trans q)
  have W:∀x∈(es.push ⟨kV k,v,b⟩).toList,x.born<b+1:=by
   intro x d;simp at d;rcases d with d|rfl
   .have:=hc x (by simpa using d);omega
   .simp
  refine⟨setBlock w r (.map (es.push ⟨kV k,v,b⟩) (b+1)),fun n=>?_,⟨_,_,iG s,by simp[hl],W,S,V⟩,iR s,by simp[setBlock]⟩;simp[Instr.mapUpdate,aO M,aL (m n),jT,B,bW _ (m n),Result.andThen];rfl
 | some x=>
  obtain⟨j,u⟩:=x;rw[o]at B;obtain⟨-,F⟩:=mO k l 0 j u o;rw[cO]at F;have X:∃e0,es.toList[j]?=N e0/\e0.key=kV k/\e0.val=u:=by
   have h1:(es.toList.map (fun e=>(e.key,e.val)))[j]?=N (kV k,u):=by rw[hl,bg,F];rfl
   rw[bg]at h1;obtain⟨e0,i,D⟩:=cH.1 h1;exact⟨e0,i,(Prod.mk.inj D).1,(Prod.mk.inj D).2⟩
  obtain⟨e0,i,D,h4⟩:=X;have Z:es[j]?=N e0:=by simpa using i
  refine⟨setBlock w r (.map (es.modify j (fun e=>{e with key:=kV k,val:=v})) b),fun n=>?_,⟨_,_,iG s,?_,?_,?_,?_⟩,iR s,by simp[setBlock]⟩
  .simp[Instr.mapUpdate,aO M,aL (m n),jT,B,Z,D,tw,bW _ (m n),Result.andThen];rfl
  .rw[cf,du _ _ _ _ i,dy,hl,dy]
  .intro x d;rw[cf,du _ _ _ _ i]at d;rcases di d with d|rfl
   .exact hc x d
   .exact hc e0 (be i)
  .rw[cf,du _ _ _ _ i,dy];rw[set_self _ _ _ (by rw[bg,i];rfl)];exact R
  .show((l.set j (k,v)).map (·.1)).Nodup;rw[tu F];exact hk
theorem oU{α β:Type}(f:α->β):∀(l:List α) (j:Nat),(l.eraseIdx j).map f=(l.map f).eraseIdx j
 | [],_=>by simp
 | x::l,0=>rfl
 | x::l,j+1=>by simp[oU f l j]
theorem ix.delete(h:ix w r l)(y:prog.underlying mt=N (.map 48 e))(k:K)(t2 ty:TypeId):
  ∃o,(∀n,(Builtin.delete_ #[mt,t2] ty #[.map (N r),kV k]).run prog (w.drewN n)=.ok (.tuple #[]) (o.drewN n))/\ix o r (F6 k l)/\w.grownBy o (N r)/\G (Q o)=G (Q w):=by
 obtain⟨es,b,m,hl,hc,B,hk⟩:=h;have q:∀n,(Instr.findKey 48 (kV k) es.toList).run prog (w.drewN n)=.ok (ju k l 0) (w.drewN n):=fun n=>oR k (w.drewN n) es.toList l hl;have i:∀n,(w.drewN n).heap[r]?=N (.map es b):=fun n=>m;unfold F6;cases s:ju k l 0 with
 | none=>rw[s]at q;refine⟨setBlock w r (.map es b),fun n=>?_,⟨_,_,iG m,hl,hc,B,hk⟩,iR m,by simp[setBlock]⟩;simp[Builtin.delete_,aO y,aL (i n),jT,q,bW _ (i n),Result.andThen];rfl
 | some x=>
  obtain⟨j,u⟩:=x;rw[s]at q;have d:(es.eraseIdxIfInBounds j).toList=es.toList.eraseIdx j:=by
   unfold Array.eraseIdxIfInBounds;split
   .simp
   .rw[List.eraseIdx_of_length_le (by rw[ei];omega)]
  refine⟨setBlock w r (.map (es.eraseIdxIfInBounds j) b),fun n=>?_,⟨_,_,iG m,?_,?_,?_,?_⟩,iR m,by simp[setBlock]⟩
  .simp[Builtin.delete_,aO y,aL (i n),jT,q,bW _ (i n),Result.andThen];rfl
  .rw[d,oU,hl,oU]
  .intro x C;rw[d]at C;exact hc x ((List.eraseIdx_sublist _ _).subset C)
  .rw[d,oU];exact B.sublist (List.eraseIdx_sublist _ _)
  .show((l.eraseIdx j).map (·.1)).Nodup;rw[oU];exact hk.sublist (List.eraseIdx_sublist _ _)
end
end Go.Proofs.YtkkfmkhbdoeglabGreatDoor.U
namespace Go.Proofs.YtkkfmkhbdoeglabGreatDoor.U
open Go.World renaming heap->Q
open List renaming length->O,toArray->Rm
open Option renaming none->J,some->N
open _root_.Array renaming size->G
open Go.Proofs.Tryz
open Go.RowKit
variable{L:List (K×Value)}
theorem tJ{k:K}{v:Value}: ∀{L:List (K×Value)},(L.map (·.1)).Nodup->(rV k L=N v↔(k,v)∈L)
 | [],_=>by simp[rV]
 | y::L,h=>by
  rw[bG,dN]at h;unfold rV;rw[dL];cases hk:(k==y.1) with
  | true=>
   rw[aT]at hk;subst hk;simp only[et,dz,aZ];constructor
   .rintro rfl;exact .inl rfl
   .rintro(e|hm)
    .rw[<-e]
    .exact absurd (aA.2 ⟨_,hm,rfl⟩) h.1
  | false=>
   rw[ar]at hk;have:=@tJ k v L h.2;unfold rV at this;simp only[this,aZ];constructor
   .exact .inr
   .rintro(e|hm)
    .exact absurd (by rw[<-e]) hk
    .exact hm
theorem vJ{l:List K}(h:l.Nodup){i j:Nat}(b:i<O l)(d:j<O l)(e:l[i]=l[j]):i=j:=
 (List.getElem?_inj b h).1 (by rw[ah b,ah d,e])
theorem vd(k:K)(v:Value)(s:(L.map (·.1)).Nodup)(x:K×Value):x∈qH k v L↔x=(k,v)\/(x∈L/\x.1≠k):=by
 unfold qH;cases o:ju k L 0 with
 | none=>
  have ha:=kY k L 0 o;simp only[bQ,ay];constructor
  .rintro(h|h)
   .exact .inr ⟨h,ha x h⟩
   .exact .inl h
  .rintro(h|h)
   .exact .inr h
   .exact .inl h.1
 | some y=>
  obtain⟨j,u⟩:=y;obtain⟨-,q⟩:=mO k L 0 j u o;rw[cO]at q;obtain⟨d,l⟩:=aH.1 q;simp only;constructor
  .intro h;obtain⟨i,b,e⟩:=cZ h;rw[List.getElem_set]at e;rw[cA]at b;split at e
   .exact .inl e.symm
   .rename_i r;refine .inr ⟨e▸bq b,fun hk=>r ?_⟩;have h1:(L.map (·.1))[j]'(by simpa using d)=k:=by simp[l]
    have m:(L.map (·.1))[i]'(by simpa using b)=k:=by simp[e,hk]
    exact vJ s _ _ (h1.trans m.symm)
  .rintro(h|⟨h1,m⟩)
   .rw[h];exact be (i:=j) (by rw[eF d])
   .obtain⟨i,b,rfl⟩:=cZ h1;refine be (i:=i) ?_;rw[eL (fun e=>m (by subst e;rw[l])),ah b]
theorem Jj(k:K)(v:Value)(b:(L.map (·.1)).Nodup):((qH k v L).map (·.1)).Nodup:=by
 unfold qH;cases d:ju k L 0 with
 | none=>have ha:=kY k L 0 d;show((L++[(k,v)]).map (·.1)).Nodup;rw[bj];refine cE.2 ⟨b,by simp,fun a i c hc e=>?_⟩;simp at hc;obtain⟨x,m,rfl⟩:=aA.1 i;exact ha x m (e.trans hc)
 | some y=>obtain⟨j,u⟩:=y;obtain⟨-,l⟩:=mO k L 0 j u d;rw[cO]at l;show((L.set j (k,v)).map (·.1)).Nodup;rw[tu l];exact b
theorem tK(k b:K)(v:Value)(d:(L.map (·.1)).Nodup):rV b (qH k v L)=if b=k then N v else rV b L:=by
 have h1:∀u,rV b (qH k v L)=N u↔(b,u)∈qH k v L:=fun u=>tJ (Jj k v d);have i:∀u,rV b L=N u↔(b,u)∈L:=fun u=>tJ d;by_cases e:b=k
 .rw[aw e];exact(h1 v).2 ((vd k v d _).2 (.inl (by rw[e])))
 .rw[af e];cases ha:rV b L with
  | some u=>exact(h1 u).2 ((vd k v d _).2 (.inr ⟨(i u).1 ha,e⟩))
  | none=>
   cases j:rV b (qH k v L) with
   | none=>rfl
   | some u=>
    rcases(vd k v d _).1 ((h1 u).1 j)with h|⟨h,-⟩
    .exact absurd (bm Prod.fst h) e
    .rw[(i u).2 h]at ha;cases ha
theorem ix.Gr{w:World}{r:Nat}(h:ix w r L):(L.map (·.1)).Nodup:=by obtain⟨es,c,-,-,-,-,b⟩:=h;exact b
end Go.Proofs.YtkkfmkhbdoeglabGreatDoor.U
namespace Go.Proofs.YtkkfmkhbdoeglabGreatDoor
open Go.World renaming heap->Q
open List renaming length->O,toArray->Rm
open Option renaming none->J,some->N
open _root_.Array renaming size->G
open Go.Proofs.Tryz
def OG(o:kv):K:=(o.table,o.key)
theorem PJ(S:List E)(o:kv)(x:E):x∈Ja S o↔(o.kind=1/\x=(OG o,o.val))\/(x∈S/\x.1≠OG o):=by
 unfold Ja OG;split
 .rename_i h;rw[mF];simp[h]
 .rename_i h;rw[qE];simp[h]
theorem zM(p q:E->Bool)(h:∀x,p x=true->q x=false):∀S:List E,(S.filter p).length+(S.filter q).length<=O S
 | []=>aq _
 | x::S=>by
  have ih:=zM p q h S;cases b:p x with
  | true=>rw[fV b,eR (by rw[h x b];decide)];simp only[ao];omega
  | false=>
   rw[eR (by rw[b];decide)];have:=cU q [x];cases hq:q x with
   | true=>rw[fV hq];simp only[ao];omega
   | false=>rw[eR (by rw[hq];decide)];simp only[ao];omega
theorem Ln(S:List E)(o:kv):(Ja S o).length<=O S+1:=by
 unfold Ja;split
 .unfold nf;rw[ab,ao];exact Nat.succ_le_succ (zM _ _ (fun x h=>mY h) S)
 .unfold om;exact ft (cU _ S)
theorem sg:∀(os:List kv) {S:List E} (_:gM S),(iO S os).length<=O S+O os
 | [],_,_=>aq _
 | o::os,S,b=>by have h1:=Ln S o;have d:=sg os (DV o b);show(iO (Ja S o) os).length<=_;simp only[ao];omega
theorem yd(b:Nat):∀(S:List E),(∀x∈S,O x.1.2<=b/\O x.2<=b)->jw S<=O S*(1+b+b)
 | [],_=>by simp[jw]
 | x::S,h=>by
  have ih:=yd b S (fun y d=>h y (by simp[d]));have i:=h x (by simp);have e:jw (x::S)=(1+O x.1.2+O x.2)+jw S:=by simp[jw]
  rw[e,ao,Nat.add_mul];omega
end Go.Proofs.YtkkfmkhbdoeglabGreatDoor
namespace Go.Proofs.YtkkfmkhbdoeglabGreatDoor
open Go.World renaming heap->Q
open List renaming length->O,toArray->Rm
open Option renaming none->J,some->N
open _root_.Array renaming size->G
open Go.Proofs.Tryz
open Go.RowKit
variable{S:List E}{W W' w:World}{b m n q r v:Nat}{os:List kv}{s:gw}
def jB(x:E):Prop:=0<=x.1.1/\x.1.1<3/\js x.1.1 x.1.2=true/\jb x.1.1 x.2=true
theorem DG:∀(os:List kv) (S:List E) (x:E),x∈iO S os->x∈S\/∃o∈os,o.kind=1/\x=(OG o,o.val)
 | [],_,_,h=>.inl h
 | o::os,S,x,h=>by
  rcases DG os (Ja S o) x h with h|⟨u,b,e⟩
  .rcases(PJ S o x).1 h with ⟨d,e⟩|⟨h,-⟩
   .exact .inr ⟨o,by simp,d,e⟩
   .exact .inl h
  .exact .inr ⟨u,by simp[b],e⟩
theorem qq(h:lF v os=J):O os<=8/\∀o∈os,(o.kind=1\/o.kind=2)/\0<=o.table/\o.table<3/\js o.table o.key=true/\yg o=true:=by
 have b:O os<=8/\jA 0 [] os=J:=by
  unfold lF at h;split at h
  .cases h
  .split at h
   .cases h
   .exact⟨by omega,h⟩
 refine⟨b.1,fun o i=>?_⟩;obtain⟨k,hk,rfl⟩:=cZ i;obtain⟨r,d⟩:=mR os 0 [] b.2 k hk;obtain⟨h1,j,l,m,-,q⟩:=ue d;exact⟨h1,j,l,m,q⟩
structure lG(mm:Nat)(S:List E):Prop where
 len:O S<=mm
 sorted:gM S
 mH:∀x∈S,jB x
theorem lG.nil(m:Nat):lG m []:=⟨aJ _,gM.nil,fun _ h=>by cases h⟩
theorem lG.fold(h:lG m S)(i:lF v os=J):lG (m+8) (iO S os):=by
 obtain⟨s,j⟩:=qq i;refine⟨?_,sm os h.sorted,fun x b=>?_⟩
 .have:=sg os h.sorted;have:=h.len;omega
 .rcases DG os S x b with b|⟨o,hm,hk,rfl⟩
  .exact h.mH x b
  .obtain⟨-,l,q,r,d⟩:=j o hm;unfold yg at d;rw[af (by omega)]at d;exact⟨l,q,r,d⟩
theorem lG.mono(h:lG m S)(hm:m<=b):lG b S:=⟨au h.len hm,h.sorted,h.mH⟩
theorem lG.apply(h:lG m S)(v:Nat)(os:List kv):lG (m+8) (My v S os):=by
 unfold My;cases b:lF v os with
 | none=>exact h.fold b
 | some f=>exact h.mono (by omega)
theorem lG.fit(h:lG m S):Od S:=fun x i=>by
 obtain⟨g0,g2,j,g4⟩:=h.mH x i;have b:=mj j;have d:=lD g0 g2 g4;have l:x.1.1=0\/x.1.1=1\/x.1.1=2:=by omega
 rcases l with e|e|e<;>(rw[e]at b d;unfold gL at b;unfold iu at d;simp at b d;omega)
theorem xR(x:UInt8):UInt8.ofNat x.toNat=x:=by simp
theorem uP(x:E):mu x=UInt8.ofNat x.1.1.toNat::(x.1.2++x.2):=rfl
theorem Iz(s:gw)(q:Nat)(o:Option K)(x:E)(rest:gw)(r:jB x)(u:∀k,o=N k->oT k x.1=true)(y:s.drop q=mu x++rest):
  jQ s q o=.inl (x,q+(mu x).length):=by
 obtain⟨⟨T,kb⟩,d⟩:=x;obtain⟨g0,l,hk,j⟩:=r;simp only at g0 l hk j;have i:=mj hk;have lv:=lD g0 l j;have B:((UInt8.ofNat T.toNat).toNat:Int)=T:=by simp;omega
 have e0:s.drop q=UInt8.ofNat T.toNat::(kb++d++rest):=by rw[y,uP];simp
 have t1:(kb++d++rest).take (gL T)=kb:=by rw[bJ,<-i,eE]
 have t2:((kb++d++rest).drop (gL T)).take (iu T)=d:=by rw[bJ,<-i,fw,<-lv,eE]
 have hl:(kb++d++rest).length=gL T+iu T+O rest:=by simp[i,lv];omega
 have hq:q+(mu ((T,kb),d)).length=q+1+gL T+iu T:=by rw[uP];simp[i,lv];omega
 unfold jQ;rw[e0,hq];simp only[B,t1,t2];rw[af (by omega),af (by omega),af (by rw[hk];decide)];have m:∀b:Bool,(b=true)->(if b=false then Sum.inr (14,q+1)else if(kb++d++rest).length<gL T+iu T then .inr (1,q+1+gL T)else if jb T d=false then .inr (9,q+1+gL T)else .inl (((T,kb),d),q+1+gL T+iu T):(E×Nat)⊕(Nat×Nat))=.inl (((T,kb),d),q+1+gL T+iu T):=by intro b C;rw[C,af (by decide),af (by omega),af (by rw[j];decide)]
 cases o with
 | none=>exact m true rfl
 | some k=>exact m _ (u k rfl)
theorem xB(s:gw):∀(l es:List E) (q:Nat) (rest:gw),gM (es++l)->(∀x∈l,jB x)->s.drop q=ma l++rest->jN s (O l) q es=.inl (q+(ma l).length,es++l)
 | [],es,q,rest,_,_,_=>by simp[jN,ma]
 | x::l,es,q,rest,i,j,m=>by
  have b:ma (x::l)=mu x++ma l:=rfl;have o:∀k,es.getLast?.map (·.1)=N k->oT k x.1=true:=fun k hk=>by
   cases d:es.getLast? with
   | none=>rw[d]at hk;cases hk
   | some z=>rw[d]at hk;cases hk;exact(dR.1 i).2.2 z (List.mem_of_getLast? d) x (by simp)
  have h1:=Iz s q (es.getLast?.map (·.1)) x (ma l++rest) (j x (by simp)) o (by rw[m,b,bJ]);have ih:=xB s l (es++[x]) (q+(mu x).length) rest (by simpa using i) (fun y r=>j y (by simp[r])) (by rw[<-db,m,b,bJ,fw]);rw[ao,jN,h1];simp only[];rw[ih,b,ab,bT];simp
theorem FY(j:ij v=true)(o:gM S)(q:∀x∈S,jB x)(hl:O S<65536):kJ (kh v S)=.inl (v,S):=by
 have b:(nC v).length=8:=iB v;have e:kh v S=nC v++(UInt8.ofNat (O S / 256)::UInt8.ofNat (O S)::ma S):=by unfold kh;simp
 have r:(kh v S).take 8=nC v:=by rw[e,<-b,eE]
 have d:(kh v S).drop 8=UInt8.ofNat (O S / 256)::UInt8.ofNat (O S)::ma S:=by rw[e,<-b,fw]
 have el:(kh v S).length=10+(ma S).length:=by rw[e];simp[b];omega
 have l:(kh v S).getD 8 0=UInt8.ofNat (O S / 256):=by
  have:((kh v S).drop 8)[0]?=N (UInt8.ofNat (O S / 256)):=by rw[d];rfl
  rw[dP]at this;rw[aD,this];rfl
 have m:(kh v S).getD 9 0=UInt8.ofNat (O S):=by
  have:((kh v S).drop 8)[1]?=N (UInt8.ofNat (O S)):=by rw[d];rfl
  rw[dP]at this;rw[aD,this];rfl
 have i:(kh v S).drop 10=ma S++[]:=by
  have:((kh v S).drop 8).drop 2=ma S:=by rw[d];rfl
  rw[db]at this;rw[this,cX]
 have s:(UInt8.ofNat (O S / 256)).toNat*256+(UInt8.ofNat (O S)).toNat=O S:=by simp;omega
 rw[qC];unfold jC;rw[af (by omega),r,GH v (nK j),af (by rw[j];decide),af (by omega),l,m,s,xB (kh v S) S [] 10 [] o q i];simp only[];rw[af (by omega),aQ]
theorem Iy{o:Option K}{x:E}(h:jQ s q o=.inl (x,b)):jB x/\s.drop q=mu x++s.drop b:=by
 obtain⟨-,-,j,l,hk,m,-⟩:=rH h;refine⟨⟨j,l,hk,m⟩,?_⟩;have B:=mj hk;have lv:=lD j l m;unfold jQ at h;cases d:s.drop q with
 | nil=>rw[d]at h;cases h
 | cons t r=>
  rw[d]at h
  have key:∀c:Bool,(if 2<t.toNat then Sum.inr (6,q)
   else if(O r)<gL (t.toNat:Int)then .inr (1,q+1)
   else if js (t.toNat:Int) (r.take (gL (t.toNat:Int)))=false then .inr (7,q+1)
   else if c=false then .inr (14,q+1)
   else if(O r)<gL (t.toNat:Int)+iu (t.toNat:Int)then .inr (1,q+1+gL (t.toNat:Int))
   else if jb (t.toNat:Int) ((r.drop (gL (t.toNat:Int))).take (iu (t.toNat:Int)))=false then .inr (9,q+1+gL (t.toNat:Int))
   else .inl ((((t.toNat:Int),r.take (gL (t.toNat:Int))),(r.drop (gL (t.toNat:Int))).take (iu (t.toNat:Int))),q+1+gL (t.toNat:Int)+iu (t.toNat:Int)))=(.inl (x,b):(E×Nat)⊕(Nat×Nat))->
   x=(((t.toNat:Int),r.take (gL (t.toNat:Int))),(r.drop (gL (t.toNat:Int))).take (iu (t.toNat:Int)))/\b=q+1+gL (t.toNat:Int)+iu (t.toNat:Int):=by
   intro c h;split at h
   .cases h
   split at h
   .cases h
   split at h
   .cases h
   split at h
   .cases h
   split at h
   .cases h
   split at h
   .cases h
   obtain⟨i,hq⟩:=Prod.mk.inj (Sum.inl.inj h);exact⟨i.symm,hq.symm⟩
  have i:x=(((t.toNat:Int),r.take (gL (t.toNat:Int))),(r.drop (gL (t.toNat:Int))).take (iu (t.toNat:Int)))/\b=q+1+gL (t.toNat:Int)+iu (t.toNat:Int):=by
   cases o with
   | none=>exact key true h
   | some C=>exact key _ h
  obtain⟨rfl,rfl⟩:=i;have u:=(QU d).1;rw[uP];simp only[cj,xR];have y:s.drop (q+1+gL (t.toNat:Int)+iu (t.toNat:Int))=(r.drop (gL (t.toNat:Int))).drop (iu (t.toNat:Int)):=by rw[<-u,db,db,bT]
  rw[y,aV,bJ,cw,cw]
theorem xA  : ∀{n q d:Nat} {es b:List E},jN s n q es=.inl (d,b)->q<=O s->∃l,b=es++l/\(∀x∈l,jB x)/\s.drop q=ma l++s.drop d/\d<=O s
 | 0,q,d,es,b,h,hq=>by obtain⟨rfl,rfl⟩:=Prod.mk.inj (Sum.inl.inj h);exact⟨[],by simp,(fun x i=>by cases i),by simp[ma],hq⟩
 | n+1,q,d,es,b,h,hq=>by
  unfold jN at h;cases he:jQ s q (es.getLast?.map (·.1)) with
  | inr f=>rw[he]at h;cases h
  | inl r=>
   obtain⟨x,B⟩:=r;rw[he]at h;obtain⟨l,rfl,hl,u,m⟩:=xA h (rH he).2.1;obtain⟨i,o⟩:=Iy he;refine⟨x::l,by simp,fun y j=>?_,?_,m⟩
   .rcases aZ.1 j with rfl|j
    .exact i
    .exact hl y j
   .rw[o,u];show _=mu x++ma l++_;rw[bJ]
theorem py(h:kJ s=.inl (n,S)):ij n=true/\(∀x∈S,jB x)/\kh n S=s:=by
 have o:=(sd h).1;rw[qC]at h;unfold jC at h;split at h
 .cases h
 split at h
 .cases h
 split at h
 .cases h
 rename_i h1 q R;cases hc:jN s ((s.getD 8 0).toNat*256+(s.getD 9 0).toNat) 10 [] with
 | inr f=>rw[hc]at h;cases h
 | inl x=>
  obtain⟨r,b⟩:=x;rw[hc]at h;simp only at h;split at h
  .cases h
  rename_i U;obtain⟨rfl,rfl⟩:=Prod.mk.inj (Sum.inl.inj h);have i:=tU hc;obtain⟨l,hl,d,m,hq⟩:=xA hc (by omega);rw[aQ]at hl;subst hl;rw[aI,bY]at i;refine⟨by simpa using q,d,?_⟩;have j:s.drop r=[]:=fZ (by omega);rw[j,cX]at m;have ha:=(s.getD 8 0).toNat_lt;have u:=(s.getD 9 0).toNat_lt;have F:(s.getD 8 0).toNat<256:=ha;have M:(s.getD 9 0).toNat<256:=u;have y:O b / 256=(s.getD 8 0).toNat:=by omega
  have B:UInt8.ofNat (O b)=s.getD 9 0:=by
   apply dO.1;have C:(UInt8.ofNat (O b)).toNat=O b%256:=by simp
   rw[C];omega
  unfold kh;rw[FK _ (by rw[ax];omega),y,xR,B,<-m];have g8:s.getD 8 0=s[8]'(by omega):=by rw[aD,ah (by omega)];rfl
  have g9:s.getD 9 0=s[9]'(by omega):=by rw[aD,ah (by omega)];rfl
  rw[g8,g9];have D:s.drop 8=s[8]'(by omega)::s[9]'(by omega)::s.drop 10:=by rw[cD (by omega),cD (by omega)]
  calc s.take 8++[s[8]'(by omega),s[9]'(by omega)]++s.drop 10=s.take 8++s.drop 8:=by rw[D];simp
   _=s:=cw 8 s
open Go.Shelf
theorem FZ{l:World}{base h:Nat}{x:HV}{d:jz}{v:Value}{L:List gw}{S':List E}(m:iQ w h {x.stop with iF:=v})(o:x.stop.ir=d.stop.ir/\x.stop.left=d.stop.left)(u:x.room=d.room)(U:n=O L)(V:gS w base 1 v n (jr L))(y:gQ w v 9)(B:Value.ownBlock v≠N x.r)(C:h≠x.r)(D:w.grownBy l (N x.r))(W:iE l x.r S')(F:base<=h/\base<=x.r)(M:-1<=d.stop.left/\d.stop.left<=9223372036854775807):
  xj l base h {x with left:=d.stop.left,ir:=d.stop.ir,iF:=v} {d.stop with S:=S',iF:=L}:=by
 subst U;have q:∀b,Value.ownBlock v=N b->b≠x.r:=fun b X Z=>B (by rw[<-Z];exact X);have i:∀j,j≠x.r->j<G (Q w)->l.heap[j]?=w.heap[j]?:=fun j hj R=>D.block j R (fun e=>hj (by cases e;rfl));refine⟨?_,rfl,rfl,u,W,V.frame D.size fun b e s=>i b (q b e) s,y.frame fun b e s=>i b (q b e) s,F,M⟩;unfold iQ HV.cells at m⊢;rw[i h C (gm m)];simp only[o.1,o.2]at m⊢;exact m
theorem KV(base h:Nat)(x:HV)(d:jz)(t:Int)(kb vb:gw)(w:World)(hr:xj w base h x d)(hb:base<=G (Q w))(d4:O d.iF<=8000000000000)(hk:O kb<=im)(hv:O vb<=im)(hS:O d.S<=1000000000):
  Calls prog 60 #[.agg #[.pointer (N ⟨h,0,J⟩)],.agg #[.int .i64 t,.string ⟨Rm kb⟩],.string ⟨Rm vb⟩] w (Hu base h x (d.put (t,kb) vb) w):=by
 have cs:Below (G (Q w)) w ((World.alloc w (.cells #[.pointer (N ⟨h,0,J⟩)] 116)).alloc (.cells #[.int .i64 t,.string ⟨Rm kb⟩] 103)):=((gJ w).alloc gH _).alloc (by simp) _;have R0:=gP _ (.cells #[.int .i64 t,.string ⟨Rm kb⟩] 103) (gB w (.cells #[.pointer (N ⟨h,0,J⟩)] 116));have R1:=gB (World.alloc w (.cells #[.pointer (N ⟨h,0,J⟩)] 116)) (.cells #[.int .i64 t,.string ⟨Rm kb⟩] 103);rw[aj]at R1;have rc:=gr 0 R0;obtain⟨a3,cb,cc,cd,a9,ct,a8,d5,d6⟩:=hr;have R:=gm a3;have H0:=a3.iI (cs.block h R);have HW:=gj cs;have HK:=gj (tL t);have lo:-1<=x.left:=by omega
 have hp:x.left<=9223372036854775807:=by omega
 have fo:=gj (sp h x _ H0 lo hp);have cu:=gj (a8.ne a3 (by decide));have bN:=gj (a9.mZ a3);have fp:=gj (a8.uV a9);have e2:gy (x.r<G (Q w)):=gj a9.lt;have ce:=gj d5;have fr:=gj d6;have HL:=gj cb;have HD:=gj cc;have bO:=gj cd;have HT:=gj a9;have HO:=gj ct;have fx:=gj a8;have fz:=gj R0;have fB:=gj R1;have HB:=gj hb;have d7:=gj d4;have g4:=gj a3;clear d5 d6 cb cc cd a9 ct a8 R0 R1 cs H0 lo hp hb d4 a3;go_enter func60,ntmps60;go_wp2_with fail;refine fo.o.mono ?_;rintro e w2 ⟨rfl,d8,cv,cg⟩;have cB:G (Q w)≠h:=by omega
 have c0:G (Q w)+1≠h:=by omega
 have bA:=gj (cg.at cB fz.o);have ba:=gj (cg.at c0 fB.o);have bP:=gj d8;have f0:=gj cg;have d9:gy (G (Q w2)=G (Q w)+2):=gj (by rw[cv];simp);clear d8 cg cv rc cB c0;have rc:=gr 0 bA.o;have bR:gy (gR (fun i=>i=h) w w2):=gj ((gR.gO HW.o).trans f0.o);have eb:gy (gR (fun i=>i=h\/i=x.r\/Value.ownBlock x.iF=N i) w w2):=gj (bR.o.mono fun i e=>.inl e);have ec:gy (gS w2 base 1 x.iF (O d.iF) (jr d.iF)):=gj (HO.o.frame bR.o.size fun b e hb=>bR.o.block b hb fun U=>cu.o (by rw[e,U]));have bB:gy (gQ w2 x.iF 9):=gj (fx.o.frame fun b e hb=>bR.o.block b hb fun U=>cu.o (by rw[e,U]));have bS:gy (iE w2 x.r d.S):=gj (HT.o.iI (bR.o.block _ e2.o (dW bN.o)));have M:gy (x.stop.ir=d.stop.ir/\x.stop.left=d.stop.left):=gj (by unfold HV.stop jz.stop;rw[HL.o,HD.o];exact⟨rfl,rfl⟩);have bD:gy (-1<=d.stop.left/\d.stop.left<=9223372036854775807):=gj (by have:=fr.o;unfold jz.stop;simp only;split<;>omega);cases hdd:x.stop.ir with
 | true=>
  go_wp2;refine ai (ef rfl _ _ _) rfl ?_;have e:d.put (t,kb) vb=d.stop:=by unfold jz.put;rw[<-M.o.1,hdd];rfl
  refine⟨rfl,x.iF,?_,eb.o,fun i e=>.inl e⟩;rw[e,<-M.o.1,<-M.o.2];exact⟨bP.o,M.o.2,M.o.1,bO.o,bS.o,ec.o,bB.o,ce.o,bD.o⟩
 | false=>
  unfold iQ HV.cells at *
  have hn:=gr 11 bP.o;have f9:=gD 11 bP.o;have y:=gr 0 ba.o;have D:=gr 1 ba.o;have hd:=gm bP.o;have hf:=gm ba.o;have g5:=gm bA.o;have f1:gy (gI (World.alloc w2 (.cells #[.int .u8 (IntKind.u8.wrap t)] 5)) (.slice (N ⟨G (Q w2),0,J⟩) 1 1) [mi t]):=gj (by rw[<-HK.o];exact ow w2 (mi t));go_wp2;have hcv:=gI.convert (w:=(World.alloc w2 (.cells #[.int .u8 (IntKind.u8.wrap t)] 5)).drew) (by exact f1.o);unfold im at hk hv;have f2:=fun W=>nU (P:=prog) [112,117,116,32] [mi t] (by simp) W;have f3:=fun W=>nU (P:=prog) [112,117,116,32,mi t] kb (by simp;omega) W;have f4:=fun W=>nU (P:=prog) (112::117::116::32::mi t::kb) [61] (by simp;omega) W;have f5:=fun W=>nU (P:=prog) (112::117::116::32::mi t::(kb++[61])) vb (by simp;omega) W;have bX:=fun o o'=>gj (Below.drew (Below.al (Below.al (Below.rf w2) o) o'));obtain⟨L,hL⟩:∃L,L=112::117::116::32::mi t::(kb++61::vb):=⟨_,rfl⟩;have c1:gy (qy (t,kb) vb=L):=gj (by rw[hL];simp[qy]);have ci:=gj (yS (World.alloc w2 (.cells #[.int .u8 (IntKind.u8.wrap t)] 5)) L);rw[aj,hL]at ci;simp only[bU,aY,aX]at rc y D hn;have bb:=fun o=>gj (show _/\_/\_/\_ from⟨iK o rc,iK o y,iK o D,iK o hn⟩);have cl:=fun o o'=>gj (show _/\_/\_/\_ from⟨iK o' (iK o rc),iK o' (iK o y),iK o' (iK o D),iK o' (iK o hn)⟩);refine jI (n:=23) (S:=fun w'=>World.cell? w' ⟨G (Q w),0,J⟩=N (.pointer (N ⟨h,0,J⟩))/\World.cell? w' ⟨G (Q w)+1,0,J⟩=N (.int .i64 t)/\World.cell? w' ⟨G (Q w)+1,1,J⟩=N (.string ⟨Rm kb⟩)/\World.cell? w' ⟨h,11,J⟩=N x.stop.iF) (by kernel_rfl) (by kernel_rfl) rfl (by first|exact⟨rc,y,D,hn⟩|exact(bb _).out|exact(cl _ _).out) ?_;intro c2;simp only[cJ,b7,bC,cO,aN,bp,bd,bf,bK,aQ,aV];refine lS [0,1,2,3,4,5,6,7,8,9,13,14,17] ?_
  repeat(refine jx (v:=?_) rfl (by kernel_rfl) (by assumption) (by rfl) (fun _ _ _ h=>h) ?_ ?_;rotate_left 1;(· intro w a0;(try dsimp only at a0);go_simp;(try with_reducible rfl));try simp only[Act.put,List.setIfInBounds_toArray,List.set_cons_zero,List.set_cons_succ])
  refine ka ?_;refine iT 10 (by kernel_rfl) rfl ?_;intro K' hK';go_simp;refine hK'.out _ _ (by first|exact⟨rc,y,D,hn⟩|exact(bb _).out|exact(cl _ _).out) ?_;clear hK' K';intro c3
  try simp only[az,aG,aK]
  refine iT 11 (by kernel_rfl) rfl ?_;intro K' hK';go_simp;refine hK'.out _ _ (by first|exact⟨rc,y,D,hn⟩|exact(bb _).out|exact(cl _ _).out) ?_;clear hK' K';intro c4
  try simp only[az,aG,aK]
  refine lS [12,15,16,18] ?_
  repeat(refine jx (v:=?_) rfl (by kernel_rfl) (by assumption) (by rfl) (fun _ _ _ h=>h) ?_ ?_;rotate_left 1;(· intro w a0;(try dsimp only at a0);go_simp;(try with_reducible rfl));try simp only[Act.put,List.setIfInBounds_toArray,List.set_cons_zero,List.set_cons_succ])
  refine ka ?_;refine iT 19 (by kernel_rfl) rfl ?_;intro K' hK';go_simp;refine hK'.out _ _ (by first|exact⟨rc,y,D,hn⟩|exact(bb _).out|exact(cl _ _).out) ?_;clear hK' K';intro e3
  try simp only[az,aG,aK]
  refine iT 20 (by kernel_rfl) rfl ?_;intro K' hK';refine qm rfl (.tmp 17) (.tmp 30) rfl base _ _ d.iF rfl rfl (by exact ec.o.below (bX _ _).out) (by exact bB.o.frame fun b _ hb=>(bX _ _).out.block b hb) [L] (by rw[hL];exact ci.o) (by have:=d7.o;simp;omega) (by have:=HB.o;have:=d9.o;simp;omega) ?_;intro v3 w3 bE V bH ed;obtain⟨B,q,rfl⟩:=bE.shape;rw[<-hL]at V;have bv:=gj (lR V cu.o (gP _ (.cells #[.string ⟨Rm L⟩] 9) (gP _ (.cells #[.int .u8 (IntKind.u8.wrap t)] 5) bP.o)));have eg:=gj (lR V (bB.o.ne bA.o (by decide)) (gP _ (.cells #[.string ⟨Rm L⟩] 9) (gP _ (.cells #[.int .u8 (IntKind.u8.wrap t)] 5) bA.o)));have c5:=gj (lR V (bB.o.ne ba.o (by decide)) (gP _ (.cells #[.string ⟨Rm L⟩] 9) (gP _ (.cells #[.int .u8 (IntKind.u8.wrap t)] 5) ba.o)));refine hK'.out _ _ ⟨gr 0 eg.o,gr 0 c5.o,gr 1 c5.o,gr 11 bv.o⟩ ?_;clear hK' K';intro e4
  try simp only[Act.put,az,aG,aK]
  refine lS [21,22] ?_
  repeat(refine jx (v:=?_) rfl (by kernel_rfl) (by assumption) (by rfl) (fun _ _ _ h=>h) ?_ ?_;rotate_left 1;(· intro w a0;(try dsimp only at a0);go_simp;(try with_reducible rfl));try simp only[Act.put,List.setIfInBounds_toArray,List.set_cons_zero,List.set_cons_succ])
  refine ka ?_;refine wpAnyH_done (by kernel_rfl) ?_ _;show Oper.wp _ _ _ _ _ _;have e9:=gr 11 bv.o;have g9:=gD 11 bv.o;have hg:=gm bv.o;have f7:gy (G (Q w2)<=G (Q w3)):=gj (by have:=V.size;simp at this;omega);have ej:=gj (bH.ne bv.o (by decide));have el:gy (iE w3 x.r d.S):=gj (bS.o.iI ((V.block _ (by simp;have:=bS.o.lt;omega) (fun e=>fp.o e.symm)).trans ((heap_alloc_old _ _ (by simp;have:=bS.o.lt;omega)).trans (heap_alloc_old _ _ bS.o.lt))));have c6:=gj (bH.uV el.o);have f8:=gj bE;have e5:=gj bH;have bI:gy (∀i,Value.ownBlock (.slice B (O d.iF+1) q)=N i->Value.ownBlock x.iF=N i\/G (Q w)<=i):=gj (fun i e=>(ed i e).imp id fun U=>by have:=d9.o;rw[U];simp;omega);have ga:gy (gR (fun i=>Value.ownBlock x.iF=N i) w2 w3):=gj ⟨V.os,V.tape,V.output,f7.o,fun i hp bc=>(V.block i (by simp;omega) (fun e=>bc e.symm)).trans ((heap_alloc_old _ _ (by simp;omega)).trans (heap_alloc_old _ _ hp))⟩;clear bE V bH ed;go_wp2;obtain⟨X,bw⟩:∃X,X=World.setCell w3 ⟨h,11,J⟩ (.slice B (O d.iF+1) q):=⟨_,rfl⟩;rw[<-bw];have C:∀j,j≠h->X.heap[j]?=w3.heap[j]?:=fun j hj=>by rw[bw];exact Below.heap_setCell _ ⟨h,11,J⟩ _ j hj
  have e7:gy (G (Q X)=G (Q w3)):=gj (by rw[bw,QO]);have c7:gy (iQ X h {x.stop with iF:=.slice B (O d.iF+1) q}):=gj (by rw[bw];exact QN _ _ 11 _ bv.o);have c8:=gj ((C _ (by omega:G (Q w)≠h)).trans eg.o);have cm:=gj ((C _ (by omega:G (Q w)+1≠h)).trans c5.o);have b0:gy (iE X x.r d.S):=gj (el.o.iI (C _ (dW bN.o)));have gb:=gj (f8.o.frame (w':=X) (by have:=e7.o;omega) fun b e _=>C b fun U=>ej.o (by rw[e,U]));have e8:=gj (e5.o.frame (w':=X) fun b e _=>C b fun U=>ej.o (by rw[e,U]));have gc:gy (gR (fun i=>i=h\/i=x.r\/Value.ownBlock x.iF=N i) w X):=gj (by rw[bw];exact(eb.o.trans (ga.o.mono fun i e=>.inr (.inr e))).setCell _ _ (.inl (.inl rfl)));clear bw C rc y D hn f9 e9 g9 hcv f2 f3 f4 f5 c2 c3 c4 e3 e4;unfold iQ HV.cells at *
  have q0:=gr 0 c8.o;have y:=gr 0 cm.o;have D:=gr 1 cm.o;have hl:=gr 10 c7.o;simp only[bU,aY,aX]at q0 y D hl;have bi:World.cell? X ⟨h,10,J⟩=N (.map (N x.r)):=hl;clear hl;have em:=gm c7.o;have c9:=gm c8.o;have da:=gm cm.o;have dc:=b0.o.lt;have cn:=fun o=>iE.mX (w:=(World.alloc X o).drew) (b0.o.iI (heap_alloc_old _ _ b0.o.lt)) (mt:=123) underlying123 (by kernel_rfl) (t,kb);have b1:=iE.mX (w:=X.drew) (b0.o.iI rfl) (mt:=123) underlying123 (by kernel_rfl) (t,kb);simp only[kV,nd,nW]at cn b1;go_region;obtain⟨w5,dk⟩:∃w5,w5=(World.alloc X (.cells #[.string ⟨((ku (t,kb) d.S).getD []).toArray⟩] 179)).drew:=⟨_,rfl⟩;rw[<-dk];have aa:Below (G (Q X)) X w5:=by rw[dk];exact((gJ X).alloc gH _).drew
  have hh:=gj aa;have ag:=gj (gC aa em c7.o);have b2:=gj (gC aa c9 c8.o);have b3:=gj (gC aa da cm.o);have a1:gy (iE w5 x.r d.S):=gj (b0.o.iI (aa.block _ dc));have dl:=gj (gb.o.below aa);have b9:=gj (e8.o.frame (w':=w5) fun b _ R=>aa.block b R);have dn:gy (gR (fun i=>i=h\/i=x.r\/Value.ownBlock x.iF=N i) w w5):=gj (gc.o.trans (gR.gO aa));have g6:gy (G (Q X)<=G (Q w5)):=gj aa.size;clear dk aa q0 y D bi em c9 da dc cn b1;obtain⟨bt,dp⟩:∃bt,bt=(ku (t,kb) d.S).isSome:=⟨_,rfl⟩;rw[<-dp];have en:=gj dp;clear dp;have q0:=gr 0 b2.o;have y:=gr 0 b3.o;have D:=gr 1 b3.o;have hl:=gr 10 ag.o;have co:=gr 11 ag.o;simp only[bU,aY,aX]at q0 y D hl co;have bi:World.cell? w5 ⟨h,10,J⟩=N (.map (N x.r)):=hl;clear hl;have a6:=gm ag.o;have ap:=gm b2.o;have a5:=gm b3.o;cases bt with
  | true=>
   go_wp2;go_quiet (fail);go_wp2;have a2:gy (d.pQ (t,kb)=true):=gj (by unfold jz.pQ;rw[<-en.o];rfl);obtain⟨s,ds⟩:∃s,s=w5.drewN nq:=⟨_,rfl⟩;have bk:gy (Below (G (Q w5)) w5 s):=gj (by rw[ds];exact(Below.rf w5).drewN _);rw[<-ds];clear ds;have E:=gj (gC bk.o a6 ag.o);have ak:=gj (gC bk.o ap b2.o);have bl:=gj (gC bk.o a5 b3.o);have a7:gy (iE s x.r d.S):=gj (a1.o.iI (bk.o.block _ a1.o.lt));have b4:=gj (dl.o.below bk.o);have Z:=gj (b9.o.frame (w':=s) fun b _ R=>bk.o.block b R);have bn:gy (gR (fun i=>i=h\/i=x.r\/Value.ownBlock x.iF=N i) w s):=gj (dn.o.trans (gR.gO bk.o));clear q0 y D bi co a6 ap a5;have q0:=gr 0 ak.o;have y:=gr 0 bl.o;have D:=gr 1 bl.o;have hl:=gr 10 E.o;simp only[bU,aY,aX]at q0 y D hl;have bi:World.cell? s ⟨h,10,J⟩=N (.map (N x.r)):=hl;clear hl;have eo:=gm E.o;have dv:=gm ak.o;have fb:=gm bl.o;obtain⟨W1,hu,b5,u,d0⟩:=iE.put (w:=s) a7.o (mt:=123) underlying123 (t,kb) vb;have b6:=hu 1;have bo:∀w:World,w.drewN 1=w.drew:=fun _=>rfl;rw[bo,bo]at b6;simp only[kV,nd,nW]at b6;have bx:=gj b5;have F:=gj u;clear hu bo b5 u d0;go_region;go_wp2;go_end0;have e:d.put (t,kb) vb={d.stop with S:=nf (t,kb) vb d.S,iF:=d.iF++[L]}:=by unfold jz.put;rw[<-M.o.1,hdd,af (by decide),a2.o,aw rfl,c1.o]
   refine⟨rfl,.slice B (O d.iF+1) q,?_,?_,bI.o⟩
   .rw[e];have m:=FZ (w:=s) (x:=x) (d:=d) (v:=.slice B (O d.iF+1) q) (L:=d.iF++[L]) E.o M.o bO.o (by simp) b4.o Z.o c6.o bN.o F.o bx.o ce.o bD.o;exact⟨m.row.iI rfl,m.left,m.ir,m.room,m.jh.iI rfl,m.own.frame (w':=W1.drew) gH (fun _ _ _=>rfl),m.qN.frame (w':=W1.drew) (fun _ _ _=>rfl),m.lo,m.lb⟩
   .exact bn.o.j8 (T:=fun i=>i=x.r) (c:=W1.drew) ⟨F.o.os,F.o.tape,F.o.output,F.o.size,fun k hk bc=>F.o.block k hk fun e=>bc (by cases e;rfl)⟩ fun i e=>.inl (.inr (.inl e))
  | false=>
   have ge:=gj fun W hH hT=>FT h {x.stop with iF:=.slice B (O d.iF+1) q} d.S t W hH hT hS;obtain⟨rv,er⟩:∃rv,rv=d.BS t:=⟨_,rfl⟩;have d1:=gj er;have gf:gy (∀W,iQ W h {x.stop with iF:=.slice B (O d.iF+1) q}->Calls prog 103 #[.agg #[.pointer (N ⟨h,0,J⟩)],.int .i64 t] W fun e w'=>e=.returned (.int .i64 rv)/\Below (G (Q W)) W w'):=gj fun W hH=>by have h1:=G6 h {x.stop with iF:=.slice B (O d.iF+1) q} t W hH;rw[d1.o];unfold jz.BS;rw[<-bO.o];exact h1
   clear er;go_wp2;have eD:gy (Below (G (Q w5)) w5 w5.drew):=gj (Below.rf w5).drew
   go_region_held3 (fun w'=>World.cell? w' ⟨G (Q w),0,J⟩=N (.pointer (N ⟨h,0,J⟩))/\World.cell? w' ⟨G (Q w)+1,0,J⟩=N (.int .i64 t))
    (first|exact⟨q0,y⟩|exact⟨(l.o.cell (p:=⟨G (Q w),0,J⟩) ap).trans q0,(l.o.cell (p:=⟨G (Q w)+1,0,J⟩) a5).trans y⟩)
    (first
      | (go_at_call 102;refine(ge.o _ (by first|exact ag.o|exact gC l.o a6 ag.o) (by first|exact a1.o.iI rfl|exact a1.o.iI (l.o.block _ a1.o.lt))).mono ?_;rintro e s ⟨rfl,br⟩;have l:gy (Below (G (Q w5)) w5 s):=gj (by first|exact l.o.tn br|exact eD.o.tn br);clear br)
      | (go_at_call 103;refine(gf.o _ (by first|exact ag.o|exact gC l.o a6 ag.o)).mono ?_;rintro e s ⟨rfl,br⟩;have l:gy (Below (G (Q w5)) w5 s):=gj (by first|exact l.o.tn br|exact eD.o.tn br);clear br))
   by_cases R:(iq t d.S:Int)<rv
   .go_wp2;have a2:gy (d.pQ (t,kb)=true):=gj (by unfold jz.pQ;rw[<-d1.o,dK,dI];exact .inr R);have E:=gj (gC l.o a6 ag.o);have ak:=gj (gC l.o ap b2.o);have bl:=gj (gC l.o a5 b3.o);have a7:gy (iE s x.r d.S):=gj (a1.o.iI (l.o.block _ a1.o.lt));have b4:=gj (dl.o.below l.o);have Z:=gj (b9.o.frame (w':=s) fun b _ R=>l.o.block b R);have bn:gy (gR (fun i=>i=h\/i=x.r\/Value.ownBlock x.iF=N i) w s):=gj (dn.o.trans (gR.gO l.o));clear q0 y D bi co a6 ap a5;have q0:=gr 0 ak.o;have y:=gr 0 bl.o;have D:=gr 1 bl.o;have hl:=gr 10 E.o;simp only[bU,aY,aX]at q0 y D hl;have bi:World.cell? s ⟨h,10,J⟩=N (.map (N x.r)):=hl;clear hl;have eo:=gm E.o;have dv:=gm ak.o;have fb:=gm bl.o;obtain⟨W1,hu,b5,u,d0⟩:=iE.put (w:=s) a7.o (mt:=123) underlying123 (t,kb) vb;have b6:=hu 1;have bo:∀w:World,w.drewN 1=w.drew:=fun _=>rfl;rw[bo,bo]at b6;simp only[kV,nd,nW]at b6;have bx:=gj b5;have F:=gj u;clear hu bo b5 u d0;go_region;go_wp2;go_end0;have e:d.put (t,kb) vb={d.stop with S:=nf (t,kb) vb d.S,iF:=d.iF++[L]}:=by unfold jz.put;rw[<-M.o.1,hdd,af (by decide),a2.o,aw rfl,c1.o]
    refine⟨rfl,.slice B (O d.iF+1) q,?_,?_,bI.o⟩
    .rw[e];have m:=FZ (w:=s) (x:=x) (d:=d) (v:=.slice B (O d.iF+1) q) (L:=d.iF++[L]) E.o M.o bO.o (by simp) b4.o Z.o c6.o bN.o F.o bx.o ce.o bD.o;exact⟨m.row.iI rfl,m.left,m.ir,m.room,m.jh.iI rfl,m.own.frame (w':=W1.drew) gH (fun _ _ _=>rfl),m.qN.frame (w':=W1.drew) (fun _ _ _=>rfl),m.lo,m.lb⟩
    .exact bn.o.j8 (T:=fun i=>i=x.r) (c:=W1.drew) ⟨F.o.os,F.o.tape,F.o.output,F.o.size,fun k hk bc=>F.o.block k hk fun e=>bc (by cases e;rfl)⟩ fun i e=>.inl (.inr (.inl e))
   .go_wp2;have a2:gy (d.pQ (t,kb)=false):=gj (by unfold jz.pQ;rw[<-en.o,<-d1.o,Bool.false_or,decide_eq_false_iff_not];exact fO.2 (by omega));have E:=gj (gC l.o a6 ag.o);have ak:=gj (gC l.o ap b2.o);have a7:gy (iE s x.r d.S):=gj (a1.o.iI (l.o.block _ a1.o.lt));have b4:=gj (dl.o.below l.o);have Z:=gj (b9.o.frame (w':=s) fun b _ R=>l.o.block b R);have bn:gy (gR (fun i=>i=h\/i=x.r\/Value.ownBlock x.iF=N i) w s):=gj (dn.o.trans (gR.gO l.o));clear q0 y D bi co a6 ap a5;have rc:=gr 0 ak.o;have hn:=gr 11 E.o;have f9:=gD 11 E.o;simp only[bU,aY,aX]at rc hn;have eo:=gm E.o;have dv:=gm ak.o;have gg:=gj (Z.o.ne E.o (by decide));have fd:=gj (Z.o.uV a7.o);have bX:=fun o=>gj (Below.drew (Below.al (Below.rf s) o));have ci:=gj (yS s pn);have gl:gy (base<=G (Q s)):=gj (by have:=HB.o;have:=bn.o.size;omega);have bb:=fun o=>gj (show _/\_ from⟨iK o rc,iK o hn⟩);refine jI (n:=11) (S:=fun w'=>World.cell? w' ⟨G (Q w),0,J⟩=N (.pointer (N ⟨h,0,J⟩))/\World.cell? w' ⟨h,11,J⟩=N (.slice B (O d.iF+1) q)) (by kernel_rfl) (by kernel_rfl) rfl (by first|exact⟨rc,hn⟩|exact(bb _).out) ?_;intro c2;simp only[cJ,b7,bC,cO,aN,bp,bd,bf,bK,aQ,aV];refine lS [0,1,2,3,4,5,6] ?_
    repeat(refine jx (v:=?_) rfl (by kernel_rfl) (by assumption) (by rfl) (fun _ _ _ h=>h) ?_ ?_;rotate_left 1;(· intro w a0;(try dsimp only at a0);go_simp;(try with_reducible rfl));try simp only[Act.put,List.setIfInBounds_toArray,List.set_cons_zero,List.set_cons_succ])
    refine ka ?_;refine iT 7 (by kernel_rfl) rfl ?_;intro K' hK';go_simp;refine hK'.out _ _ (by first|exact⟨rc,hn⟩|exact(bb _).out) ?_;clear hK' K';intro c3
    try simp only[az,aG,aK]
    refine iT 8 (by kernel_rfl) rfl ?_;intro K' hK';refine qm rfl (.tmp 70) (.tmp 71) rfl base (.slice B (O d.iF+1) q) (O d.iF+1) (d.iF++[L]) (by simp) rfl (by exact b4.o.below (bX _).out) (by exact Z.o.frame fun b _ hb=>(bX _).out.block b hb) [pn] (by exact ci.o) (by have:=d7.o;simp;omega) (by have:=gl.o;simp;omega) ?_;intro v7 w7 bL u bM eS;obtain⟨b8,bs,rfl⟩:=bL.shape;have bz:=gj (lR u gg.o (gP _ (.cells #[.string ⟨#[110,111,32,114,111,111,109]⟩] 9) E.o));have gn:=gj (lR u (Z.o.ne ak.o (by decide)) (gP _ (.cells #[.string ⟨#[110,111,32,114,111,111,109]⟩] 9) ak.o));refine hK'.out _ _ ⟨gr 0 gn.o,gr 11 bz.o⟩ ?_;clear hK' K';intro c4
    try simp only[Act.put,az,aG,aK]
    refine lS [9,10] ?_
    repeat(refine jx (v:=?_) rfl (by kernel_rfl) (by assumption) (by rfl) (fun _ _ _ h=>h) ?_ ?_;rotate_left 1;(· intro w a0;(try dsimp only at a0);go_simp;(try with_reducible rfl));try simp only[Act.put,List.setIfInBounds_toArray,List.set_cons_zero,List.set_cons_succ])
    refine ka ?_;refine wpAnyH_done (by kernel_rfl) ?_ _;show Oper.wp _ _ _ _ _ _;have e9:=gr 11 bz.o;have g9:=gD 11 bz.o;have hi:=gm bz.o;have fg:gy (G (Q s)<=G (Q w7)):=gj (by have:=u.size;simp at this;omega);have eT:=gj (bM.ne bz.o (by decide));have bx:gy (iE w7 x.r d.S):=gj (a7.o.iI ((u.block _ (by simp;have:=a7.o.lt;omega) (fun e=>fd.o e.symm)).trans (heap_alloc_old _ _ a7.o.lt)));have g8:=gj (bM.uV bx.o);have go:=gj bL;have fi:=gj bM;have gp:gy (∀i,Value.ownBlock (.slice B (O d.iF+1) q)=N i->Value.ownBlock x.iF=N i\/G (Q w)<=i):=bI;have eV:gy (gR (fun i=>i=h\/i=x.r\/Value.ownBlock x.iF=N i) w w7):=gj (bn.o.j8 (T:=fun i=>Value.ownBlock (.slice B (O d.iF+1) q)=N i) ⟨u.os,u.tape,u.output,fg.o,fun i hp bc=>(u.block i (by simp;omega) (fun e=>bc e.symm)).trans (heap_alloc_old _ _ hp)⟩ fun i e=>(gp.o i e).imp (fun e=>.inr (.inr e)) id);have fk:gy (∀i,Value.ownBlock (.slice b8 (O d.iF+1+1) bs)=N i->Value.ownBlock x.iF=N i\/G (Q w)<=i):=gj (fun i e=>(eS i e).elim (fun U=>bI.o i U) fun U=>.inr (by have:=bn.o.size;rw[U];simp;omega));clear bL u bM eS rc hn f9;go_wp2;go_end0;obtain⟨w8,cp⟩:∃w8,w8=World.setCell w7 ⟨h,11,J⟩ (.slice b8 (O d.iF+1+1) bs):=⟨_,rfl⟩;have C:∀j,j≠h->w8.heap[j]?=w7.heap[j]?:=fun j hj=>by rw[cp];exact Below.heap_setCell _ ⟨h,11,J⟩ _ j hj
    have fl:gy (G (Q w8)=G (Q w7)):=gj (by rw[cp,QO]);have gq:gy (iQ w8 h {x.stop with iF:=.slice b8 (O d.iF+1+1) bs}):=gj (by rw[cp];exact QN _ _ 11 _ bz.o);have e:d.put (t,kb) vb={d.stop with iF:=d.iF++[L]++[pn]}:=by unfold jz.put;rw[<-M.o.1,hdd,af (by decide),a2.o,af (by decide),c1.o]
    refine⟨rfl,.slice b8 (O d.iF+1+1) bs,?_,?_,fk.o⟩
    .rw[e];have ho:=go.o.frame (w':=w8) (by have:=fl.o;omega) fun b e _=>C b fun U=>eT.o (by rw[e,U]);have gs:=fi.o.frame (w':=w8) fun b e _=>C b fun U=>eT.o (by rw[e,U]);have m:xj w8 base h {x with left:=d.stop.left,ir:=d.stop.ir,iF:=.slice b8 (O d.iF+1+1) bs} {d.stop with iF:=d.iF++[L]++[pn]}:=by
      refine⟨?_,rfl,rfl,bO.o,bx.o.iI (C _ (dW bN.o)),?_,gs,ce.o,bD.o⟩
      .have h1:=gq.o;unfold iQ HV.cells at h1⊢;simp only[M.o.1,M.o.2]at h1⊢;exact h1
      .show gS w8 base 1 _ (d.iF++[L]++[pn]).length _;rw[show(d.iF++[L]++[pn]).length=O d.iF+1+1 by simp];exact ho
     rw[cp]at m
     first
      | exact m
      | exact⟨m.row.iI rfl,m.left,m.ir,m.room,m.jh.iI rfl,m.own.frame gH (fun _ _ _=>rfl),m.qN.frame (fun _ _ _=>rfl),m.lo,m.lb⟩
    .first
      | exact eV.o.setCell _ _ (.inl (.inl rfl))
      | exact(eV.o.setCell _ _ (.inl (.inl rfl))).drew
attribute [local go_sem] Oper.semAt_some
structure pe(r:Nat)(W W':World):Prop where
 size:G (Q W)<=G (Q W')
 map:W'.heap[r]?=W.heap[r]?
 iters:∀(k:Nat) (m:Option Nat) (a:Nat) (b:Array Nat) (c:Nat),W.heap[k]?=N (.mapIter m a b c)->W'.heap[k]?=N (.mapIter m a b c)
theorem pe.refl(W:World):pe r W W:=⟨aq _,rfl,fun _ _ _ _ _ h=>h⟩
theorem pe.trans{A B C:World}(h:pe r A B)(k:pe r B C):pe r A C:=⟨au h.size k.size,k.map.trans h.map,fun i m a b c d=>k.iters i m a b c (h.iters i m a b c d)⟩
theorem pe.iN(h:Below (G (Q W)) W W')(d:r<G (Q W)):pe r W W':=⟨h.size,h.block r d,fun k _m _a _b _c hk=>(h.block k (gm hk)).trans hk⟩
theorem pe.Nh{j:Nat}(h:W.grownBy W' (N j))(d:r<G (Q W))(i:j≠r)(l:∀m a b c,W.heap[j]?≠N (.mapIter m a b c)):pe r W W':=
 ⟨h.size,h.block r d (fun e=>i (by cases e;rfl)),fun k m a b c hk=>(h.block k (gm hk) (fun e=>by cases e;exact l m a b c hk)).trans hk⟩
theorem iJ.Lv{w':World}{l pre:List (K×Value)}(h:iJ w r q l pre)(hk:pe r w w'):iJ w' r q l pre:=by obtain⟨zs,i,b,since,c0,h1,j,m,d,rest⟩:=h;exact⟨zs,i,b,since,c0,h1,j,hk.map.trans m,hk.iters q _ _ _ _ d,rest⟩
theorem It(h:Nat)(w:World):Calls prog 243 #[.agg #[.pointer (N ⟨h,0,J⟩)]] w fun e w'=>
  e=.returned (.func (.func 244) #[] #[.pointer (N ⟨G (Q w),0,J⟩)])/\w'=World.alloc w (.cells #[.pointer (N ⟨h,0,J⟩)] 116):=by
 go_enter func243,ntmps243;go_wp2;go_ret;exact⟨rfl,rfl⟩
theorem Iu(n:Nat)(hn:1<=n)(s h:Nat)(x:HV)(S:List E)(w:World)(ap:s<G (Q w))(hm:World.cell? w ⟨s,0,J⟩=N (.pointer (N ⟨h,0,J⟩)))(V:iQ w h x)(ht:iE w x.r S):
  SeqStopsK Fence.wide n prog 244 #[.pointer (N ⟨s,0,J⟩)] (fun x:E=>#[kV x.1,.string ⟨Rm x.2⟩]) (pe x.r) (fun xs=>xs.Perm S) (fun _=>True) (O S) w:=by
 intro l b Jx W X D bv hY h0;obtain⟨r,Z⟩:∃r,r=x.r:=⟨_,rfl⟩;rw[<-Z]at hY;have j:=V.iI (X.block _ V.lt);unfold iQ HV.cells at j;have M:=gr 10 j;simp only[bU,aX,aY]at M;rw[<-Z]at M ht;obtain⟨R,L,u,hp⟩:=ht;have F:ix W r L:=u.iI (X.block _ u.lt);have bw:World.cell? W ⟨s,0,J⟩=N (.pointer (N ⟨h,0,J⟩)):=(X.cell (p:=⟨s,0,J⟩) ap).trans hm;have bl:O L=O S:=by rw[hp.length_eq,aB]
 have HP:=gj hp;have HN:=gj R.nodup;have bx:=gm j;clear V j Z hm R hp;refine callsIn_of_wp func244 rfl cK ?_ rfl
 try simp only[ntmps244,dG,ao,aI,Nat.reduceAdd,Nat.reduceSub,bd,bf,bK,cY,aQ,aV]
 gi_wp2_with (first
  | (gi_at_range;refine sA rfl _ rfl underlying123 rfl F ?_;intro w0 ag d bz)
  | gi_in)
 try go_frame
 gi_loopw [3,4] (fun _ _ wr=>∃pre:List E,iJ wr r (G (Q W)) L (pre.map zS)/\b pre wr) (fun _ _ wr=>wr.rangeLeft r (G (Q W)))
 case atStart=>exact⟨[],ag,D [] W w0 J h0 ⟨d.os,d.tape,d.output,d.size,fun k hk _=>d.block k hk⟩ (fun r e=>by cases e)⟩
 case round=>
  obtain⟨pre,m,U⟩:=hrel
  gi_wp2_with (first
   | (gi_at_next;refine tA rfl _ rfl rfl m ?_ ?_)
   | gi_in)
  .intro a1;have a2:=gj (vL (ot m.sub.2.2) HN.o (a1.trans HP.o))
   gi_wp2
   go_end0;exact⟨⟨_,rfl⟩,.inl ⟨_,a2.o,U⟩⟩
  .intro y kb v w2 hx bA i a4 a5 a6 bB;obtain⟨⟨k',B⟩,a7,e⟩:=aA.1 (HP.o.mem_iff.1 hx);cases e;have a8:b pre w2:=D _ wr w2 (N (G (Q W))) U a4 (fun r e=>by cases e;exact⟨aq _,m.iter_walk⟩);have a9:O pre<O S:=by have h1:=i.left;simp at h1;omega
   have ak:b pre ((World.alloc w2 (.cells #[.int .i64 y,.string ⟨Rm kb⟩] 103)).alloc (.cells #[.string ⟨Rm B⟩] 179)):=D _ _ _ J (D _ w2 _ J a8 (ek w2 _ J) (fun r e=>by cases e)) (ek _ _ J) (fun r e=>by cases e);have q:=(i.of_walks (KeepsWalks.alloc w2 (.cells #[.int .i64 y,.string ⟨Rm kb⟩] 103))).of_walks (KeepsWalks.alloc _ (.cells #[.string ⟨Rm B⟩] 179));obtain⟨fn,tmps,assign,body,hy,hR⟩:=hY pre ((y,kb),B) ((World.alloc w2 (.cells #[.int .i64 y,.string ⟨Rm kb⟩] 103)).alloc (.cells #[.string ⟨Rm B⟩] 179)) ak a9;have bD:=m.left;have al:=i.left;simp only[ab,ao,aI]at al;clear a5 hx a7;unfold kV nd at hy;unfold nW at a6;unfold nW;have ba:=gj q;clear q
   gi_wp2
   refine hR.mono ?_;rintro e W3 (⟨rfl,bb,bc⟩|⟨rfl,am⟩)
   .gi_wp2
    have C:iJ W3 r (G (Q W)) L ((pre++[((y,kb),B)]).map zS):=by rw[bj];exact ba.o.Lv bc
    go_roundw
    case rel=>exact⟨_,C,bb⟩
    case measure=>have:=C.left;simp only[bj,bG,dM,ab,ao,aI]at this;omega
   .gi_wp2
    refine ai (ef rfl _ _ _) rfl ?_;exact⟨⟨_,rfl⟩,.inr ⟨_,cK,am⟩⟩
end Go.Proofs.YtkkfmkhbdoeglabGreatDoor
namespace Go.Proofs.YtkkfmkhbdoeglabGreatDoor
open Go.World renaming heap->Q
open List renaming length->O,toArray->Rm
open Option renaming none->J,some->N
open _root_.Array renaming size->G
open Go.Proofs.Tryz
variable{A M n:Nat}{S:List E}{value:gw}
theorem FJ(n:Nat)(i:n<4294967296):∃a b c d,yX n=[a,b,c,d]/\j5 a b c d=n:=by refine⟨_,_,_,_,rfl,?_⟩;exact((Er n i _ _ _ _).1 rfl).symm
theorem Um(k:UInt8)(l:gw):lQ (vh k l)=.inl (k,l):=by obtain⟨a,b,c,d,h1,i⟩:=FJ (Cp (k::l)) (Ev _);unfold vh;rw[h1,pU,aw i.symm]
def yf(b n:Nat):Nat:=b / 2^(32-n)
def oe(b n:Nat):Nat:=yf b n*2^(32-n)
def pj(b n:Nat):gw:=yX b++[UInt8.ofNat n]
theorem Ew(b n:Nat):oe b n<=b:=Nat.div_mul_le_self _ _
theorem Ol{i:Nat}(hm:M<4294967296)(j:i<4294967296)(h:yX M=yX i):M=i:=by obtain⟨a,b,c,d,h1,l⟩:=FJ M hm;obtain⟨a',q,c',d',m,o⟩:=FJ i j;rw[h1,m]at h;cases h;exact l.symm.trans o
theorem M6{b m:Nat}(d:M<4294967296)(i:b<4294967296)(hm:m<=32)(o:n<=32)(h:pj M m=pj b n):M=b/\m=n:=by unfold pj at h;obtain⟨h1,j⟩:=List.append_inj h (by simp[yX]);refine⟨Ol d i h1,?_⟩;have:=bm (fun l=>l.map UInt8.toNat) j;simp at this;omega
def Pu(e:E):Prop:=∃b n,n<=32/\b<4294967296/\e.1=(1,pj b n)
def mf(A:Nat)(S:List E)(i:Int)(value:gw):Prop:=
 gM S/\(∀e∈S,Pu e)/\((i=-1/\value=[]/\∀d n v,((1,pj d n),v)∈S->n<=32->d<4294967296->oe A n≠d)\/
  ∃b:Nat,i=b/\b<=32/\((1,pj (oe A b) b),value)∈S/\∀d n v,((1,pj d n),v)∈S->n<=32->d<4294967296->oe A n=d->n<=b)
theorem mf.start(A:Nat):mf A [] (-1) []:=⟨gM.nil,(fun _ h=>by cases h),.inl ⟨rfl,rfl,fun _ _ _ h=>by cases h⟩⟩
theorem mf.step{l:Int}{v:gw}{d:Nat}(h:mf A S l value)(_hA:A<4294967296)(B:n<=32)(C:d<4294967296)(s:∀x∈S,x.1≠(1,pj d n)):
  mf A (nf (1,pj d n) v S) (if oe A n=d/\l<n then(n:Int)else l) (if oe A n=d/\l<n then v else value):=by
 obtain⟨M,R,o⟩:=h;refine⟨kG _ _ M,fun e he=>?_,?_⟩
 .rcases(mF _ _ _ _).1 he with rfl|⟨h1,-⟩
  .exact⟨d,n,B,C,rfl⟩
  .exact R e h1
 .have hold:∀i j v',((1,pj i j),v')∈nf (1,pj d n) v S->j<=32->i<4294967296->(i=d/\j=n)\/((1,pj i j),v')∈S:=by
   intro i j v' hm h1 m;rcases(mF _ _ _ _).1 hm with e|⟨q,-⟩
   .have:=bm (fun x:E=>x.1.2) e;exact .inl (M6 m C h1 B this)
   .exact .inr q
  by_cases hc:oe A n=d/\l<n
  .rw[aw hc,aw hc];refine .inr ⟨n,rfl,B,(mF _ _ _ _).2 (.inl (by rw[hc.1])),fun i j v' hm h1 m q=>?_⟩;rcases hold i j v' hm h1 m with ⟨-,rfl⟩|r
   .exact aq _
   .rcases o with ⟨-,-,o⟩|⟨b,u,-,-,o⟩
    .exact absurd q (o i j v' r h1 m)
    .have:=o i j v' r h1 m q;have:=hc.2;omega
  .rw[af hc,af hc];rcases o with ⟨D,U,o⟩|⟨b,u,F,y,o⟩
   .refine .inl ⟨D,U,fun i j v' hm h1 m q=>?_⟩;rcases hold i j v' hm h1 m with ⟨rfl,rfl⟩|r
    .exact hc ⟨q,by omega⟩
    .exact o i j v' r h1 m q
   .refine .inr ⟨b,u,F,(mF _ _ _ _).2 (.inr ⟨y,s _ y⟩),fun i j v' hm h1 m q=>?_⟩;rcases hold i j v' hm h1 m with ⟨rfl,rfl⟩|r
    .refine Nat.le_of_not_lt fun V=>hc ⟨q,by omega⟩
    .exact o i j v' r h1 m q
def mh(A:Nat)(S:List E):Nat->Option gw
 | 0=>ku (1,pj (oe A 0) 0) S
 | n+1=>match ku (1,pj (oe A (n+1)) (n+1)) S with
  | some v=>N v
  | none=>mh A S n
theorem G7{d:Int}(h:mf A S d value)(x:A<4294967296):∀m:Nat,d<=m->m<=32->mh A S m=if d<0 then J else N value:=by
 obtain⟨y,-,l⟩:=h;have hc:∀n,oe A n<4294967296:=fun n=>fQ (Ew A n) x;have i:∀n:Nat,d<n->n<=32->ku (1,pj (oe A n) n) S=J:=by
  intro n h1 o;rw[QQ];rintro⟨k,v⟩ r e;simp only at e;subst e;rcases l with ⟨-,-,l⟩|⟨b,s,-,-,l⟩
  .exact l _ _ _ r o (hc n) rfl
  .have:=l _ _ _ r o (hc n) rfl;omega
 have j:∀n:Nat,d=n->ku (1,pj (oe A n) n) S=N value:=by
  intro n h1;rcases l with ⟨B,-,-⟩|⟨b,s,-,u,-⟩
  .omega
  .obtain rfl:n=b:=by omega
   exact(se y.qM _ _).2 u
 intro m
 induction m with
 | zero=>
  intro h1 o;unfold mh;by_cases q:d=0
  .rw[j 0 q,af (by omega)]
  .rw[i 0 (by omega) o,aw (by omega)]
 | succ m ih=>
  intro h1 o;unfold mh;by_cases q:d=(m+1:Nat)
  .rw[j _ q,af (by omega)]
  .rw[i _ (by omega) o];exact ih (by omega) (by omega)
open Go.RowKit
def xl(w:World)(A:Nat)(S:List E)(n:Value)(wr:World):Prop:=
 Below (G (Q w)) w wr/\((∃k:Nat,k<=32/\n=.int .i64 (k:Int)/\mh A S 32=mh A S k)\/(n=.int .i64 (-1)/\mh A S 32=J))
def qj(o:Option gw):Value:=match o with
 | some v=>.tuple #[.string ⟨Rm v⟩,.bool true]
 | none=>.tuple #[.string ⟨#[]⟩,.bool false]
theorem DT(A:Nat)(S:List E)(k:Nat):mh A S k=match ku (1,pj (oe A k) k) S with
  | some v=>N v
  | none=>if k=0 then J else mh A S (k-1):=by
 cases k with
 | zero=>unfold mh;cases ku (1,pj (oe A 0) 0) S<;>rfl
 | succ k=>
  rw[show mh A S (k+1)=match ku (1,pj (oe A (k+1)) (k+1)) S with|some v=>N v|none=>mh A S k from rfl];cases ku (1,pj (oe A (k+1)) (k+1)) S with
  | some v=>rfl
  | none=>simp
theorem xl.next{w W:World}{k:Nat}(i:Below (G (Q w)) w W)(hk:k<=32)(b:mh A S 32=mh A S k)(j:ku (1,pj (oe A k) k) S=J)(q:Nat):xl w A S (.int .i64 ((k:Int)-1)) (W.drewN q):=by
 rw[DT A S k,j]at b;refine⟨i.drewN q,?_⟩;by_cases d:k=0
 .subst d;exact .inr ⟨rfl,b⟩
 .simp only[af d]at b;exact .inl ⟨k-1,by omega,by rw[show((k-1:Nat):Int)=(k:Int)-1 by omega],b⟩
end Go.Proofs.YtkkfmkhbdoeglabGreatDoor
