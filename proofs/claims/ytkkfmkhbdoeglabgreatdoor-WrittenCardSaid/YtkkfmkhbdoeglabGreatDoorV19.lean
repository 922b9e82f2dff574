/- Lemmas of the proof. No condition. -/
import Derived.Test.YtkkfmkhbdoeglabGreatDoorV18
set_option maxHeartbeats 2000000
set_option maxRecDepth 100000
namespace Go.Proofs.YtkkfmkhbdoeglabGreatDoor
open Go.IntKind renaming i64->Y,u64->Re
open Go.Obj renaming cells->Q1
open Go.Value renaming int->I,slice->Q6,string->Q7,agg->Q9,tuple->Rc
open Go.World renaming heap->Q,cell?->Rn,alloc->Ro
open List renaming length->O
open Option renaming none->J,some->N
open _root_.Array renaming size->G
open Go.Proofs.Tryz
open Go.RowKit
theorem AI{w:World}{a:Addr}{v:Value}(o:Obj)(h:Rn w a=N v):(Ro w o).cell? a=N v:=
 (aS (w:=w) (heap_alloc_old w o (gK h))).trans h
theorem CT(v:Nat)(d:Value)(os:List kv)(w:World)(x:jE w d os)(j:uJ os)(l:v<18446744073709551616)(f:Nat×Nat)(m:lF v os=N f):
  Calls prog 25 #[Q9 #[I Re v,d]] w fun e w'=>e=.returned (Rc #[Q7 ⟨[].toArray⟩,Q9 #[I Y f.1,I Y f.2]])/\Below (G (Q w)) w w':=by
 have q:jE ((Ro w (Q1 #[I Re (v:Int),d] 51)).alloc (Q1 #[I Y 0,I Y 0] 31)) d os:=x.below (((gJ w).alloc gH _).alloc (by simp) _);have y:=gj m;have hk:=vy m;clear m;obtain⟨f1,f2⟩:=f;simp only at hk⊢;have E:((f1:Int) != 0)=true:=by rw[eB];omega
 clear hk;go_enter func25,ntmps25;go_wp2_with fail;refine(ui v d os _ q j l).mono ?_;rintro e w1 ⟨rfl,i⟩;have r:gy (qi (lF v os)=Q9 #[I Y f1,I Y f2]):=gj (by rw[y.o];rfl);rw[r.o];have F:G (Q w)+1+1<=G (Q w1):=by simpa using i.size
 have b:=gj (gC i (by simp) (gB (Ro w (Q1 #[I Re (v:Int),d] 51)) (Q1 #[I Y 0,I Y 0] 31)));simp only[aj]at b;have r0:Rn w1 ⟨G (Q w)+1,0,J⟩=N (I Y 0):=gr 0 b.o;have r1:Rn w1 ⟨G (Q w)+1,1,J⟩=N (I Y 0):=gr 1 b.o;have e0:=gD 0 b.o;have R:=gD 1 b.o;have M:=gm b.o;have B:Below (G (Q w)) w w1:=(((gJ w).alloc gH _).alloc (by simp) _).trans (i.mono (by simp;omega));go_wp2;go_region;go_wp2;have C:((World.setCell w1 ⟨G (Q w)+1,0,J⟩ (I Y f1)).setCell ⟨G (Q w)+1,1,J⟩ (I Y f2)).cell? ⟨G (Q w)+1,0,J⟩=N (I Y f1):=gr 0 (QN _ _ 1 _ (QN _ _ 0 _ b.o));have D:((World.setCell w1 ⟨G (Q w)+1,0,J⟩ (I Y f1)).setCell ⟨G (Q w)+1,1,J⟩ (I Y f2)).cell? ⟨G (Q w)+1,1,J⟩=N (I Y f2):=gr 1 (QN _ _ 1 _ (QN _ _ 0 _ b.o));have s:=AI (Q1 #[I Y f1,I Y f2] 31) C;have u:=AI (Q1 #[I Y f1,I Y f2] 31) D;refine ai (v:=Rc #[Q7 ⟨#[]⟩,Q9 #[I Y f1,I Y f2]]) (by simp[results,results25,go_sem,s,u]) rfl ⟨rfl,?_⟩;exact(((B.setCell (p:=⟨G (Q w)+1,0,J⟩) (by simp) _).setCell (p:=⟨G (Q w)+1,1,J⟩) (by simp) _).alloc (by simp[];omega) _).drew
theorem BL(v:Nat)(sv:Value)(os:List kv)(w:World)(hs:jE w sv os)(a9:uJ os)(x:lF v os=J):
  Calls prog 25 #[Q9 #[I Re v,sv]] w fun e w'=>e=.returned (Rc #[Q7 ⟨(tS v os).toArray⟩,Q9 #[I Y 0,I Y 0]])/\Below (G (Q w)) w w':=by
 have HW:=gj x;have Z:ij v=true/\1<=O os/\O os<=8/\jA 0 [] os=J:=by
  unfold lF at x;split at x
  .cases x
  .split at x
   .cases x
   .rename_i h1 h2;exact⟨by simpa using h1,by omega,by omega,x⟩
 clear x;obtain⟨Z,h1,h8,al⟩:=Z;have E:=nK Z;have am:=gj al;clear al Z;have HS:=gj hs;obtain⟨a,cap,rfl,bH,-⟩:=hs.gU;clear hs;have ap:jE ((Ro w (Q1 #[I Re (v:Int),Q6 a (O os) cap] 51)).alloc (Q1 #[I Y 0,I Y 0] 31)) (Q6 a (O os) cap) os:=HS.o.below (((gJ w).alloc gH _).alloc (by simp) _);have bl:=gj ap;clear ap;go_enter func25,ntmps25;go_wp2_with fail;refine(ui v _ os _ bl.o a9 E).mono ?_;rintro e w1 ⟨rfl,C⟩;rw[HW.o];have b1:G (Q w)+1+1<=G (Q w1):=by simpa using C.size
 have B1:=gj (gC C (by simp;omega) (gP _ (Q1 #[I Y 0,I Y 0] 31) (gB w (Q1 #[I Re (v:Int),Q6 a (O os) cap] 51))));have R1:=gj (gC C (by simp) (gB (Ro w (Q1 #[I Re (v:Int),Q6 a (O os) cap] 51)) (Q1 #[I Y 0,I Y 0] 31)));simp only[aj]at R1;have hb:Below (G (Q w)) w w1:=(((gJ w).alloc gH _).alloc (by simp) _).trans (C.mono (by simp;omega));have c0:Rn w1 ⟨G (Q w),0,J⟩=N (I Re v):=gr 0 B1.o;have c1:Rn w1 ⟨G (Q w),1,J⟩=N (Q6 a (O os) cap):=gr 1 B1.o;have hX:((UInt8.ofNat (O os)).toNat:Int)=IntKind.u8.wrap (O os:Int):=by rw[IntWalk.u8_in _ (by omega)];simp;omega
 have l:=fun w=>ow w (UInt8.ofNat (O os));rw[hX]at l;have b3:(O os:Int)<=8:=by omega
 unfold qi;simp only[];have F:=gm B1.o;have M:=gm R1.o;have d0:Rn w1 ⟨G (Q w)+1,0,J⟩=N (I Y 0):=gr 0 R1.o;go_wp2;generalize av:Ro w1 (Q1 #[I Y 0,I Y 0] 31)=w2;have b2:Below (G (Q w1)) w1 w2:=by rw[<-av];exact(gJ w1).alloc gH _
 have g0:Rn w2 ⟨G (Q w),0,J⟩=N (I Re v):=(b2.cell (p:=⟨G (Q w),0,J⟩) F).trans c0;have g1:Rn w2 ⟨G (Q w),1,J⟩=N (Q6 a (O os) cap):=(b2.cell (p:=⟨G (Q w),1,J⟩) F).trans c1;have b4:G (Q w)+1<G (Q w2):=ae M b2.size;have bI:G (Q w)<G (Q w2):=by omega
 clear av c0 c1 d0;have ba:∀W,(Op.stringOp .add ⟨(nC v).toArray⟩ ⟨[UInt8.ofNat (O os)].toArray⟩).run prog W=.ok (Q7 ⟨(nC v++[UInt8.ofNat (O os)]).toArray⟩) W:=fun W=>by rw[run_string_add_sum W _ _ (by simp[ByteArray.size,iB]),ByteArray.mk_append_mk]
 have k0:=(gI.drewN (l w2) 1).convert;have bs:=(l w2).convert;have bb:=(gI.drewN (l w2) 1).convert;rw[show ∀w:World,w.drewN 1=w.drew from fun _=>rfl]at k0;go_upto_region 4 with fail;go_cut [5] (fun s wx=>s=Q7 ⟨(nC v++[UInt8.ofNat (O os)]).toArray⟩/\Below (G (Q w1)) w1 wx)
 case first=>
  go_region_with ((first
   | (go_at_call 67;refine(mS v _ E).mono ?_;rintro e w3 ⟨rfl,d⟩;
       have d1:Rn w3 ⟨G (Q w),1,J⟩=N (Q6 a (O os) cap):=(d.cell (p:=⟨G (Q w),1,J⟩) (by simp;omega)).trans (by first|exact g1|go_keep);have aE:=d.size;have b5:G (Q w)<G (Q w3):=(by simp at aE;omega);have k1:=(l w3).convert;
       (first|(have k2:=(gI.below (w:=(Ro w2 _).drew) (l w2) d).convert)|skip))))
  all_goals (go_wp2_with fail;go_meet;refine⟨rfl,?_⟩)
  all_goals first
   | exact((b2.drew.trans (d.mono b2.size)).alloc (au b2.size d.size) _)
   | exact((b2.drew.trans (d.mono b2.size)).alloc (au b2.size d.size) _).drew
   | exact((b2.alloc b2.size _).drew.trans (d.mono (by have:=b2.size;simp;omega)))
   | exact((b2.alloc b2.size _).drew.trans (d.mono (by have:=b2.size;simp;omega))).drew
 case rest=>
  obtain⟨rfl,d⟩:=hcut;have aE:=d.size;clear k0 bs bb ba l hX g0 g1;have bt:=gj (HS.o.below hb);rw[<-Iw];go_wp2;go_loopw [5,6] (fun s i wr=>∃k:Nat,k<=O os/\i=I Y k/\s=Q7 ⟨(uA v os k).toArray⟩/\Below (G (Q w1)) w1 wr) (fun _ i _=>O os-(intOf i).toNat)
  case atStart=>exact⟨0,by omega,rfl,rfl,d⟩
  case round=>
   obtain⟨k,hk,rfl,rfl,m⟩:=hrel;have bv:=m.size;have BR:=gj (gC m F B1.o);have g1:Rn wr ⟨G (Q w),1,J⟩=N (Q6 a (O os) cap):=gr 1 BR.o;have b6:=gm BR.o;by_cases R:k<O os
   .obtain⟨a',cap',he,bx,hx⟩:=(bt.o.below m).gU;cases he;obtain⟨b,off,rfl,c0,c1,c2,c3⟩:=hx k R;clear hx bx;obtain⟨ks,y⟩:=mR os 0 [] am.o k R;obtain⟨S,a0,a1,-⟩:=ue y;obtain⟨bA,a2,a3⟩:=wV y;have bB:=gj (Iv v os k R);have bD:=F8 v os k (fun o U=>by obtain⟨j,hj,rfl⟩:=List.mem_iff_getElem.1 U;obtain⟨ks,y⟩:=mR os 0 [] am.o j hj;exact(wV y).1);obtain⟨P,hP⟩:∃P,P=uA v os k:=⟨_,rfl⟩;have b8:O P<=200:=by rw[hP];omega
    rw[<-hP];have HP:=gj hP;clear hP bD;obtain⟨q,T,D,V,U⟩:∃q T D V,os[k]=⟨q,T,D,V⟩:=⟨_,_,_,_,rfl⟩;rw[U]at c0 c1 c2 c3 S a0 a1 a2 a3;have HO:=gj U;clear U y bA;simp only at S a0 a1 a2 a3;have b9:=gK c0;have bR:(k:Int)<O os:=by omega
    have bS:1<=q:=by omega
    have bX:q<=2:=by omega
    clear S;obtain⟨r,a4⟩:∃r:UInt8,(r.toNat:Int)=q/\r=UInt8.ofNat q.toNat:=⟨UInt8.ofNat q.toNat,by simp;omega,rfl⟩;obtain⟨u,a5⟩:∃u:UInt8,(u.toNat:Int)=T/\u=UInt8.ofNat T.toNat:=⟨UInt8.ofNat T.toNat,by simp;omega,rfl⟩;have a6:=gj a4;have a7:=gj a5;clear a4 a5;have B:=PX (Ro wr (Q1 #[I Y q,I Y T,Q7 ⟨List.toArray D⟩,Q7 ⟨List.toArray V⟩] 105)) r u q T a6.o.1 a7.o.1;simp only[aj]at B;have bc:=gj B;clear B
    go_wp2_with (first
     | (refine iL rfl (.tmp 44) rfl [r,u] (by exact bc.o) ?_)
     | (refine lh rfl (.tmp 36) (.tmp 45) rfl P [r,u] rfl rfl (by simp;omega) ?_)
     | (refine lh rfl (.tmp 46) (.tmp 49) rfl (P++[r,u]) D rfl rfl (by simp;omega) ?_)
     | (refine lh rfl (.tmp 50) (.tmp 52) rfl (P++[r,u]++D) V rfl rfl (by simp;omega) ?_))
    go_roundw
    case rel=>
     have e:P++r::u::D++V=uA v os (k+1):=by rw[bB.o,HO.o,HP.o,a6.o.2,a7.o.2];simp[lI]
     exact⟨k+1,by omega,by go_num,by rw[ByteArray.mk_append_mk,<-e],(m.alloc bv _).alloc (by simp;omega) _⟩
    case measure=>simp[intOf];omega
   .obtain rfl:k=O os:=by omega
    have X:=gj (gC m M R1.o);have r0:Rn wr ⟨G (Q w)+1,0,J⟩=N (I Y 0):=gr 0 X.o;have r1:Rn wr ⟨G (Q w)+1,1,J⟩=N (I Y 0):=gr 1 X.o;have e0:=gD 0 X.o;have e1:=gD 1 X.o;have b0:=gm X.o;have ca:¬(O os:Int)<O os:=by omega
    go_wp2;rw[Ds];refine ai (v:=Rc #[Q7 ⟨(tS v os).toArray⟩,Q9 #[I Y 0,I Y 0]]) (by simp[results,results25,go_sem,r0,r1]) rfl ⟨rfl,?_⟩;exact((hb.trans (m.mono (by omega))).setCell (p:=⟨G (Q w)+1,0,J⟩) (by simp) _).setCell (p:=⟨G (Q w)+1,1,J⟩) (by simp) _
end Go.Proofs.YtkkfmkhbdoeglabGreatDoor
