/- Lemmas of the proof. No condition. -/
import Derived.Test.YtkkfmkhbdoeglabGreatDoorV26
set_option maxHeartbeats 4000000
set_option maxRecDepth 100000
namespace Go.Proofs.YtkkfmkhbdoeglabGreatDoor
open Go renaming World->Q0,Value->Q4,TypeId->Ri
open Go.IntKind renaming i64->Y,u64->Re
open Go.Obj renaming cells->Q1
open Go.RowKit renaming Below->Q8
open Go.Value renaming int->I,slice->Q6,string->Q7,agg->Q9,tuple->Rc,ownBlock->Rl
open Go.World renaming heap->Q,cell?->Rn,alloc->Ro,setCell->Rp
open List renaming length->O,toArray->Rm
open Option renaming none->J,some->N
open _root_.Array renaming size->G
open Go.Proofs.Tryz
open Go.RowKit
variable{A B b p q:Nat}{W wr:Q0}{a1 a2 b0 m:Q4}{last:Option K}{s:gw}
def yC(s:gw)(at':Nat)(last:Option K)(v:Q4):Prop:=
 match jQ s at' last with
 | .inl (x,q)=>v=Rc #[sG x,I Y (q:Int),Q9 #[I Y 0,I Y 0]]
 | .inr (k,p)=>∃x:E,v=Rc #[sG x,I Y 0,Q9 #[I Y (k:Int),I Y (p:Int)]]
def ya(wr:Q0)(A b:Nat)(u0 u1 u2 d i:Q4):Q0:=
 ((((Rp wr ⟨A,0,J⟩ u0).setCell ⟨A,1,J⟩ u1).setCell ⟨A,2,J⟩ u2).setCell ⟨b,0,J⟩ d).setCell ⟨b,1,J⟩ i
theorem NG(h:A≠b){r:Q4}{o j:Ri}(s:wr.heap[A]?=N (Q1 #[r,a1,a2] o (0,0)))(u:wr.heap[b]?=N (Q1 #[b0,m] j (0,0)))(u0 u1 u2 d i:Q4):
  (ya wr A b u0 u1 u2 d i).cell? ⟨A,0,J⟩=N u0/\(ya wr A b u0 u1 u2 d i).cell? ⟨A,1,J⟩=N u1/\(ya wr A b u0 u1 u2 d i).cell? ⟨A,2,J⟩=N u2/\(ya wr A b u0 u1 u2 d i).cell? ⟨b,0,J⟩=N d/\(ya wr A b u0 u1 u2 d i).cell? ⟨b,1,J⟩=N i:=by
 have x:=QN _ _ 2 u2 (QN _ _ 1 u1 (QN _ _ 0 u0 s));have y:(((Rp wr ⟨A,0,J⟩ u0).setCell ⟨A,1,J⟩ u1).setCell ⟨A,2,J⟩ u2).heap[b]?=N (Q1 #[b0,m] j (0,0)):=by rw[Below.heap_setCell _ ⟨A,2,J⟩ _ b (dW h),Below.heap_setCell _ ⟨A,1,J⟩ _ b (dW h),Below.heap_setCell _ ⟨A,0,J⟩ _ b (dW h)];exact u
 have q:(ya wr A b u0 u1 u2 d i).heap[b]?=N (Q1 #[d,i] j (0,0)):=QN _ _ 1 _ (QN _ _ 0 _ y);have l:(ya wr A b u0 u1 u2 d i).heap[A]?=N (Q1 #[u0,u1,u2] o (0,0)):=by unfold ya;rw[Below.heap_setCell _ ⟨b,1,J⟩ _ A h,Below.heap_setCell _ ⟨b,0,J⟩ _ A h];exact x
 exact⟨gr 0 l,gr 1 l,gr 2 l,gr 0 q,gr 1 q⟩
theorem Hd{i:Q0}(h:Q8 B i wr)(d:B<=A)(j:B<=b)(u0 u1 u2 l m:Q4):Q8 B i (ya wr A b u0 u1 u2 l m):=
 ((((h.setCell (p:=⟨A,0,J⟩) d _).setCell (p:=⟨A,1,J⟩) d _).setCell (p:=⟨A,2,J⟩) d _).setCell (p:=⟨b,0,J⟩) j _).setCell (p:=⟨b,1,J⟩) j _
theorem uQ{w:Q0}{o c0 c1 c2:Q4}{q r s:Ri}(u:Q8 (G (Q w)) w wr)(b:wr.heap[G (Q w)]?=N (Q1 #[m,a1,a2] q (0,0)))(d:wr.heap[G (Q w)+1]?=N (Q1 #[b0,o] r (0,0)))(i:wr.heap[G (Q w)+1+1]?=N (Q1 #[c0,c1,c2] s (0,0)))(u0 u1 u2 j l:Q4)(W:Q0)(x:W=((((Rp wr ⟨G (Q w),0,J⟩ u0).setCell ⟨G (Q w),1,J⟩ u1).setCell ⟨G (Q w),2,J⟩ u2).setCell ⟨G (Q w)+1,0,J⟩ j).setCell ⟨G (Q w)+1,1,J⟩ l):
  Rn wr ⟨G (Q w),0,J⟩=N m/\Rn wr ⟨G (Q w),1,J⟩=N a1/\Rn wr ⟨G (Q w),2,J⟩=N a2/\wr.frozen? ⟨G (Q w),0,J⟩=false/\wr.frozen? ⟨G (Q w),1,J⟩=false/\wr.frozen? ⟨G (Q w),2,J⟩=false/\G (Q w)<G (Q wr)/\
  Rn wr ⟨G (Q w)+1,0,J⟩=N b0/\Rn wr ⟨G (Q w)+1,1,J⟩=N o/\wr.frozen? ⟨G (Q w)+1,0,J⟩=false/\wr.frozen? ⟨G (Q w)+1,1,J⟩=false/\G (Q w)+1<G (Q wr)/\
  Rn wr ⟨G (Q w)+1+1,0,J⟩=N c0/\Rn wr ⟨G (Q w)+1+1,1,J⟩=N c1/\Rn wr ⟨G (Q w)+1+1,2,J⟩=N c2/\G (Q w)+1+1<G (Q wr)/\
  Rn W ⟨G (Q w),0,J⟩=N u0/\Rn W ⟨G (Q w),1,J⟩=N u1/\Rn W ⟨G (Q w),2,J⟩=N u2/\Rn W ⟨G (Q w)+1,0,J⟩=N j/\Rn W ⟨G (Q w)+1,1,J⟩=N l/\Q8 (G (Q w)) w W:=by
 obtain⟨y,B,C,D,E⟩:=NG (show(G (Q w))≠G (Q w)+1 by omega) b d u0 u1 u2 j l;have F:=Hd u (aq (G (Q w))) (dS (G (Q w))) u0 u1 u2 j l;subst x;exact⟨gr 0 b,gr 1 b,gr 2 b,gD 0 b,gD 1 b,gD 2 b,gm b,gr 0 d,gr 1 d,gD 0 d,gD 1 d,gm d,gr 0 i,gr 1 i,gr 2 i,gm i,y,B,C,D,E,F⟩
theorem ph{k:Nat}(a:Int)(b c:gw)(h:jQ s p last=.inr (k,q)){v:Q4}(d:v=Q9 #[I Y (k:Int),I Y (q:Int)]):yC s p last (Rc #[Q9 #[I Y a,Q7 ⟨Rm b⟩,Q7 ⟨Rm c⟩],I Y 0,v]):=by unfold yC;rw[h,d];exact⟨((a,b),c),rfl⟩
theorem Gb{a:Int}{b c:gw}(h:jQ s p last=.inl (((a,b),c),q)):yC s p last (Rc #[Q9 #[I Y a,Q7 ⟨Rm b⟩,Q7 ⟨Rm c⟩],I Y (q:Int),Q9 #[I Y 0,I Y 0]]):=by unfold yC;rw[h];rfl
theorem EX(s:gw)(at':Nat)(sv:Q4)(us:List E)(w:Q0)(hs:O s<=im)(_ha:at'<=O s)(hu:iD w sv us)(bM:∀b,Rl sv=N b->b<G (Q w))(dc:O us<=1000000000):
  Calls prog 162 #[Q7 ⟨Rm s⟩,I Y (at':Int),sv] w fun e w'=>(∃v,e=.returned v/\yC s at' (us.getLast?.map (·.1)) v)/\Q8 (G (Q w)) w w':=by
 unfold im at hs;obtain⟨ua,a7,rfl,cs,-⟩:=hu.gU;obtain⟨Z,aa⟩:∃Z,Z=((Ro w (Q1 #[I Y 0,Q7 ⟨#[]⟩,Q7 ⟨#[]⟩] 108)).alloc (Q1 #[I Y 0,I Y 0] 31)).alloc (Q1 #[I Y 0,Q7 ⟨#[]⟩,Q7 ⟨#[]⟩] 108):=⟨_,rfl⟩;have y:gy (Q8 (G (Q w)) w Z):=gj (by rw[aa];exact(((gJ w).alloc gH _).alloc (by simp) _).alloc (by simp;omega) _);have q:gy (Z.heap[G (Q w)]?=N (Q1 #[I Y 0,Q7 ⟨#[]⟩,Q7 ⟨#[]⟩] 108 (0,0))):=gj (by rw[aa];exact gP _ _ (gP _ _ (gB w _)));have u:gy (Z.heap[G (Q w)+1]?=N (Q1 #[I Y 0,I Y 0] 31 (0,0))):=gj (by rw[aa];refine gP _ _ ?_;have:=gB (Ro w (Q1 #[I Y 0,Q7 ⟨#[]⟩,Q7 ⟨#[]⟩] 108)) (Q1 #[I Y 0,I Y 0] 31);rwa [aj]at this);have d:gy (Z.heap[G (Q w)+1+1]?=N (Q1 #[I Y 0,Q7 ⟨#[]⟩,Q7 ⟨#[]⟩] 108 (0,0))):=gj (by rw[aa];have:=gB ((Ro w (Q1 #[I Y 0,Q7 ⟨#[]⟩,Q7 ⟨#[]⟩] 108)).alloc (Q1 #[I Y 0,I Y 0] 31)) (Q1 #[I Y 0,Q7 ⟨#[]⟩,Q7 ⟨#[]⟩] 108);simp only[aj]at this;exact this);have HU:=gj (hu.below y.o);have bv:gy (∀c,G (Q w)<=c->(Q6 ua (O us) a7).ownBlock≠N c):=gj (fun c hc e=>by have:=bM c e;omega);clear hu bM;go_enter func162,ntmps162;cases hd:s.drop at' with
 | nil=>
  have F:gy (jQ s at' (us.getLast?.map (·.1))=.inr (1,at')):=gj (by unfold jQ;rw[hd]);have h1:(O s:Int)<=at':=by have:=bm List.length hd;simp at this;omega
  clear hd;go_upto_region 2 with fail;rw[<-aa];clear aa;obtain⟨r0,r1,r2,ak,al,am,ap,f0,f1,av,aE,a0,M,l1,l2,j,R,S,U,V,W,X⟩:=uQ y.o q.o u.o d.o (I Y 0) (Q7 ⟨#[]⟩) (Q7 ⟨#[]⟩) (I Y 1) (I Y at') _ rfl;go_wp2_with fail;exact ai (by simp[results,results162,go_sem,R,S,U,V,W]) rfl ⟨⟨_,rfl,ph 0 [] [] F.o rfl⟩,X⟩
 | cons t r=>
  obtain⟨bN,b3,bw⟩:=QU hd;have h1:¬(O s:Int)<=at':=by omega
  have dk:=t.toNat_lt;have i0:∀w,(Instr.index 9 (Q7 ⟨Rm s⟩) (I Y (at':Int))).run prog w=.ok (I .u8 t.toNat) w:=fun w=>gW underlying9 _ _ _ t (by omega) (by rw[cj];exact bw) w;have HD:=gj hd;have bO:=gj bN;have cu:O s<=at'+1+O r:=by omega
  have cv:at'+1+O r<=O s:=by omega
  clear hd bN bw b3;go_upto_region 2 with fail;rw[<-aa];clear aa;have M:=gr 0 d.o;have b6:=gD 0 d.o;have j:=gm d.o;go_upto_region 5 with fail;have t1:Z.grownBy (Rp Z ⟨G (Q w)+1+1,0,J⟩ (I Y t.toNat)) (N (G (Q w)+1+1)):=jg (gJ Z) 0 _;replace y:=gj (y.o.setCell (p:=⟨G (Q w)+1+1,0,J⟩) (by show _<=G (Q w)+1+1;omega) (I Y t.toNat));replace q:=gj ((t1.block (G (Q w)) (gm q.o) (fun e=>by have:=Option.some.inj e;omega)).trans q.o);replace u:=gj ((t1.block (G (Q w)+1) (gm u.o) (fun e=>by have:=Option.some.inj e;omega)).trans u.o);replace d:gy ((Rp Z ⟨G (Q w)+1+1,0,J⟩ (I Y t.toNat)).heap[G (Q w)+1+1]?=N (Q1 #[I Y t.toNat,Q7 ⟨#[]⟩,Q7 ⟨#[]⟩] 108 (0,0))):=gj (QN Z _ 0 (I Y t.toNat) d.o);replace HU:gy (iD (Rp Z ⟨G (Q w)+1+1,0,J⟩ (I Y t.toNat)) (Q6 ua (O us) a7) us):=gj (HU.o.jR _ _ (bv.o _ (by show(G (Q w))<=G (Q w)+1+1;omega)));generalize Rp Z ⟨G (Q w)+1+1,0,J⟩ (I Y t.toNat)=w1 at *
  clear t1 M b6 j;have M:=gr 0 d.o;have j:=gm d.o;by_cases h2:2<t.toNat
  .have F:gy (jQ s at' (us.getLast?.map (·.1))=.inr (6,at')):=gj (by unfold jQ;rw[HD.o];simp only[];rw[aw h2]);have b8:(2:Int)<t.toNat:=by omega
   obtain⟨r0,r1,r2,ak,al,am,ap,f0,f1,av,aE,a0,M,l1,l2,j,R,S,U,V,W,X⟩:=uQ y.o q.o u.o d.o (I Y (t.toNat:Int)) (Q7 ⟨#[]⟩) (Q7 ⟨#[]⟩) (I Y 6) (I Y at') _ rfl;go_wp2_with fail;exact ai (by simp[results,results162,go_sem,R,S,U,V,W]) rfl ⟨⟨_,rfl,ph t.toNat [] [] F.o rfl⟩,X⟩
  .have bx:(0:Int)<=t.toNat:=by omega
   have bz:(t.toNat:Int)<3:=by omega
   have b8:¬(2:Int)<t.toNat:=by omega
   go_wp2_with fail;refine(k9 (t.toNat:Int) _ bx bz).mono ?_;rintro e w2 ⟨rfl,rfl⟩;have b9:=IV (t.toNat:Int);have ca:=Hm (t.toNat:Int);obtain⟨B,bA⟩:∃B,B=gL (t.toNat:Int):=⟨_,rfl⟩;obtain⟨vl,bB⟩:∃vl,vl=iu (t.toNat:Int):=⟨_,rfl⟩;have i:=gj bA;have a3:=gj bB;rw[<-bA]at b9⊢;rw[<-bB]at ca⊢;clear bA bB;have H2:=gj h2;clear h2;by_cases hk:O r<B
   .have cb:(O s:Int)<(at':Int)+1+B:=by omega
    have F:gy (jQ s at' (us.getLast?.map (·.1))=.inr (1,at'+1)):=gj (by unfold jQ;rw[HD.o];simp only[];rw[af H2.o,aw (by rw[<-i.o];exact hk)]);clear hk;obtain⟨r0,r1,r2,ak,al,am,ap,f0,f1,av,aE,a0,M,l1,l2,j,R,S,U,V,W,X⟩:=uQ y.o q.o u.o d.o (I Y (t.toNat:Int)) (Q7 ⟨#[]⟩) (Q7 ⟨#[]⟩) (I Y 1) (I Y ((at':Int)+1)) _ rfl;go_wp2_with fail;exact ai (by simp[results,results162,go_sem,R,S,U,V,W]) rfl ⟨⟨_,rfl,ph t.toNat [] [] F.o rfl⟩,X⟩
   .have cb:¬(O s:Int)<(at':Int)+1+B:=by omega
    have hcut:=Ke s (at'+1) B;rw[bO.o]at hcut;have l1:=gr 1 d.o;have cc:=gD 1 d.o;obtain⟨l,bi⟩:∃l,l=r.take B:=⟨_,rfl⟩;rw[<-bi]at hcut;have a4:=gj bi;have dl:O l<=100:=by rw[bi,ax];omega
    clear bi;have HK:=gj hk;clear hk;go_upto_region 12 with fail;clear M j l1 cc;have t1:w1.grownBy (Rp w1 ⟨G (Q w)+1+1,1,J⟩ (Q7 ⟨Rm l⟩)) (N (G (Q w)+1+1)):=jg (gJ w1) 1 _;replace y:=gj (y.o.setCell (p:=⟨G (Q w)+1+1,1,J⟩) (by show _<=G (Q w)+1+1;omega) (Q7 ⟨Rm l⟩));replace q:=gj ((t1.block (G (Q w)) (gm q.o) (fun e=>by have:=Option.some.inj e;omega)).trans q.o);replace u:=gj ((t1.block (G (Q w)+1) (gm u.o) (fun e=>by have:=Option.some.inj e;omega)).trans u.o);replace d:gy ((Rp w1 ⟨G (Q w)+1+1,1,J⟩ (Q7 ⟨Rm l⟩)).heap[G (Q w)+1+1]?=N (Q1 #[I Y (t.toNat:Int),Q7 ⟨Rm l⟩,Q7 ⟨#[]⟩] 108 (0,0))):=gj (QN w1 _ 1 (Q7 ⟨Rm l⟩) d.o);replace HU:gy (iD (Rp w1 ⟨G (Q w)+1+1,1,J⟩ (Q7 ⟨Rm l⟩)) (Q6 ua (O us) a7) us):=gj (HU.o.jR _ _ (bv.o _ (by show(G (Q w))<=G (Q w)+1+1;omega)));generalize Rp w1 ⟨G (Q w)+1+1,1,J⟩ (Q7 ⟨Rm l⟩)=w3 at *
    clear t1;have M:=gr 0 d.o;have l1:=gr 1 d.o;have j:=gm d.o;clear hcut;go_wp2_with fail;refine(xU (t.toNat:Int) l _ bx bz (by unfold im;omega)).mono ?_;rintro e w4 ⟨rfl,nk,bP⟩;have a5:Q8 (G (Q w3)) w3 w4:=by rw[bP];exact(gJ w3).drewN nk
    clear bP M l1 j;replace y:=gj (y.o.tn a5);replace q:=gj (gC a5 (gm q.o) q.o);replace u:=gj (gC a5 (gm u.o) u.o);replace d:=gj (gC a5 (gm d.o) d.o);replace HU:=gj (HU.o.below a5);clear a5;cases bk:js (t.toNat:Int) l with
    | false=>have F:gy (jQ s at' (us.getLast?.map (·.1))=.inr (7,at'+1)):=gj (by unfold jQ;rw[HD.o];simp only[];rw[af H2.o,af (by rw[<-i.o];exact HK.o),aw (by rw[<-i.o,<-a4.o];exact bk)]);clear bk;obtain⟨r0,r1,r2,ak,al,am,ap,f0,f1,av,aE,a0,M,l1,l2,j,R,S,U,V,W,X⟩:=uQ y.o q.o u.o d.o (I Y (t.toNat:Int)) (Q7 ⟨Rm l⟩) (Q7 ⟨#[]⟩) (I Y 7) (I Y ((at':Int)+1)) _ rfl;go_wp2_with fail;exact ai (by simp[results,results162,go_sem,R,S,U,V,W]) rfl ⟨⟨_,rfl,ph t.toNat l [] F.o rfl⟩,X⟩
    | true=>
     have bE:=gj bk;clear bk;go_upto_region 15 with fail;obtain⟨C,hC⟩:∃C,C=(El (us.getLast?.map (·.1)) ((t.toNat:Int),l)):=⟨_,rfl⟩;have HC:=gj hC;have lC:=gr 0 d.o;have cd:=gr 1 d.o;have ce:=gr 2 d.o;have cg:=gm d.o;go_cut [78] (fun c wx=>c=.bool (!C)/\Q8 (G (Q w4)) w4 wx)
     case first=>
      cases hg:us.getLast? with
      | none=>
       have h0:us=[]:=List.getLast?_eq_none_iff.1 hg;have bR:C=true:=by rw[hC,hg];rfl
       have cl:O us=0:=by rw[h0];rfl
       have bb:=gj bR;have c6:decide ((0:Int)<O us)=false:=aF (by omega);have c7:decide (0<O us)=false:=aF (by omega);clear hC hg h0 bR cl;go_quiet (fail);go_wp2_with fail;go_meet;rw[bb.o];exact⟨rfl,(gJ w4).drewN _⟩
      | some z=>
       have bS:C=oT z.1 ((t.toNat:Int),l):=by rw[hC,hg];rfl
       obtain⟨m,hm⟩:∃m,O us=m+1:=⟨O us-1,by cases us with|nil=>simp at hg|cons x us=>simp⟩;have hz:us[m]'(by omega)=z:=by rw[List.getLast?_eq_getElem?,hm,Nat.add_sub_cancel,ah (by omega)]at hg;exact Option.some.inj hg
       have cn:=gj bS;obtain⟨a',cap',he,-,hx⟩:=HU.o.gU;cases he;obtain⟨ub,uo,rfl,c0,c1,c2⟩:=hx m (by omega);rw[hz]at c0 c1 c2;obtain⟨⟨zt,zk⟩,zv⟩:=z;simp only at c0 c1 c2;have dn:=gK c0;have dp:IntKind.i64.wrap (m:Int)=(m:Int):=IntWalk.i64_in _ (by omega);have ds:(O us:Int)-1=(m:Int):=by omega
       have dv:decide ((0:Int)<O us)=true:=bh (by omega);have dT:decide (0<O us)=true:=bh (by omega);have d0:m<O us:=by omega
       have d1:(m:Int)<O us:=by omega
       have d2:(0:Int)<=m:=by omega
       clear hx hC hg hz bS hm;refine wp_region_still_tail 11 (by kernel_rfl) (by kernel_rfl) ?_;simp only[aN,bp,cN,bC]
       repeat still_step
       refine wpStill_nil ?_;go_wp2_with fail;refine(Gv ((zt,zk),zv) (((t.toNat:Int),l),[]) _).mono ?_;rintro e w5 ⟨rfl,bX⟩;have b5:Q8 (G (Q w4)) w4 w5:=((Below.refl (G (Q w4)) w4).drew).trans bX;clear bX c0 c1 c2;go_wp2_with fail;go_meet;rw[cn.o];exact⟨rfl,b5⟩
     case rest=>
      obtain⟨rfl,a6⟩:=hcut;clear lC cd ce cg hC;replace y:=gj (y.o.tn a6);replace q:=gj (gC a6 (gm q.o) q.o);replace u:=gj (gC a6 (gm u.o) u.o);replace d:=gj (gC a6 (gm d.o) d.o);replace HU:=gj (HU.o.below a6);clear a6;have b0:gy ((El (us.getLast?.map (·.1)) ((t.toNat:Int),r.take (gL (t.toNat:Int))))=C):=gj (by rw[HC.o,a4.o,<-i.o]);cases bl:C with
      | false=>simp only[Bool.not_false];have F:gy (jQ s at' (us.getLast?.map (·.1))=.inr (14,at'+1)):=gj (by unfold jQ;rw[HD.o];simp only[];rw[af H2.o,af (by rw[<-i.o];exact HK.o),af (by rw[<-i.o,<-a4.o,bE.o];decide),aw (b0.o.trans bl)]);clear bl;obtain⟨r0,r1,r2,ak,al,am,ap,f0,f1,av,aE,a0,M,l1,l2,j,R,S,U,V,W,X⟩:=uQ y.o q.o u.o d.o (I Y (t.toNat:Int)) (Q7 ⟨Rm l⟩) (Q7 ⟨#[]⟩) (I Y 14) (I Y ((at':Int)+1)) _ rfl;go_wp2_with fail;exact ai (by simp[results,results162,go_sem,R,S,U,V,W]) rfl ⟨⟨_,rfl,ph t.toNat l [] F.o rfl⟩,X⟩
      | true=>
       simp only[fK];have bb:gy (¬(El (us.getLast?.map (·.1)) ((t.toNat:Int),r.take (gL (t.toNat:Int))))=false):=gj (by rw[b0.o,bl];decide);clear bl;by_cases hv:O r<B+vl
       .have cp:(O s:Int)<(at':Int)+1+B+vl:=by omega
        have F:gy (jQ s at' (us.getLast?.map (·.1))=.inr (1,at'+1+B)):=gj (by unfold jQ;rw[HD.o];simp only[];rw[af H2.o,af (by rw[<-i.o];exact HK.o),af (by rw[<-i.o,<-a4.o,bE.o];decide),af bb.o,aw (by rw[<-i.o,<-a3.o];exact hv),<-i.o]);clear hv;obtain⟨r0,r1,r2,ak,al,am,ap,f0,f1,av,aE,a0,M,l1,l2,j,R,S,U,V,W,X⟩:=uQ y.o q.o u.o d.o (I Y (t.toNat:Int)) (Q7 ⟨Rm l⟩) (Q7 ⟨#[]⟩) (I Y 1) (I Y ((at':Int)+1+B)) _ rfl;go_wp2_with fail;exact ai (by simp[results,results162,go_sem,R,S,U,V,W]) rfl ⟨⟨_,rfl,ph t.toNat l [] F.o rfl⟩,X⟩
       .have cp:¬(O s:Int)<(at':Int)+1+B+vl:=by omega
        have hcut:=Ke s (at'+1+B) vl;rw[<-db,bO.o]at hcut;have l2:=gr 2 d.o;have cq:=gD 2 d.o;have j:=gm d.o;obtain⟨D,bn⟩:∃D,D=(r.drop B).take vl:=⟨_,rfl⟩;rw[<-bn]at hcut;have bH:=gj bn;have d3:O D<=100:=by rw[bn,ax];omega
        clear bn;have HV:=gj hv;clear hv;go_upto_region 21 with fail;clear l2 cq j;have t1:wc.grownBy (Rp wc ⟨G (Q w)+1+1,2,J⟩ (Q7 ⟨Rm D⟩)) (N (G (Q w)+1+1)):=jg (gJ wc) 2 _;replace y:=gj (y.o.setCell (p:=⟨G (Q w)+1+1,2,J⟩) (by show _<=G (Q w)+1+1;omega) (Q7 ⟨Rm D⟩));replace q:=gj ((t1.block (G (Q w)) (gm q.o) (fun e=>by have:=Option.some.inj e;omega)).trans q.o);replace u:=gj ((t1.block (G (Q w)+1) (gm u.o) (fun e=>by have:=Option.some.inj e;omega)).trans u.o);replace d:gy ((Rp wc ⟨G (Q w)+1+1,2,J⟩ (Q7 ⟨Rm D⟩)).heap[G (Q w)+1+1]?=N (Q1 #[I Y (t.toNat:Int),Q7 ⟨Rm l⟩,Q7 ⟨Rm D⟩] 108 (0,0))):=gj (QN wc _ 2 (Q7 ⟨Rm D⟩) d.o);replace HU:gy (iD (Rp wc ⟨G (Q w)+1+1,2,J⟩ (Q7 ⟨Rm D⟩)) (Q6 ua (O us) a7) us):=gj (HU.o.jR _ _ (bv.o _ (by show(G (Q w))<=G (Q w)+1+1;omega)));generalize Rp wc ⟨G (Q w)+1+1,2,J⟩ (Q7 ⟨Rm D⟩)=w7 at *
        clear t1;have M:=gr 0 d.o;have l2:=gr 2 d.o;have j:=gm d.o;clear hcut;go_wp2_with fail;refine(rO (t.toNat:Int) D _ bx bz (by unfold im;omega)).mono ?_;rintro e w8 ⟨rfl,rfl⟩;clear M l2 j;have HH:gy (¬(js (t.toNat:Int) (r.take (gL (t.toNat:Int)))=false)):=gj (by rw[<-i.o,<-a4.o,bE.o];decide);cases bo:jb (t.toNat:Int) D with
        | false=>have F:gy (jQ s at' (us.getLast?.map (·.1))=.inr (9,at'+1+B)):=gj (by unfold jQ;rw[HD.o];simp only[];rw[af H2.o,af (by rw[<-i.o];exact HK.o),af HH.o,af bb.o,af (by rw[<-i.o,<-a3.o];exact HV.o),aw (by rw[<-i.o,<-a3.o,<-bH.o];exact bo),<-i.o]);clear bo;obtain⟨r0,r1,r2,ak,al,am,ap,f0,f1,av,aE,a0,M,l1,l2,j,R,S,U,V,W,X⟩:=uQ y.o q.o u.o d.o (I Y (t.toNat:Int)) (Q7 ⟨Rm l⟩) (Q7 ⟨Rm D⟩) (I Y 9) (I Y ((at':Int)+1+B)) _ rfl;go_wp2_with fail;exact ai (by simp[results,results162,go_sem,R,S,U,V,W]) rfl ⟨⟨_,rfl,ph t.toNat l D F.o rfl⟩,X⟩
        | true=>have F:gy (jQ s at' (us.getLast?.map (·.1))=.inl ((((t.toNat:Int),l),D),at'+1+B+vl)):=gj (by unfold jQ;rw[HD.o];simp only[];rw[af H2.o,af (by rw[<-i.o];exact HK.o),af HH.o,af bb.o,af (by rw[<-i.o,<-a3.o];exact HV.o),af (by rw[<-i.o,<-a3.o,<-bH.o,bo];decide),<-i.o,<-a3.o,<-a4.o,<-bH.o]);clear bo;obtain⟨r0,r1,r2,ak,al,am,ap,f0,f1,av,aE,a0,M,l1,l2,j,R,S,U,V,W,X⟩:=uQ y.o q.o u.o d.o (I Y (t.toNat:Int)) (Q7 ⟨Rm l⟩) (Q7 ⟨Rm D⟩) (I Y 0) (I Y 0) _ rfl;go_wp2_with fail;exact ai (by simp[results,results162,go_sem,R,S,U,V,W]) rfl ⟨⟨_,rfl,Gb F.o⟩,X⟩
def Cr(s:gw)(w:Q0)(e:Ending)(w':Q0):Prop:=
 Q8 (G (Q w)) w w'/\match jC s with
  | .inl (n,l)=>∃b,e=.returned (Rc #[I Re n,b,Q9 #[I Y 0,I Y 0]])/\iD w' b l/\∀j,Rl b=N j->G (Q w)<=j/\j<G (Q w')
  | .inr (k,p)=>e=.returned (Rc #[I Re 0,Q6 J 0 0,Q9 #[I Y k,I Y p]])
def C5(W:Q0)(A:Nat)(b d:Q4):Q0:=(Rp W ⟨A,0,J⟩ b).setCell ⟨A,1,J⟩ d
theorem vN{i:Q4}{T:Ri}(h:W.heap[A]?=N (Q1 #[i,a1] T (0,0)))(b d:Q4):(C5 W A b d).cell? ⟨A,0,J⟩=N b/\(C5 W A b d).cell? ⟨A,1,J⟩=N d:=by have e:=QN _ _ 1 d (QN _ _ 0 b h);exact⟨gr 0 e,gr 1 e⟩
theorem qk{b:Q0}(h:Q8 B b W)(d:B<=A)(i j:Q4):Q8 B b (C5 W A i j):=(h.setCell (p:=⟨A,0,J⟩) d _).setCell (p:=⟨A,1,J⟩) d _
def Df(w:Q0)(n:Nat)(s:gw)(lv b nv:Q4)(wr:Q0):Prop:=
 ∃(m p:Nat) (l:List E),m<=n/\nv=I Y (m:Int)/\b=I Y (p:Int)/\p<=O s/\O l+m=n/\jN s n 10 []=jN s m p l/\gS wr (G (Q w)+1) 3 lv (O l) (gV l)/\
  wr.heap[G (Q w)]?=N (Q1 #[I Y 0,I Y 0] 31 (0,0))/\Q8 (G (Q w)) w wr
theorem yO(s:gw)(w:Q0)(hl:O s<=im):
  Calls prog 119 #[Q7 ⟨Rm s⟩] w (Cr s w):=by
 unfold im at hl;obtain⟨w0,aE⟩:∃w0,w0=Ro w (Q1 #[I Y 0,I Y 0] 31):=⟨_,rfl⟩;have S:gy (Q8 (G (Q w)) w w0):=gj (by rw[aE];exact(gJ w).alloc gH _);have b:gy (w0.heap[G (Q w)]?=N (Q1 #[I Y 0,I Y 0] 31 (0,0))):=gj (by rw[aE];exact gB w _);go_enter func119,ntmps119;go_upto_region 1 with fail;rw[<-aE];clear aE;by_cases h8:O s<8
 .have B:gy (jC s=.inr (1,0)):=gj (by unfold jC;rw[aw h8]);have b1:(O s:Int)<8:=by omega
  have r0:=gr 0 b.o;have r1:=gr 1 b.o;have Z:=gD 0 b.o;have aa:=gD 1 b.o;have ag:=gm b.o;have x:=vN b.o (I Y 1) (I Y 0);have d:=qk S.o (aq (G (Q w))) (I Y 1) (I Y 0);unfold C5 at x d;obtain⟨C,D⟩:=x;clear h8;go_wp2_with fail;refine ai (v:=Rc #[I Re 0,Q6 J 0 0,Q9 #[I Y 1,I Y 0]]) (by simp[results,results119,go_sem,C,D]) rfl ⟨d,?_⟩;rw[B.o];rfl
 .have b1:¬(O s:Int)<8:=by omega
  have b2:8<=O s:=by omega
  have HC:gy (jC s=if ij (j6 (s.take 8))=false then .inr (4,0)
   else if(O s)<10 then .inr (1,8)
   else match jN s ((s.getD 8 0).toNat*256+(s.getD 9 0).toNat) 10 [] with
    | .inr f=>.inr f
    | .inl (q,l)=>if q<O s then .inr (2,q)else .inl (j6 (s.take 8),l)):=gj (by unfold jC;rw[af h8];rfl)
  clear h8;go_wp2_with fail;go_loop [5,6] (fun v i=>∃k:Nat,k<=8/\i=I Y (k:Int)/\v=I Re ((j6 (s.take k):Nat):Int)) (fun _ i=>8-(intOf i).toNat)
  case atStart=>exact⟨0,by omega,rfl,rfl⟩
  case round=>
   obtain⟨k,hk,rfl,rfl⟩:=hrel;by_cases b3:k<8
   .have cl:(k:Int)<8:=by omega
    have bv:=pR k s (by omega);have ba:j6 (s.take k)<256^7:=ae bv (dU (by decide) (by omega));have H:=gj (rB s k (by omega));obtain⟨x,hx⟩:∃x,s[k]'(by omega)=x:=⟨_,rfl⟩;have i0:∀w,(Instr.index 9 (Q7 ⟨Rm s⟩) (I Y (k:Int))).run prog w=.ok (I .u8 x.toNat) w:=fun w=>gW underlying9 _ _ _ x (by omega) (by rw[cj,ah (by omega),hx]) w;rw[hx]at H;have b4:=x.toNat_lt;clear hx bv;obtain⟨v,hv⟩:∃v,v=j6 (s.take k):=⟨_,rfl⟩;rw[<-hv]at ba H⊢;clear hv;have hv:v<72057594037927936:=ba;clear ba;go_wp2_with fail;refine⟨⟨k+1,by omega,rfl,?_⟩,?_⟩
    .rw[H.o];congr 1;omega
    .simp[intOf];omega
   .obtain rfl:k=8:=by omega
    clear hk b3;have av:=pR 8 s (by omega);obtain⟨v,hv⟩:∃v,v=j6 (s.take 8):=⟨_,rfl⟩;rw[<-hv]at HC av⊢;have bb:v<18446744073709551616:=av;clear hv av;have HV:=gj (fun W=>jU v W bb);clear bb;go_wp2_with fail;refine(HV.o _).mono ?_;rintro e w4 ⟨rfl,rfl⟩;cases U:ij v with
    | false=>have B:gy (jC s=.inr (4,0)):=gj (by rw[HC.o,aw U]);clear U HC;have r0:=gr 0 b.o;have r1:=gr 1 b.o;have Z:=gD 0 b.o;have aa:=gD 1 b.o;have ag:=gm b.o;have x:=vN b.o (I Y 4) (I Y 0);have d:=qk S.o (aq (G (Q w))) (I Y 4) (I Y 0);unfold C5 at x d;obtain⟨C,D⟩:=x;go_wp2_with fail;refine ai (v:=Rc #[I Re 0,Q6 J 0 0,Q9 #[I Y 4,I Y 0]]) (by simp[results,results119,go_sem,C,D]) rfl ⟨d,?_⟩;rw[B.o];rfl
    | true=>
     have r:=HC.o;rw[af (by rw[U];decide)]at r;clear U HC;by_cases a0:O s<10
     .have B:gy (jC s=.inr (1,8)):=gj (by rw[r,aw a0]);have bM:(O s:Int)<10:=by omega
      clear r a0;have r0:=gr 0 b.o;have r1:=gr 1 b.o;have Z:=gD 0 b.o;have aa:=gD 1 b.o;have ag:=gm b.o;have x:=vN b.o (I Y 1) (I Y 8);have d:=qk S.o (aq (G (Q w))) (I Y 1) (I Y 8);unfold C5 at x d;obtain⟨C,D⟩:=x;go_wp2_with fail;refine ai (v:=Rc #[I Re 0,Q6 J 0 0,Q9 #[I Y 1,I Y 8]]) (by simp[results,results119,go_sem,C,D]) rfl ⟨d,?_⟩;rw[B.o];rfl
     .rw[af a0]at r;have bM:¬(O s:Int)<10:=by omega
      obtain⟨x,hx⟩:∃x,s[8]'(by omega)=x:=⟨_,rfl⟩;obtain⟨y,hy⟩:∃y,s[9]'(by omega)=y:=⟨_,rfl⟩;have i0:∀w,(Instr.index 9 (Q7 ⟨Rm s⟩) (I Y 8)).run prog w=.ok (I .u8 x.toNat) w:=fun w=>gW underlying9 _ _ _ x (by omega) (by rw[show(8:Int).toNat=8 from rfl,ah (by omega),hx]) w;have i1:∀w,(Instr.index 9 (Q7 ⟨Rm s⟩) (I Y 9)).run prog w=.ok (I .u8 y.toNat) w:=fun w=>gW underlying9 _ _ _ y (by omega) (by rw[show(9:Int).toNat=9 from rfl,ah (by omega),hy]) w;have bw:s.getD 8 0=x:=by rw[aD,ah (by omega),hx];rfl
      have bx:s.getD 9 0=y:=by rw[aD,ah (by omega),hy];rfl
      rw[bw,bx]at r;have b4:=x.toNat_lt;have cq:=y.toNat_lt;obtain⟨n,hn⟩:∃n,n=x.toNat*256+y.toNat:=⟨_,rfl⟩;rw[<-hn]at r;have bz:=gj r;have cr:n<65536:=by omega
      have b6:(x.toNat:Int)*256+y.toNat=n:=by omega
      have bO:256*(x.toNat:Int)+y.toNat=n:=by omega
      have bs:10<=O s:=by omega
      clear hx hy bw bx hn r a0 HV b2;go_wp2_with fail;go_quiet (fail);have bA:=gj (S.o.drewN nq);have bB:gy ((w0.drewN nq).heap[G (Q w)]?=N (Q1 #[I Y 0,I Y 0] 31 (0,0))):=gj b.o;generalize w0.drewN nq=w5 at *
      clear S b;have h0:Df w n s (Q6 J 0 0) (I Y 10) (I Y (n:Int)) w5:=⟨n,10,[],aq _,rfl,rfl,bs,by simp,rfl,gS.nil _ _ _,bB.o,bA.o⟩;go_wp2_with fail;go_loopw [8,9,10] (fun lv c7 nv wr=>Df w n s lv c7 nv wr) (fun _ _ nv _=>(intOf nv).toNat)
      case atStart=>exact h0
      case round=>
       clear h0 b6 bO i0 i1 bB bA;obtain⟨m,p,l,hm,rfl,rfl,hp,bD,bE,V,hR,bc⟩:=hrel;obtain⟨la,X,rfl⟩:=V.shape;have cs:O l<=65536:=by omega
       have bi:=gj bE;have ca:=gj bD;have HO:=gj V;have b:=gj hR;have S:=gj bc;have cb:=bc.size;have bk:=V.iA;have cc:=gm hR;clear bE bD V hR bc;by_cases ct:0<m
       .have bR:(0:Int)<m:=by omega
        have bH:=gj (EX s p (Q6 la (O l) X) l wr (by unfold im;omega) hp HO.o.IA bk (by omega));clear bk;go_wp2_with fail;refine bH.o.mono ?_;rintro e E ⟨⟨ev,rfl,al⟩,a1⟩;have bI:=gj (S.o.trans (a1.mono cb));have a2:=gj (gC a1 cc b.o);have cd:=gj (HO.o.below a1);have cu:=a1.size;clear bH S b HO;unfold yC at al;cases hc:jQ s p (l.getLast?.map (·.1)) with
        | inr f=>
         obtain⟨fk,fp⟩:=f;rw[hc]at al;obtain⟨⟨⟨F,M⟩,R⟩,rfl⟩:=al;have ce:=(AW hc hp).1;have B:gy (jC s=.inr (fk,fp)):=gj (by obtain⟨m',rfl⟩:∃m',m=m'+1:=⟨m-1,by omega⟩;rw[bz.o,bi.o,jN,hc]);have cv:((fk:Int) != 0)=true:=by rw[eB];omega
         unfold sG;clear hc ce;have t7:Q8 (G (Q E)) E ((Ro E (Q1 #[I Y F,Q7 ⟨Rm M⟩,Q7 ⟨Rm R⟩] 108)).alloc (Q1 #[I Y fk,I Y fp] 31)):=((gJ E).alloc gH _).alloc (by simp) _;have bn:=gj (bI.o.tn t7);have u:=gj (gC t7 (gm a2.o) a2.o);have a3:=gj (gB (Ro E (Q1 #[I Y F,Q7 ⟨Rm M⟩,Q7 ⟨Rm R⟩] 108)) (Q1 #[I Y fk,I Y fp] 31));rw[aj]at a3;go_upto_region 19 with fail;generalize (Ro E (Q1 #[I Y F,Q7 ⟨Rm M⟩,Q7 ⟨Rm R⟩] 108)).alloc (Q1 #[I Y fk,I Y fp] 31)=w7 at *
         have q0:=gr 0 a3.o;have q1:=gr 1 a3.o;have cB:=gm a3.o;have r0:=gr 0 u.o;have r1:=gr 1 u.o;have Z:=gD 0 u.o;have aa:=gD 1 u.o;have ag:=gm u.o;have x:=vN u.o (I Y fk) (I Y fp);have d:=qk bn.o (aq (G (Q w))) (I Y fk) (I Y fp);unfold C5 at x d;obtain⟨C,D⟩:=x;go_wp2;go_region;go_wp2;refine ai (v:=Rc #[I Re 0,Q6 J 0 0,Q9 #[I Y fk,I Y fp]]) (by simp[results,results119,go_sem,C,D]) rfl ⟨d.drew,?_⟩;rw[B.o]
        | inl xq=>
         obtain⟨⟨⟨F,M⟩,R⟩,q⟩:=xq;rw[hc]at al;obtain rfl:=al;have hq:=(rH hc).2.1;have bS:gy (jN s n 10 []=jN s (m-1) q (l++[((F,M),R)])):=gj (by obtain⟨m',rfl⟩:∃m',m=m'+1:=⟨m-1,by omega⟩;rw[bi.o,jN,hc];rfl);unfold sG;clear hc;have t7:Q8 (G (Q E)) E (((Ro E (Q1 #[I Y F,Q7 ⟨Rm M⟩,Q7 ⟨Rm R⟩] 108)).alloc (Q1 #[I Y 0,I Y 0] 31)).alloc (Q1 #[I Y F,Q7 ⟨Rm M⟩,Q7 ⟨Rm R⟩] 108)):=(((gJ E).alloc gH _).alloc (by simp) _).alloc (by simp;omega) _;have bn:=gj (bI.o.tn t7);have u:=gj (gC t7 (gm a2.o) a2.o);have cg:=gj (cd.o.below t7);have bo:=gj (rC ((Ro E (Q1 #[I Y F,Q7 ⟨Rm M⟩,Q7 ⟨Rm R⟩] 108)).alloc (Q1 #[I Y 0,I Y 0] 31)) ((F,M),R));simp only[aj]at bo;go_wp2_with (at_builtin;refine lK rfl (.tmp 62) (.tmp 64) rfl (G (Q w)+1) (Q6 la (O l) X) l rfl (by exact cg.o) [((F,M),R)] (by exact bo.o) (by simp;omega) (by simp;omega) ?_;intro v8 w8 a4 c0 bL co;obtain⟨c1,cp,rfl⟩:=a4.shape);have bX:Q8 (G (Q w)) w w8:=bn.o.trans (bL.mono (by omega));refine⟨⟨m-1,q,l++[((F,M),R)],by omega,by congr 1;omega,rfl,hq,by have:=ca.o;simp;omega,bS.o,?_,gC bL (by omega) u.o,bX⟩,?_⟩
         .simpa using a4
         .simp[intOf];omega
       .obtain rfl:m=0:=by omega
        have bR:¬(0:Int)<((0:Nat):Int):=by omega
        have a5:gy (jC s=if p<O s then .inr (2,p)else .inl (v,l)):=gj (by rw[bz.o,bi.o];rfl);clear bk;by_cases a6:p<O s
        .have b0:(p:Int)<O s:=by omega
         have B:gy (jC s=.inr (2,p)):=gj (by rw[a5.o,aw a6]);clear a6 a5;have r0:=gr 0 b.o;have r1:=gr 1 b.o;have Z:=gD 0 b.o;have aa:=gD 1 b.o;have ag:=gm b.o;have x:=vN b.o (I Y 2) (I Y p);have d:=qk S.o (aq (G (Q w))) (I Y 2) (I Y p);unfold C5 at x d;obtain⟨C,D⟩:=x;go_wp2_with fail;refine ai (v:=Rc #[I Re 0,Q6 J 0 0,Q9 #[I Y 2,I Y p]]) (by simp[results,results119,go_sem,C,D]) rfl ⟨d,?_⟩;rw[B.o];rfl
        .have b0:¬(p:Int)<O s:=by omega
         have B:gy (jC s=.inl (v,l)):=gj (by rw[a5.o,af a6]);clear a6 a5;have ci:gy (iD (C5 wr (G (Q w)) (I Y 0) (I Y 0)) (Q6 la (O l) X) l):=gj ((HO.o.IA.jR ⟨G (Q w),0,J⟩ (I Y 0) (HO.o.pV (by show(G (Q w))<_;omega))).jR ⟨G (Q w),1,J⟩ (I Y 0) (HO.o.pV (by show(G (Q w))<_;omega)));have r0:=gr 0 b.o;have r1:=gr 1 b.o;have Z:=gD 0 b.o;have aa:=gD 1 b.o;have ag:=gm b.o;have x:=vN b.o (I Y 0) (I Y 0);have d:=qk S.o (aq (G (Q w))) (I Y 0) (I Y 0);unfold C5 at x d;obtain⟨C,D⟩:=x;go_wp2_with fail;refine ai (v:=Rc #[I Re v,Q6 la (O l) X,Q9 #[I Y 0,I Y 0]]) (by simp[results,results119,go_sem,C,D]) rfl ⟨d,?_⟩;rw[B.o];exact⟨_,rfl,ci.o,fun j e=>⟨by have:=HO.o.ie j e;omega,by rw[QO,QO];exact HO.o.iA j e⟩⟩
end Go.Proofs.YtkkfmkhbdoeglabGreatDoor
