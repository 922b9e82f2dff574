/- Lemmas of the proof. No condition. -/
import Derived.Test.YtkkfmkhbdoeglabGreatDoorV13
set_option maxHeartbeats 8000000
set_option maxRecDepth 100000
namespace Go.Proofs.YtkkfmkhbdoeglabGreatDoor
open Go renaming World->Q0,Value->Q4
open Go.IntKind renaming i64->Y,u64->Re,u8->Rf
open Go.Obj renaming cells->Q1
open Go.Value renaming int->I,pointer->Q5,slice->Q6,tuple->Rc,bool->Rh,ownBlock->Rl
open Go.World renaming heap->Q,cell?->Rn,alloc->Ro,setCell->Rp
open List renaming length->O
open Option renaming none->J,some->N
open _root_.Array renaming size->G
open Go.Proofs.Tryz
open Go.RowKit Go.Shelf
variable{W w:Q0}{at' k:Nat}{b b0:jD}{d:List jD}{data:gw}{dv:Q4}
def Pc(w:Q0)(d:List jD)(at' k P:Nat)(wr:Q0):Prop:=
 ∃(st:Nat) (dv:Q4),wr.heap[G (Q w)+1]?=N (Q1 #[I Re (st:Nat),dv,I Y 0] 316 (0,0))/\gS wr (G (Q w)+2) 1 dv (jm d at' k).length (l6 (jm d at' k))/\gQ wr dv 5/\Below (G (Q w)) w wr/\
  wr.heap[G (Q w)]?=N (Q1 #[I Re 0,Q6 J 0 0,I Y 0] 316 (0,0))/\
  ((k=0/\P=1)\/(1<=k/\∃b0,d[at']?=N b0/\P=b0.of/\st=b0.gF/\st≠0/\∀i,i<k->rM d at' b0.gF b0.of i=true))/\(k<=P\/k=1)/\P<=255
theorem vr(i:d[at']?=N b0)(hk:k<b0.of)(h:rM d at' b0.gF b0.of k=false):kP d at'=J:=by unfold kP;rw[i];simp only;rw[af];rintro⟨-,-,b⟩;rw[eP]at b;rw[b k (dC.2 hk)]at h;cases h
theorem N3{R:Nat}(l:R=G (Q w))(m:Below (G (Q w)) w W)(d:gS W (G (Q w)+2) 1 dv (O data) (l6 data))(a b c:Q4):
  Below (G (Q w)) w (((Rp W ⟨R,0,J⟩ a).setCell ⟨R,1,J⟩ b).setCell ⟨R,2,J⟩ c)/\gI (((Rp W ⟨R,0,J⟩ a).setCell ⟨R,1,J⟩ b).setCell ⟨R,2,J⟩ c) dv data/\∀k,Rl dv=N k->G (Q w)<=k/\k<(((Rp W ⟨R,0,J⟩ a).setCell ⟨R,1,J⟩ b).setCell ⟨R,2,J⟩ c).heap.size:=by
 subst l;have i:=d.ie;refine⟨((m.setCell (p:=⟨G (Q w),0,J⟩) gH _).setCell (p:=⟨G (Q w),1,J⟩) gH _).setCell (p:=⟨G (Q w),2,J⟩) gH _,?_,fun k e=>⟨by have:=i k e;omega,by rw[QO,QO,QO];exact d.iA k e⟩⟩;have j:Rl dv≠N (G (Q w)):=fun e=>by have:=i _ e;omega
 exact((d.bytes.jR ⟨G (Q w),0,J⟩ a j).jR ⟨G (Q w),1,J⟩ b j).jR ⟨G (Q w),2,J⟩ c j
theorem yh{W':Q0}(S:Nat)(l:kP d at'=J)(o:Below (G (Q w)) w W)(q:gS W (G (Q w)+2) 1 dv (O data) (l6 data))(r:W'=((Rp W ⟨G (Q w),0,J⟩ (I Re (S:Nat))).setCell ⟨G (Q w),1,J⟩ dv).setCell ⟨G (Q w),2,J⟩ (I Y 0)):
  Below (G (Q w)) w W'/\∃(st tt:Nat) (j:Q4) (i:gw),Ending.returned (Rc #[.agg #[I Re (S:Nat),dv,I Y 0],Rh false])=Ending.returned (Rc #[.agg #[I Re (st:Nat),j,I Y (tt:Nat)],Rh (kP d at').isSome])/\gI W' j i/\(∀b,Rl j=N b->G (Q w)<=b/\b<G (Q W'))/\
   ∀x,kP d at'=N x->x=⟨st,i,tt⟩:=by
 subst r;obtain⟨s,u,y⟩:=N3 rfl o q (I Re (S:Nat)) dv (I Y 0);exact⟨s,S,0,_,_,by rw[l];rfl,u,y,fun x m=>by rw[l]at m;cases m⟩
theorem LB{P:Nat}{st:Nat}(h:(k=0/\P=1)\/(1<=k/\∃b0,d[at']?=N b0/\P=b0.of/\st=b0.gF/\st≠0/\∀i,i<k->rM d at' b0.gF b0.of i=true))(j:k<P)(b:d[at'+k]?=J):kP d at'=J:=by
 rcases h with ⟨rfl,-⟩|⟨-,b0,l,rfl,-,-,-⟩
 .unfold kP;rw[cL]at b;rw[b]
 .refine vr l j ?_;unfold rM;rw[b]
theorem LJ{b:gw}(h:O b=64):∃x y z:UInt8,(b.drop 8).take 3=[x,y,z]/\gN b=⟨j6 (b.take 8),x.toNat,y.toNat,decide (z.toNat<=53),(b.drop 11).take z.toNat⟩:=by
 refine⟨b.getD 8 0,b.getD 9 0,b.getD 10 0,?_,rfl⟩;refine List.ext_getElem? fun i=>?_;by_cases d:i<3
 .rw[bF d,dP];obtain rfl|rfl|rfl:i=0\/i=1\/i=2:=by omega
  .rw[ah (by omega)];simp[ah (show 8<O b by omega)]
  .rw[ah (by omega)];simp[ah (show 9<O b by omega)]
  .rw[ah (by omega)];simp[ah (show 10<O b by omega)]
 .rw[dJ (by rw[ax];omega),dJ (by simp;omega)]
theorem ur(b:d[at']?=N b0)(h:b0.gF=0\/b0.i≠0\/b0.ok=false):kP d at'=J:=by
 by_cases j:b0.gF=0
 .unfold kP;rw[b];simp only;rw[af (fun hc=>hc.1 j)]
 .by_cases l:0<b0.of
  .refine vr b l ?_;unfold rM;rw[cL,b];rcases h with h|h|h
   .exact absurd h j
   .simp[h]
   .simp[h]
  .unfold kP;rw[b];simp only;rw[af (fun hc=>l hc.2.1)]
theorem Nr{s n:Nat}(j:d[at'+k]?=N b)(h:b.gF≠s\/b.i≠k\/b.of≠n\/b.ok=false):rM d at' s n k=false:=by unfold rM;rw[j];simp only;rcases h with h|h|h|h<;>simp[h]
theorem yv{rows:List gw}(h:∀b∈rows,O b=64)(hk:k<=300):(jm (rows.map gN) at' k).length<=100000:=by
 have key:∀k,(jm (rows.map gN) at' k).length<=64*k:=by
  intro k
  induction k with
  | zero=>simp[jm]
  | succ k ih=>
   unfold jm at ih⊢;rw[List.range_succ,eO,ab];have h1:([k].flatMap fun i=>((rows.map gN).getD (at'+i) default).data).length<=64:=by
    simp only[dF,List.flatMap_nil,cX,aD,bg];cases d:rows[at'+k]? with
    | none=>simp[default]
    | some b=>have:=h b (be d);simp only[et,bZ];unfold gN;simp only[ax,bu];omega
   omega
 have:=key k;omega
theorem AP{l:gw}(h:d[at'+k]?=N b)(hl:b.data=l):jm d at' (k+1)=jm d at' k++l:=by unfold jm;rw[List.range_succ,eO];congr 1;simp[h,hl]
theorem DJ{b off:Nat}{x z n:Int}{v:Q4}{T:TypeId}{d:Nat×Nat}(h:w.heap[b]?=N (Q1 #[I Re x,v,I Y z] T d))(i:∀n,v≠I Rf n)(hc:Rn w ⟨b,off,J⟩=N (I Rf n)):False:=by
 have h1:=aP w b off _ _ _ h;rw[hc]at h1
 match off with
 | 0=>simp at h1
 | 1=>simp at h1;exact i n h1.symm
 | 2=>simp at h1
 | k+3=>simp at h1
theorem Ea(F:Nat->Prop)(rv:Q4)(rows:List gw)(at':Nat)(w:Q0)(jj:iX w F rv rows)(h64:∀b∈rows,O b=64)(hA:O rows<=1000)(hX:at'<=1000):
  Calls prog 199 #[rv,I Y (at':Nat)] w fun e w'=>Below (G (Q w)) w w'/\∃(st tt:Nat) (dv:Q4) (data:gw),e=Ending.returned (Rc #[.agg #[I Re (st:Nat),dv,I Y (tt:Nat)],Rh (kP (rows.map gN) at').isSome])/\gI w' dv data/\(∀b,Rl dv=N b->G (Q w)<=b/\b<G (Q w'))/\
   ∀x,kP (rows.map gN) at'=N x->x=⟨st,data,tt⟩:=by
 obtain⟨g,cap,rfl,e6,a4⟩:=jj.get;obtain⟨d,i5⟩:∃d,d=rows.map gN:=⟨_,rfl⟩;have f6:O d=O rows:=by rw[i5,aB]
 have HD:=gj i5;have HR:=gj jj;have HG:=gj a4;have d4:=gj h64;rw[<-i5];clear i5 jj a4 h64 e6;go_enter func199,ntmps199;go_wp2;have d5:Below (G (Q w)) w ((Ro w (Q1 #[I Re 0,Q6 J 0 0,I Y 0] 316)).alloc (Q1 #[I Re 0,Q6 J 0 0,I Y 0] 316)):=((gJ w).alloc gH _).alloc (by simp) _;have R0:=gP _ (Q1 #[I Re 0,Q6 J 0 0,I Y 0] 316) (gB w (Q1 #[I Re 0,Q6 J 0 0,I Y 0] 316));have R1:=gB (Ro w (Q1 #[I Re 0,Q6 J 0 0,I Y 0] 316)) (Q1 #[I Re 0,Q6 J 0 0,I Y 0] 316);rw[aj]at R1;have ci:gy (Pc w d at' 0 1 ((Ro w (Q1 #[I Re 0,Q6 J 0 0,I Y 0] 316)).alloc (Q1 #[I Re 0,Q6 J 0 0,I Y 0] 316))):=gj ⟨0,Q6 J 0 0,R1,gS.nil _ _ _,gQ.nil _ _,d5,R0,.inl ⟨rfl,rfl⟩,.inl (by omega),by omega⟩;clear d5 R0 R1;go_loopw [7,8] (fun p i wr=>∃k P:Nat,p=I Y (P:Int)/\i=I Y (k:Int)/\Pc w d at' k P wr) (fun _ i _=>300-(intOf i).toNat)
 case atStart=>exact⟨0,1,rfl,rfl,ci.o⟩
 case round=>
  obtain⟨k,P,rfl,rfl,st,dv,r1,r2,r3,r4,r5,r6,r7,r8⟩:=hrel;have gc:=gj r1;have bn:=gj r2;have ge:=gj r3;have bA:=gj r4;have gf:=gj r5;have cl:=gj r6;have e8:=r4.size;have cm:=r4.size;have hY:=gm r1;have hZ:=gm r5;obtain⟨m,q,rfl⟩:=r2.shape;have t0:Rn wr ⟨G (Q w)+1,0,J⟩=N (I Re (st:Nat)):=gr 0 r1;have t1:Rn wr ⟨G (Q w)+1,1,J⟩=N (Q6 m (jm d at' k).length q):=gr 1 r1;have t2:Rn wr ⟨G (Q w)+1,2,J⟩=N (I Y 0):=gr 2 r1;have gg:=gD 1 r1;have gl:=gD 2 r1;have gn:=gD 0 r1;have u0:Rn wr ⟨G (Q w),0,J⟩=N (I Re 0):=gr 0 r5;have u1:Rn wr ⟨G (Q w),1,J⟩=N (Q6 J 0 0):=gr 1 r5;have u2:Rn wr ⟨G (Q w),2,J⟩=N (I Y 0):=gr 2 r5;have go:=gD 0 r5;have gp:=gD 1 r5;have gq:=gD 2 r5;clear r1 r2 r3 r4 r5 r6 ci;by_cases d6:k<P
  .have g1:(k:Int)<P:=by omega
   by_cases gs:O rows<=at'+k
   .have g2:(O rows:Int)<=(at':Int)+k:=by omega
    have d7:kP d at'=J:=LB cl.o d6 (dJ (by rw[f6];exact gs));have s:=gj d7;clear d7;go_wp2;exact ai (by simp[results,results199,go_sem,u0,u1,u2]) rfl (yh st s.o bA.o bn.o rfl)
   .obtain⟨b,i6⟩:∃b,rows[at'+k]?=N b:=⟨_,ah (by omega)⟩;have bS:O b=64:=d4.o b (be i6);have gt:=(HR.o.iI e8 fun j C ty i7 W _ _=>bA.o.block j (gm W)).get;obtain⟨g',cap',e',-,a4⟩:=gt;obtain⟨rfl,-,rfl⟩:=Value.slice.inj e';obtain⟨g0,off,u,rfl,a3,bX⟩:=a4 _ _ i6;have g2:(at':Int)+k<(O rows:Int):=by omega
    have h0:¬(O rows:Int)<=(at':Int)+k:=by omega
    have hC:((at':Int)+k).toNat=at'+k:=by omega
    obtain⟨ua,uc,rfl,-,-⟩:=bX.1.gU;have bz:=gj bX;have HB:=gj i6;have dl:=gj a3;have h2:=gK a3;clear a4 e' bX i6;rw[bS]at a3;obtain⟨x,y,z,cn,d8⟩:=LJ bS;have d9:d[at'+k]?=N (gN b):=by rw[HD.o,bg,HB.o];rfl
    have bo:=gj d9;have M:=gj d8;have e9:=gj cn;have h3:=z.toNat_lt;have h4:=x.toNat_lt;have h5:=y.toNat_lt;clear d9 d8 cn;obtain⟨l,D,gv⟩:∃l D,ua=N ⟨l,D,J⟩:=by obtain⟨a',c',e',-,i3⟩:=bz.o.1.gU;obtain⟨b',o',gx,-⟩:=i3 0 (by omega);obtain⟨rfl,-,rfl⟩:=Value.slice.inj e';exact⟨b',o',gx⟩
    subst gv;have eb:gy (O b<=uc/\∃C i7,wr.heap[l]?=N (Q1 C 5 i7)):=gj (by obtain⟨a',c',e',gz,-⟩:=bz.o.1.gU;obtain⟨-,-,rfl⟩:=Value.slice.inj e';exact⟨gz,bz.o.2.1 l rfl⟩);go_wp2_with fail;have b6:=gB wr (Q1 #[Q6 (N ⟨l,D,J⟩) 64 uc,I Y 0,I Y 0,Q5 J] 254);have ec:gy (Below (G (Q wr)) wr (Ro wr (Q1 #[Q6 (N ⟨l,D,J⟩) 64 uc,I Y 0,I Y 0,Q5 J] 254))):=gj ((gJ wr).alloc gH _);have g3:gy (rF (Ro wr (Q1 #[Q6 (N ⟨l,D,J⟩) 64 uc,I Y 0,I Y 0,Q5 J] 254)) (G (Q wr)) l D uc 0 0 b):=gj (by refine⟨by rw[bS];exact b6,bz.o.1.below ec.o,?_,eb.o.1,by omega⟩;obtain⟨C,i7,jp⟩:=eb.o.2;have:=gm jp;omega);refine(Lu (G (Q wr)) l D uc 0 0 b _ g3.o (by omega)).mono ?_;rintro e w5 ⟨rfl,co,ed⟩;have eg:j6 ((b.drop 0).take 8)=(gN b).gF:=rfl;rw[eg];have g4:gy (gR (fun j=>j=G (Q wr)) wr w5):=gj ((gR.gO ec.o).trans ed);have fd:=gj co;obtain⟨S,hS⟩:∃S,S=(gN b).gF:=⟨_,rfl⟩;rw[<-hS];have HS:=gj hS;clear co ed eg b6 hS a3;go_wp2_with fail;refine(Fh (G (Q wr)) l D uc 0 8 3 b w5 fd.o (by omega) (by omega) (by omega)).mono ?_;rintro e X ⟨rfl,b1,ej⟩;have cq:=b1.part 8 (n:=3) (by omega);rw[e9.o]at cq;have R:gy (gR (fun j=>j=G (Q wr)) wr X):=gj (g4.o.trans ej);have a1:=gj b1;obtain⟨ha,hc,g5,g6,bB⟩:=cq.gU;cases g5;obtain⟨h6,h7,e0,am⟩:=bB 0 (by simp);obtain⟨hG,hH,i4,b8⟩:=bB 1 (by simp);obtain⟨hy,hz,i8,bD⟩:=bB 2 (by simp);cases e0;cases i4;cases i8;simp only[cG,eG,cL]at am b8 bD;have h8:=gj bB;have el:=R.o.cell (p:=⟨G (Q w)+1,0,J⟩) (by show(G (Q w))+1≠G (Q wr);omega) t0;have b9:=R.o.cell (p:=⟨G (Q w)+1,1,J⟩) (by show(G (Q w))+1≠G (Q wr);omega) t1;have em:=R.o.cell (p:=⟨G (Q w)+1,2,J⟩) (by show(G (Q w))+1≠G (Q wr);omega) t2;have aa:=gj (R.o.at (by show(G (Q w))+1≠G (Q wr);omega) gc.o);have a2:=gj (R.o.at (by show(G (Q w))≠G (Q wr);omega) gf.o);have fi:=gD 0 aa.o;have fk:=gD 1 aa.o;have fl:=gD 2 aa.o;have br:=R.o.cell (p:=⟨G (Q w),0,J⟩) (by show(G (Q w))≠G (Q wr);omega) u0;have bs:=R.o.cell (p:=⟨G (Q w),1,J⟩) (by show(G (Q w))≠G (Q wr);omega) u1;have bt:=R.o.cell (p:=⟨G (Q w),2,J⟩) (by show(G (Q w))≠G (Q wr);omega) u2;have fn:=gD 0 a2.o;have fo:=gD 1 a2.o;have fp:=gD 2 a2.o;have g7:=R.o.size;have a5:gy (Below (G (Q w)) w X):=gj (bA.o.trans (R.o.below (au cm gH) fun j W e=>by have e':j=G (Q wr):=e;omega));have Z:gy (gS X (G (Q w)+2) 1 (Q6 m (jm d at' k).length q) (jm d at' k).length (l6 (jm d at' k))):=gj (bn.o.frame R.o.size fun j e W=>R.o.block j W (by show j≠G (Q wr);omega));have en:gy (gQ X (Q6 m (jm d at' k).length q) 5):=gj (ge.o.frame fun j e W=>R.o.block j W (by show j≠G (Q wr);omega));have eo:gy (l<G (Q w)):=gj (by obtain⟨h9,ia,g8,-,dp⟩:=HR.o.get;obtain⟨g9,-,-⟩:=Value.slice.inj g8;obtain⟨ib,ic,u',er,eD,hb⟩:=dp _ _ HB.o;rw[<-g9]at er;cases er;have eS:=(bA.o.cell (p:=⟨g0,off+(at'+k),J⟩) (gK eD)).trans eD;rw[dl.o]at eS;cases eS;obtain⟨C,i7,jp⟩:=hb.2.1 l rfl;exact gm jp);have eT:gy ((jm d at' k).length<=100000):=gj (by rw[HD.o];exact yv d4.o (by omega));have ii:l<G (Q X):=gK am;have hI:l≠G (Q w):=fun e=>by rw[e]at am;exact DJ a2.o (fun n e=>by cases e) am
    have hJ:l≠G (Q w)+1:=fun e=>by rw[e]at am;exact DJ aa.o (fun n e=>by cases e) am
    clear t0 t1 t2 gn gg gl u0 u1 u2 go gp gq cq bB b1 ej g6;rcases cl.o with ⟨cr,eV⟩|⟨hd,b0,q0,q1,q2,q3,q4⟩
    .have d2:((k:Int)==0)=true:=by simp;omega
     have fr:(k:Int)=0:=by omega
     have ct:=gj cr;have hL:=gj eV;have ca:gy (d[at']?=N (gN b)):=gj (by have h1:=bo.o;rw[cr,cL]at h1;exact h1);clear cr eV fr;have io:(y.toNat:Int)<256:=by omega
     have ip:IntKind.i64.wrap (y.toNat:Int)=(y.toNat:Int):=IntWalk.i64_in _ (by omega);go_wp2;go_region;obtain⟨E,bv⟩:∃E,E=(Rp X ⟨G (Q w)+1,0,J⟩ (I Re (S:Nat))).drew:=⟨_,rfl⟩;have B:∀j,j≠G (Q w)+1->E.heap[j]?=X.heap[j]?:=fun j W=>by rw[bv];exact Below.heap_setCell X ⟨G (Q w)+1,0,J⟩ _ j W
     have hf:G (Q X)<=G (Q E):=by rw[bv];show(G (Q X))<=(Rp X ⟨G (Q w)+1,0,J⟩ (I Re (S:Nat))).heap.size;rw[QO];exact aq _
     have ag:gy (E.heap[G (Q w)+1]?=N (Q1 #[I Re (S:Nat),Q6 m (jm d at' k).length q,I Y 0] 316 (0,0))):=gj (by rw[bv];exact QN _ _ 0 _ aa.o);have ak:=gj ((B (G (Q w)) (by omega)).trans a2.o);have fx:gy (rF E (G (Q wr)) l D uc 8 11 b):=gj ⟨(B _ (by omega)).trans a1.o.row,gE.frame a1.o.bytes (fun j e _=>B j (by cases e;omega)),a1.o.ne,a1.o.cap,a1.o.len⟩;have bE:gy (gS E (G (Q w)+2) 1 (Q6 m (jm d at' k).length q) (jm d at' k).length (l6 (jm d at' k))):=gj (Z.o.frame hf fun j e _=>B j (by have:=Z.o.ie j e;omega));have hg:gy (gQ E (Q6 m (jm d at' k).length q) 5):=gj (en.o.frame fun j e _=>B j (by have:=Z.o.ie j e;omega));have cb:gy (Below (G (Q w)) w E):=gj (by rw[bv];exact(a5.o.setCell (p:=⟨G (Q w)+1,0,J⟩) (by simp) _).drew);rw[<-bv];have hh:Rn E ⟨G (Q w)+1,0,J⟩=N (I Re (S:Nat)):=gr 0 ag.o;have cu:Rn E ⟨G (Q w)+1,1,J⟩=N (Q6 m (jm d at' k).length q):=gr 1 ag.o;have hi:Rn E ⟨G (Q w)+1,2,J⟩=N (I Y 0):=gr 2 ag.o;have cv:Rn E ⟨G (Q w),0,J⟩=N (I Re 0):=gr 0 ak.o;have cB:Rn E ⟨G (Q w),1,J⟩=N (Q6 J 0 0):=gr 1 ak.o;have c0:Rn E ⟨G (Q w),2,J⟩=N (I Y 0):=gr 2 ak.o;have hM:=gD 0 ak.o;have hN:=gD 1 ak.o;have hO:=gD 2 ak.o;have hP:=gD 1 ag.o;have bx:Rn E ⟨l,D+8,J⟩=N (I Rf (x.toNat:Int)):=(aS (w:=X) (B l (by omega))).trans am;have hk:Rn E ⟨l,D+8+1,J⟩=N (I Rf (y.toNat:Int)):=(aS (w:=X) (B l (by omega))).trans b8;have j1:Rn E ⟨l,D+8+2,J⟩=N (I Rf (z.toNat:Int)):=(aS (w:=X) (B l (by omega))).trans bD;have hQ:=gm ag.o;have hR:l<G (Q E):=gK bx;have fz:G (Q wr)<=G (Q E):=by omega
     clear bv B el b9 em fi fk fl br bs bt fn fo fp am b8 bD;by_cases bH:S=0
     .have b2:((S:Int)==0)=true:=by simp;omega
      have hn:=gj bH;clear bH;have s:gy (kP d at'=J):=gj (ur ca.o (.inl (by rw[<-HS.o,hn.o])));go_wp2;exact ai (by simp[results,results199,go_sem,cv,cB,c0]) rfl (yh S s.o cb.o bE.o rfl)
     .have b2:((S:Int)==0)=false:=by simp;omega
      by_cases a6:x.toNat=k
      .have b3:((x.toNat:Int) != (k:Int))=false:=by simp;omega
       have c1:=gj a6;clear a6;by_cases ho:z.toNat<=53
       .have b4:¬(53:Int)<(z.toNat:Int):=by omega
        have fB:l<G (Q w):=eo.o;have a7:gy (∀j,(Q6 m (jm d at' k).length q).ownBlock=N j->G (Q w)+2<=j):=gj bE.o.ie;have a8:gy (∀j,(Q6 m (jm d at' k).length q).ownBlock=N j->j<G (Q wr)):=gj bn.o.iA;have hp:IntKind.i64.wrap (z.toNat:Int)=(z.toNat:Int):=IntWalk.i64_in _ (by omega);have a9:=j1;go_wp2;refine jI (n:=10) (S:=(fun w'=>Rn w' ⟨G (Q w)+1,1,J⟩=N (Q6 m (jm d at' k).length q)/\Rn w' ⟨l,D+8+2,J⟩=N (I Rf (z.toNat:Int)))) (by kernel_rfl) (by kernel_rfl) rfl (by first|exact⟨cu,a9⟩|exact⟨ap,av⟩) ?_;intro fR;simp only[cJ,b7,bC,cO,aN,bp,bd,bf,bK,aQ,aV];refine lS [0,1,2,3,4,5,6] ?_
        repeat(refine jx (v:=?_) rfl (by kernel_rfl) (by assumption) (by rfl) (fun _ _ _ h=>h) ?_ ?_;rotate_left 1;(· intro w ba;(try dsimp only at ba);go_simp;(try with_reducible rfl));try simp only[Act.put,List.setIfInBounds_toArray,List.set_cons_zero,List.set_cons_succ])
        refine ka ?_;refine iT 7 (by kernel_rfl) rfl ?_;intro K' hK';go_simp;go_at_call 157;refine(Hk (G (Q wr)) l D uc 8 11 z.toNat b _ fx.o.drew (by omega) (by omega)).mono ?_;rintro e w7 ⟨⟨pv,rfl,bI⟩,b5,U⟩;have r:gy (gR (fun j=>j=G (Q wr)) E w7):=gj ⟨U.os,U.tape,U.output,U.size,U.block⟩;have ap:Rn w7 ⟨G (Q w)+1,1,J⟩=N (Q6 m (jm d at' k).length q):=r.o.cell (p:=⟨G (Q w)+1,1,J⟩) (by show(G (Q w))+1≠G (Q wr);omega) cu;have av:Rn w7 ⟨l,D+8+2,J⟩=N (I Rf (z.toNat:Int)):=r.o.cell (p:=⟨l,D+8+2,J⟩) (by show l≠G (Q wr);omega) a9;have c2:=gj bI;clear b5 U bI;refine hK'.out _ _ ⟨ap,av⟩ ?_;clear hK' K';intro f0
        try simp only[az,aG,aK]
        refine iT 8 (by kernel_rfl) rfl ?_;intro K' hK';refine pa rfl (.tmp 77) (.tmp 83) rfl (G (Q w)+2) (Q6 m (jm d at' k).length q) (jm d at' k).length (jm d at' k) rfl (by exact bE.o.frame r.o.size fun j e W=>r.o.block j W (by show j≠G (Q wr);have:=a8.o j e;omega)) (by exact hg.o.frame fun j e W=>r.o.block j W (by show j≠G (Q wr);have:=a8.o j e;omega)) ((b.drop 11).take z.toNat) (by exact c2.o) (by have:=eT.o;rw[ax];omega) (by have:=r.o.size;omega) ?_;intro v8 w8 V aE bc bL;obtain⟨bM,bN,rfl⟩:=V.shape;have bO:=gj bL;have bP:=gj V;have c3:=gj bc;have c4:=gj aE;have f1:=r.o.size;have bi:Rn w8 ⟨G (Q w)+1,1,J⟩=N (Q6 m (jm d at' k).length q):=(aS (w:=w7) (aE.block (G (Q w)+1) (by omega) (fun e=>by have:=a7.o _ e.symm;omega))).trans ap;have bR:Rn w8 ⟨l,D+8+2,J⟩=N (I Rf (z.toNat:Int)):=(aS (w:=w7) (aE.block l (by omega) (fun e=>by have:=a7.o _ e.symm;omega))).trans av;clear V aE bc bL;refine hK'.out _ _ ⟨bi,bR⟩ ?_;clear hK' K';intro f2
        try simp only[Act.put,az,aG,aK]
        refine lS [9] ?_
        repeat(refine jx (v:=?_) rfl (by kernel_rfl) (by assumption) (by rfl) (fun _ _ _ h=>h) ?_ ?_;rotate_left 1;(· intro w ba;(try dsimp only at ba);go_simp;(try with_reducible rfl));try simp only[Act.put,List.setIfInBounds_toArray,List.set_cons_zero,List.set_cons_succ])
        refine ka ?_;refine wpAnyH_done (by kernel_rfl) ?_ _;show Oper.wp _ _ _ _ _ _;have i4:=bi;have c5:=gD 1 ag.o;have al:gy (w8.heap[G (Q w)+1]?=N (Q1 #[I Re (S:Nat),Q6 m (jm d at' k).length q,I Y 0] 316 (0,0))):=gj ((c4.o.block (G (Q w)+1) (by omega) (fun e=>by have:=a7.o _ e.symm;omega)).trans (r.o.at (by show(G (Q w))+1≠G (Q wr);omega) ag.o));have hr:=gD 1 al.o;have hs:=gm al.o;have c6:gy (∀j,(Q6 bM _ bN).ownBlock=N j->G (Q w)+2<=j):=gj bP.o.ie;clear c5 ap av bR bi hh cu hi bx hk j1 a9;go_wp2;have a0:((b.drop 11).take z.toNat).length=z.toNat:=by rw[ax,bu];omega
        have c7:jm d at' (k+1)=jm d at' k++(b.drop 11).take z.toNat:=AP bo.o (by rw[M.o]);refine⟨⟨k+1,y.toNat,rfl,by go_num,S,Q6 bM ((jm d at' k).length+z.toNat) bN,QN _ _ 1 _ al.o,?_,?_,?_,?_,.inr ⟨by omega,gN b,ca.o,by rw[M.o],HS.o,bH,fun i j0=>?_⟩,.inr (by have:=ct.o;omega),by omega⟩,by simp[intOf];omega⟩
        .rw[c7,ab,a0];have h1:=bP.o;rw[a0]at h1;exact h1.frame (by rw[QO];exact aq _) fun j e _=>Below.heap_setCell w8 ⟨G (Q w)+1,1,J⟩ _ j (by show j≠G (Q w)+1;have:=h1.ie j e;omega)
        .have h1:=c3.o;rw[a0]at h1;exact h1.frame fun j e _=>Below.heap_setCell w8 ⟨G (Q w)+1,1,J⟩ _ j (by show j≠G (Q w)+1;have:=c6.o j (by rw[a0];exact e);omega)
        .exact((cb.o.trans (r.o.below (au cm fz) fun j W e=>by have e':j=G (Q wr):=e;omega)).trans (bO.o.mono (by omega))).setCell (p:=⟨G (Q w)+1,1,J⟩) (by simp) _
        .exact(Below.heap_setCell w8 ⟨G (Q w)+1,1,J⟩ _ (G (Q w)) (by show(G (Q w))≠G (Q w)+1;omega)).trans ((bO.o.block _ (by omega)).trans (r.o.at (by show(G (Q w))≠G (Q wr);omega) ak.o))
        .obtain rfl:i=k:=by have:=ct.o;omega
         exact rN.2 ⟨_,bo.o,rfl,by rw[M.o];exact c1.o,rfl,by rw[M.o];simp;omega⟩
       .have b4:(53:Int)<(z.toNat:Int):=by omega
        have s:gy (kP d at'=J):=gj (ur ca.o (.inr (.inr (by rw[M.o];simp;omega))));go_wp2;exact ai (by simp[results,results199,go_sem,cv,cB,c0]) rfl (yh S s.o cb.o bE.o rfl)
      .have b3:((x.toNat:Int) != (k:Int))=true:=by simp;omega
       have s:gy (kP d at'=J):=gj (ur ca.o (.inr (.inl (by rw[M.o];show x.toNat≠0;rw[<-ct.o];exact a6))));go_wp2;exact ai (by simp[results,results199,go_sem,cv,cB,c0]) rfl (yh S s.o cb.o bE.o rfl)
    .have e1:=gj q0;have cc:=gj q1;have cd:=gj q2;have ht:=gj q4;have hU:¬k=0:=by omega
     have d2:((k:Int)==0)=false:=by simp;omega
     have bk:gy (((gN b).gF≠b0.gF\/(gN b).i≠k\/(gN b).of≠b0.of\/(gN b).ok=false)->kP d at'=J):=gj fun h=>vr e1.o (by rw[<-cc.o];exact d6) (Nr bo.o h);clear q0 q1 q2 q4;by_cases bH:S=0
     .have b2:((S:Int)==0)=true:=by simp;omega
      have s:gy (kP d at'=J):=gj (bk.o (.inl (by rw[<-HS.o,<-cd.o,bH];exact dW q3)));go_wp2;exact ai (by simp[results,results199,go_sem,br,bs,bt]) rfl (yh st s.o a5.o Z.o rfl)
     .have b2:((S:Int)==0)=false:=by simp;omega
      by_cases e2:S=st
      .obtain rfl:=e2;by_cases a6:x.toNat=k
       .have b3:((x.toNat:Int) != (k:Int))=false:=by simp;omega
        have c1:=gj a6;clear a6;by_cases c8:y.toNat=P
        .have f4:((y.toNat:Int) != (P:Int))=false:=by simp;omega
         have hu:=gj c8;clear c8;by_cases ho:z.toNat<=53
         .have b4:¬(53:Int)<(z.toNat:Int):=by omega
          have fB:l<G (Q w):=eo.o;have a7:gy (∀j,(Q6 m (jm d at' k).length q).ownBlock=N j->G (Q w)+2<=j):=gj Z.o.ie;have a8:gy (∀j,(Q6 m (jm d at' k).length q).ownBlock=N j->j<G (Q wr)):=gj bn.o.iA;have hp:IntKind.i64.wrap (z.toNat:Int)=(z.toNat:Int):=IntWalk.i64_in _ (by omega);have a9:Rn X ⟨l,D+8+2,J⟩=N (I Rf (z.toNat:Int)):=bD;go_wp2;refine jI (n:=10) (S:=(fun w'=>Rn w' ⟨G (Q w)+1,1,J⟩=N (Q6 m (jm d at' k).length q)/\Rn w' ⟨l,D+8+2,J⟩=N (I Rf (z.toNat:Int)))) (by kernel_rfl) (by kernel_rfl) rfl (by first|exact⟨b9,a9⟩|exact⟨ap,av⟩) ?_;intro fR;simp only[cJ,b7,bC,cO,aN,bp,bd,bf,bK,aQ,aV];refine lS [0,1,2,3,4,5,6] ?_
          repeat(refine jx (v:=?_) rfl (by kernel_rfl) (by assumption) (by rfl) (fun _ _ _ h=>h) ?_ ?_;rotate_left 1;(· intro w ba;(try dsimp only at ba);go_simp;(try with_reducible rfl));try simp only[Act.put,List.setIfInBounds_toArray,List.set_cons_zero,List.set_cons_succ])
          refine ka ?_;refine iT 7 (by kernel_rfl) rfl ?_;intro K' hK';go_simp;go_at_call 157;refine(Hk (G (Q wr)) l D uc 8 11 z.toNat b _ a1.o.drew (by omega) (by omega)).mono ?_;rintro e w7 ⟨⟨pv,rfl,bI⟩,b5,U⟩;have r:gy (gR (fun j=>j=G (Q wr)) X w7):=gj ⟨U.os,U.tape,U.output,U.size,U.block⟩;have ap:Rn w7 ⟨G (Q w)+1,1,J⟩=N (Q6 m (jm d at' k).length q):=r.o.cell (p:=⟨G (Q w)+1,1,J⟩) (by show(G (Q w))+1≠G (Q wr);omega) b9;have av:Rn w7 ⟨l,D+8+2,J⟩=N (I Rf (z.toNat:Int)):=r.o.cell (p:=⟨l,D+8+2,J⟩) (by show l≠G (Q wr);omega) a9;have c2:=gj bI;clear b5 U bI;refine hK'.out _ _ ⟨ap,av⟩ ?_;clear hK' K';intro f0
          try simp only[az,aG,aK]
          refine iT 8 (by kernel_rfl) rfl ?_;intro K' hK';refine pa rfl (.tmp 77) (.tmp 83) rfl (G (Q w)+2) (Q6 m (jm d at' k).length q) (jm d at' k).length (jm d at' k) rfl (by exact Z.o.frame r.o.size fun j e W=>r.o.block j W (by show j≠G (Q wr);have:=a8.o j e;omega)) (by exact en.o.frame fun j e W=>r.o.block j W (by show j≠G (Q wr);have:=a8.o j e;omega)) ((b.drop 11).take z.toNat) (by exact c2.o) (by have:=eT.o;rw[ax];omega) (by have:=r.o.size;omega) ?_;intro v8 w8 V aE bc bL;obtain⟨bM,bN,rfl⟩:=V.shape;have bO:=gj bL;have bP:=gj V;have c3:=gj bc;have c4:=gj aE;have f1:=r.o.size;have bi:Rn w8 ⟨G (Q w)+1,1,J⟩=N (Q6 m (jm d at' k).length q):=(aS (w:=w7) (aE.block (G (Q w)+1) (by omega) (fun e=>by have:=a7.o _ e.symm;omega))).trans ap;have bR:Rn w8 ⟨l,D+8+2,J⟩=N (I Rf (z.toNat:Int)):=(aS (w:=w7) (aE.block l (by omega) (fun e=>by have:=a7.o _ e.symm;omega))).trans av;clear V aE bc bL;refine hK'.out _ _ ⟨bi,bR⟩ ?_;clear hK' K';intro f2
          try simp only[Act.put,az,aG,aK]
          refine lS [9] ?_
          repeat(refine jx (v:=?_) rfl (by kernel_rfl) (by assumption) (by rfl) (fun _ _ _ h=>h) ?_ ?_;rotate_left 1;(· intro w ba;(try dsimp only at ba);go_simp;(try with_reducible rfl));try simp only[Act.put,List.setIfInBounds_toArray,List.set_cons_zero,List.set_cons_succ])
          refine ka ?_;refine wpAnyH_done (by kernel_rfl) ?_ _;show Oper.wp _ _ _ _ _ _;have i4:=bi;have c5:=gD 1 aa.o;have al:gy (w8.heap[G (Q w)+1]?=N (Q1 #[I Re (S:Nat),Q6 m (jm d at' k).length q,I Y 0] 316 (0,0))):=gj ((c4.o.block (G (Q w)+1) (by omega) (fun e=>by have:=a7.o _ e.symm;omega)).trans (r.o.at (by show(G (Q w))+1≠G (Q wr);omega) aa.o));have hr:=gD 1 al.o;have hs:=gm al.o;have c6:gy (∀j,(Q6 bM _ bN).ownBlock=N j->G (Q w)+2<=j):=gj bP.o.ie;clear c5 ap av bR bi el b9 em am b8 bD a9;go_wp2;have a0:((b.drop 11).take z.toNat).length=z.toNat:=by rw[ax,bu];omega
          have c7:jm d at' (k+1)=jm d at' k++(b.drop 11).take z.toNat:=AP bo.o (by rw[M.o]);refine⟨⟨k+1,P,rfl,by go_num,S,Q6 bM ((jm d at' k).length+z.toNat) bN,QN _ _ 1 _ al.o,?_,?_,?_,?_,.inr ⟨by omega,b0,e1.o,cc.o,cd.o,q3,fun i j0=>?_⟩,.inl (by omega),r8⟩,by simp[intOf];omega⟩
          .rw[c7,ab,a0];have h1:=bP.o;rw[a0]at h1;exact h1.frame (by rw[QO];exact aq _) fun j e _=>Below.heap_setCell w8 ⟨G (Q w)+1,1,J⟩ _ j (by show j≠G (Q w)+1;have:=h1.ie j e;omega)
          .have h1:=c3.o;rw[a0]at h1;exact h1.frame fun j e _=>Below.heap_setCell w8 ⟨G (Q w)+1,1,J⟩ _ j (by show j≠G (Q w)+1;have:=c6.o j (by rw[a0];exact e);omega)
          .exact((a5.o.trans (r.o.below (au cm g7) fun j W e=>by have e':j=G (Q wr):=e;omega)).trans (bO.o.mono (by omega))).setCell (p:=⟨G (Q w)+1,1,J⟩) (by simp) _
          .exact(Below.heap_setCell w8 ⟨G (Q w)+1,1,J⟩ _ (G (Q w)) (by show(G (Q w))≠G (Q w)+1;omega)).trans ((bO.o.block _ (by omega)).trans (r.o.at (by show(G (Q w))≠G (Q wr);omega) a2.o))
          .by_cases hv:i<k
           .exact ht.o i hv
           .obtain rfl:i=k:=by omega
            exact rN.2 ⟨_,bo.o,by rw[<-HS.o];exact cd.o,by rw[M.o];exact c1.o,by rw[M.o,<-cc.o];exact hu.o,by rw[M.o];simp;omega⟩
         .have b4:(53:Int)<(z.toNat:Int):=by omega
          have s:gy (kP d at'=J):=gj (bk.o (.inr (.inr (.inr (by rw[M.o];simp;omega)))));go_wp2;exact ai (by simp[results,results199,go_sem,br,bs,bt]) rfl (yh S s.o a5.o Z.o rfl)
        .have f4:((y.toNat:Int) != (P:Int))=true:=by simp;omega
         have s:gy (kP d at'=J):=gj (bk.o (.inr (.inr (.inl (by rw[M.o,<-cc.o];exact c8)))));go_wp2;exact ai (by simp[results,results199,go_sem,br,bs,bt]) rfl (yh S s.o a5.o Z.o rfl)
       .have b3:((x.toNat:Int) != (k:Int))=true:=by simp;omega
        have s:gy (kP d at'=J):=gj (bk.o (.inr (.inl (by rw[M.o];exact a6))));go_wp2;exact ai (by simp[results,results199,go_sem,br,bs,bt]) rfl (yh S s.o a5.o Z.o rfl)
      .have hV:((S:Int) != (st:Int))=true:=by simp;omega
       have s:gy (kP d at'=J):=gj (bk.o (.inl (by rw[<-HS.o,<-cd.o];exact e2)));go_wp2;exact ai (by simp[results,results199,go_sem,br,bs,bt]) rfl (yh st s.o a5.o Z.o rfl)
  .have g1:¬(k:Int)<P:=by omega
   have e3:gy (kP d at'=if 0<P then N ⟨st,jm d at' k,at'+P⟩else J):=gj (by
    rcases cl.o with ⟨i4,i8⟩|⟨hd,b0,q0,q1,q2,q3,q4⟩
    .omega
    .split
     .rename_i i9;have hw:k=P:=by omega
      rw[hw]at q4⊢;exact lY.2 ⟨P,i9,q3,rfl,rfl,fun i j0=>by rw[q1,q2];exact rN.1 (q4 i j0)⟩
     .unfold kP;rw[q0];simp only;rw[af (fun hc=>by omega)])
   have e4:decide ((0:Int)<(P:Int))=decide (0<P):=by simp
   have iv:=gj e4;clear e4;go_wp2
   have hx:gS (Rp wr ⟨G (Q w)+1,2,J⟩ (I Y ((at':Int)+(P:Int)))) (G (Q w)+2) 1 (Q6 m (jm d at' k).length q) (jm d at' k).length (l6 (jm d at' k)):=
    bn.o.frame (by rw[QO];exact aq _) fun j e _=>Below.heap_setCell wr ⟨G (Q w)+1,2,J⟩ _ j (by show j≠G (Q w)+1;have:=bn.o.ie j e;omega)
   obtain⟨i4,i8,j2⟩:=N3 rfl (bA.o.setCell (p:=⟨G (Q w)+1,2,J⟩) (by simp) (I Y ((at':Int)+(P:Int)))) hx (I Re (st:Nat)) (Q6 m (jm d at' k).length q) (I Y ((at':Int)+(P:Int)));refine ai (v:=Rc #[.agg #[I Re (st:Nat),Q6 m (jm d at' k).length q,I Y ((at':Int)+(P:Int))],Rh (decide (0<P))]) (by simp[results,results199,go_sem,u0,u1,u2]) rfl ⟨i4,st,at'+P,_,?_,_,i8,j2,fun x i3=>?_⟩
   .rw[e3.o,Int.natCast_add];by_cases i9:0<P
    .simp[i9]
    .simp[i9]
   .rw[e3.o]at i3;split at i3
    .cases i3;rfl
    .cases i3
end Go.Proofs.YtkkfmkhbdoeglabGreatDoor
