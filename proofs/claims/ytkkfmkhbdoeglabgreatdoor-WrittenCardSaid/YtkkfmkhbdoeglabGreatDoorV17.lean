/- Lemmas of the proof. No condition. -/
import Derived.Test.YtkkfmkhbdoeglabGreatDoorV16
set_option maxHeartbeats 4000000
set_option maxRecDepth 100000
namespace Go.Proofs.YtkkfmkhbdoeglabGreatDoor
open Go renaming World->Q0,Value->Q4,Calls->Rg
open Go.IntKind renaming i64->Y,u8->Rf
open Go.Obj renaming cells->Q1
open Go.RowKit renaming Below->Q8
open Go.Value renaming int->I,slice->Q6,string->Q7,agg->Q9,tuple->Rc,bool->Rh,ownBlock->Rl
open Go.World renaming heap->Q,cell?->Rn,alloc->Ro,setCell->Rp
open List renaming length->O,toArray->Rm
open Option renaming none->J,some->N
open _root_.Array renaming size->G
open Go.Proofs.Tryz
open Go.RowKit Go.Shelf
variable{P:E->Prop}{S:List E}{at' k n:Nat}{b:List K}{d w wr:Q0}{l:List Int}{rows:List gw}{s:gw}{v v7:Q4}{vals:List Q4}
def p5(l:List Int)(t:Nat):Int:=if t<O l then min (max (l.getD t 0) 0) 40 else 40
def gY(l:List Int):Nat->Int
 | 0=>p5 l 0
 | 1=>p5 l 1
 | _=>p5 l 2
theorem nJ{w':Q0}(h:w.grownBy w' (Rl v)):gR (fun k=>Rl v=N k) w w':=⟨h.os,h.tape,h.output,h.size,fun k hk b=>h.block k hk fun e=>b e.symm⟩
theorem iX.push{F F7:Nat->Prop}{u:Q4}(h1:gS w 0 1 v (O rows) vals)(y:gQ w v 112)(B:∀(i:Nat) (b:gw),rows[i]?=N b->∃u,vals[i]?=N u/\l8 w F u b)(D:gR (fun k=>Rl v=N k) w d)(l:gS d 0 1 v7 (O rows+1) (vals++[u]))(m:gQ d v7 112)(hF:∀k,F k->F7 k)(E:∀k,Rl v7=N k->F7 k)(M:l8 d F7 u s):iX d F7 v7 (rows++[s]):=by
 have o:O vals=O rows:=by have:=h1.1;omega
 refine⟨vals++[u],by rw[ab];exact l,m,E,fun i b j=>?_⟩;by_cases q:i<O rows
 .rw[cV q]at j;obtain⟨R,S,r⟩:=B i b j;refine⟨R,by rw[cV (by omega)];exact S,(r.iI fun k C V hk _=>D.block k (gm hk) fun e=>?_).mono hF⟩;obtain⟨W,U,x⟩:=y k e;rw[hk]at x;cases x
 .have:i=O rows:=by
   have:=(aH.1 j).1;simp at this;omega
  subst this;rw[cT gH,ee]at j;cases j;exact⟨u,by rw[cT (by omega),o,ee];rfl,M⟩
theorem BU(w:Q0)(u:Q4):gE (Ro w (Q1 #[u] 112)) (Q6 (N ⟨G (Q w),0,J⟩) 1 1) 1 1 [u]:=by
 refine⟨rfl,_,1,rfl,aq _,fun i b=>⟨_,0,rfl,?_⟩⟩;obtain rfl:i=0:=by simp at b;omega
 rw[bY,pK];rfl
theorem Gl:(prog.info? 112).map (fun i=>(i.zero,i.size,i.bytes))=N (N (Q6 J 0 0),1,24):=by kernel_rfl
def DH(b d:Q4)(r:Nat)(r0 r1 r2:Int):HV:=⟨b,d,Q6 J 0 0,-1,-1,false,0,r0,r1,r2,r,Q6 J 0 0⟩
def De(w:Q0)(i:Nat)(wr:Q0):Prop:=∃b d,iQ wr (G (Q w)+1) (DH b d (G (Q w)) 0 0 0)/\iX wr (fun k=>G (Q w)+2<=k/\k<G (Q wr)) b (List.replicate i kL)/\iX wr (fun k=>G (Q w)+2<=k/\k<G (Q wr)) d (List.replicate i kL)/\
 (∀k,Rl b=N k->Rl d≠N k)/\Q8 (G (Q w)) w wr/\iE wr (G (Q w)) []
theorem Dc:(madeCells #[I Rf 0] 64)=(l6 kL).toArray:=by apply Array.toList_inj.1;have e:(madeCells #[I Rf 0] 64).toList=List.replicate 64 (I Rf 0):=eM _ _;rw[e];unfold kL l6;rw[List.map_replicate];rfl
theorem Nc{w8:Q0}{i:Nat}{m r:Q4}{C:List Q4}{orows:List gw}(V:Q8 (G (Q w)) w wr)(W:G (Q w)+2<=G (Q wr))(x:d.heap[G (Q w)+1]?=N (Q1 (Rm C) 125 (0,0)))(m1:gS wr 0 1 m (O rows) vals)(m2:gQ wr m 112)(m3:∀k,Rl m=N k->G (Q w)+2<=k/\k<G (Q wr))(m4:∀(i:Nat) (b:gw),rows[i]?=N b->∃u,vals[i]?=N u/\l8 wr (fun k=>G (Q w)+2<=k/\k<G (Q wr)) u b)(y:iX wr (fun k=>G (Q w)+2<=k/\k<G (Q wr)) r orows)(ha:∀k,Rl m=N k->Rl r≠N k)(jh:iE wr (G (Q w)) [])(o:gR (fun k=>Rl m=N k) wr d)(q:d.heap[G (Q wr)]?=N (Q1 (madeCells #[I Rf 0] 64) 5 (0,0)))(B:gS d 0 1 v7 (O rows+1) (vals++[Q6 (N ⟨G (Q wr),0,J⟩) 64 64]))(s:gQ d v7 112)(M:∀b,Rl v7=N b->Rl m=N b\/G (Q wr)<=b)(he:w8=Rp d ⟨G (Q w)+1,i,J⟩ v7):
  iX w8 (fun k=>G (Q w)+2<=k/\k<G (Q w8)) v7 (rows++[kL])/\iX w8 (fun k=>G (Q w)+2<=k/\k<G (Q w8)) r orows/\(∀k,Rl v7=N k->Rl r≠N k)/\Q8 (G (Q w)) w w8/\iE w8 (G (Q w)) []/\w8.heap[G (Q w)+1]?=N (Q1 (C.toArray.setIfInBounds i v7) 125 (0,0))/\G (Q wr)<=G (Q w8):=by
 have ak:G (Q w8)=G (Q d):=by rw[he,QO]
 have al:=o.size;have l:∀k,k≠G (Q w)+1->w8.heap[k]?=d.heap[k]?:=fun k hk=>by rw[he];exact Below.heap_setCell d ⟨G (Q w)+1,i,J⟩ v7 k hk
 have D:∀b,Rl v7=N b->G (Q w)+2<=b/\b<G (Q d):=fun b e=>by refine⟨(M b e).elim (fun h=>(m3 b h).1) (fun h=>by omega),?_⟩;obtain⟨C,R,X⟩:=s b e;exact gm X
 have E:=gm q;have Z:l8 d (fun k=>G (Q w)+2<=k/\k<G (Q d)) (Q6 (N ⟨G (Q wr),0,J⟩) 64 64) kL:=by rw[Dc]at q;exact l8.I8 q ⟨W,E⟩ (by decide)
 have h1:=iX.push (F7:=fun k=>G (Q w)+2<=k/\k<G (Q d)) m1 m2 m4 o B s (fun k hk=>⟨hk.1,by omega⟩) D Z;refine⟨(h1.iI (by omega) fun k C t R hk _ hF=>l k (by have:=hF.1;omega)).mono fun k hk=>⟨hk.1,by omega⟩,?_,fun k e S=>?_,?_,jh.iI ((l _ (by omega)).trans (o.block _ (by omega) fun e=>by have:=m3 _ e;omega)),?_,by omega⟩
 .have h2:=y.Gq (w':=w8) (by omega) (fun k e hk=>(l k (by obtain⟨_,_,_,F,_⟩:=y;have:=F k e;omega)).trans (o.block k hk fun e'=>ha k e' e)) (fun k C R hk hF=>(l k (by have:=hF.1;omega)).trans (o.block k (gm hk) fun e=>by
   obtain⟨C',am,U⟩:=m2 k e;rw[hk]at U;cases U))
  exact h2.mono fun k hk=>⟨hk.1,by omega⟩
 .rcases M k e with h|h
  .exact ha k h S
  .obtain⟨_,_,_,F,_⟩:=y;have:=F k S;omega
 .rw[he];exact(V.trans (o.below (by omega) fun j hj e=>by have:=m3 j e;omega)).setCell (p:=⟨G (Q w)+1,i,J⟩) (by simp) v7
 .rw[he];exact QN _ _ i v7 x
theorem iX.nil(w:Q0)(F:Nat->Prop):iX w F (Q6 J 0 0) []:=⟨[],gS.nil _ _ _,gQ.nil _ _,fun k e=>by simp[Value.ownBlock]at e,fun i b h=>by simp at h⟩
def rr(l:List Int)(k:Nat)(v:Int)(t:Nat):Int:=if t<k then p5 l t else if t=k then v else 0
theorem E8(l:List Int)(k:Nat)(t:Nat):rr l (k+1) 0 t=rr l k (p5 l k) t:=by
 unfold rr;by_cases h:t<k
 .rw[aw h,aw (by omega)]
 .by_cases d:t=k
  .subst d;rw[af h,aw rfl,aw (by omega)]
  .rw[af h,af d,af (by omega),b]
where b {p:Prop} [Decidable p]:(if p then(0:Int)else 0)=0:=by split<;>rfl
def Eg(w:Q0)(n:Nat)(l:List Int)(k:Nat)(v:Int)(wr:Q0):Prop:=∃b d,iQ wr (G (Q w)+1) (DH b d (G (Q w)) (rr l k v 0) (rr l k v 1) (rr l k v 2))/\iX wr (fun k=>G (Q w)+2<=k/\k<G (Q wr)) b (List.replicate n kL)/\iX wr (fun k=>G (Q w)+2<=k/\k<G (Q wr)) d (List.replicate n kL)/\
 (∀k,Rl b=N k->Rl d≠N k)/\Q8 (G (Q w)) w wr/\iE wr (G (Q w)) []
theorem De.Qs(h:De w n wr):Eg w n l 0 0 wr:=by obtain⟨b,d,h1,i⟩:=h;exact⟨b,d,h1,i⟩
theorem Eg.next(h:Eg w n l k (p5 l k) wr):Eg w n l (k+1) 0 wr:=by obtain⟨b,d,h1,i⟩:=h;exact⟨b,d,by rw[E8,E8,E8];exact h1,i⟩
theorem Eg.cell{w wr:Q0}{n k:Nat}{l:List Int}{v:Int}(h:Eg w n l k v wr)(hk:k<3):Rn wr ⟨G (Q w)+1,7+k,J⟩=N (I Y v)/\wr.frozen? ⟨G (Q w)+1,7+k,J⟩=false:=by
 obtain⟨b,d,h1,-⟩:=h;refine⟨?_,dg _ _ _ _ _ h1⟩;obtain rfl|rfl|rfl:k=0\/k=1\/k=2:=by omega
 .exact gr 7 h1
 .exact gr 8 h1
 .exact gr 9 h1
theorem Eg.set{v:Int}(h:Eg w n l k v wr)(hk:k<3)(v':Int):Eg w n l k v' (Rp wr ⟨G (Q w)+1,7+k,J⟩ (I Y v')):=by
 obtain⟨i,m,h1,o,q,r,s,u⟩:=h;have b:∀j,j≠G (Q w)+1->(Rp wr ⟨G (Q w)+1,7+k,J⟩ (I Y v')).heap[j]?=wr.heap[j]?:=fun j x=>Below.heap_setCell wr ⟨G (Q w)+1,7+k,J⟩ _ j x;have d:(Rp wr ⟨G (Q w)+1,7+k,J⟩ (I Y v')).heap.size=G (Q wr):=QO _ _ _;refine⟨i,m,?_,?_,?_,r,s.setCell (p:=⟨G (Q w)+1,7+k,J⟩) (by simp) _,u.iI (b _ (by omega))⟩
 .have:=QN _ _ (7+k) (I Y v') h1;obtain rfl|rfl|rfl:k=0\/k=1\/k=2:=by omega
  all_goals exact this
 .rw[d];exact o.iI (by omega) fun k C t y hk _ hF=>b k (by have:=hF.1;omega)
 .rw[d];exact q.iI (by omega) fun k C t y hk _ hF=>b k (by have:=hF.1;omega)
theorem Eg.drew{v:Int}(h:Eg w n l k v wr):Eg w n l k v wr.drew:=by obtain⟨b,d,h1,i,j,m,o,q⟩:=h;exact⟨b,d,h1,i,j,m,o.drew,q⟩
theorem Eg.kQ(h:Eg w n l 3 0 wr):iU wr (fun k=>G (Q w)<=k/\k<G (Q wr)) (G (Q w)+1) (rX n (gY l))/\Q8 (G (Q w)) w wr:=by
 obtain⟨q,r,h1,d,i,j,m,o⟩:=h;have b:=gm h1;refine⟨⟨_,⟨h1,rfl,rfl,?_,o,gS.nil _ _ _,gQ.nil _ _,⟨aJ _,aJ _⟩,⟨by show -1<=(-1:Int);omega,by show(-1:Int)<=_;omega⟩⟩,rfl,rfl,d.mono fun k hk=>⟨by omega,hk.2⟩,i.mono fun k hk=>⟨by omega,hk.2⟩,pg.nil _ _,j,⟨⟨by omega,b⟩,⟨aq _,show(G (Q w))<_ by omega⟩,fun k e=>by simp[DH,Value.ownBlock]at e⟩,fun k hk=>hk.2⟩,m⟩;funext t
 match t with
 | 0=>rfl
 | 1=>rfl
 | t+2=>rfl
theorem GF(q:Int)(l:List Int)(rv:Q4)(w:Q0)(hr:gE w rv 1 (O l) (l.map fun i=>I Y i))(n:Nat)(hn:(n:Int)=min (max q 32) 128):
  Rg prog 59 #[I Y q,rv] w fun e w'=>∃h,e=.returned (.pointer (N ⟨h,0,J⟩))/\iU w' (fun k=>G (Q w)<=k/\k<G (Q w')) h (rX n (gY l))/\Q8 (G (Q w)) w w':=by
 have e6:=@run_makeMap prog;have HN:=gj hn;have e7:32<=n/\n<=128:=by omega
 have HR:=gj hr;obtain⟨-,ra,rc,rfl,e8,-⟩:=hr;clear hn;go_enter func59,ntmps59;go_wp2;rw[<-HN.o];have cc:Q8 (G (Q w)) w ((Ro w (.map #[] 0)).alloc (Q1 #[Q6 J 0 0,Q6 J 0 0,Q6 J 0 0,I Y (-1),I Y (-1),Rh false,I Y 0,I Y 0,I Y 0,I Y 0,.map (N (G (Q w))),Q6 J 0 0] 125)):=((gJ w).alloc gH _).alloc (by simp) _;have R1:=gB (Ro w (.map #[] 0)) (Q1 #[Q6 J 0 0,Q6 J 0 0,Q6 J 0 0,I Y (-1),I Y (-1),Rh false,I Y 0,I Y 0,I Y 0,I Y 0,.map (N (G (Q w))),Q6 J 0 0] 125);rw[aj]at R1;have T0:=(iE.new w).iI (heap_alloc_old (Ro w (.map #[] 0)) (Q1 #[Q6 J 0 0,Q6 J 0 0,Q6 J 0 0,I Y (-1),I Y (-1),Rh false,I Y 0,I Y 0,I Y 0,I Y 0,.map (N (G (Q w))),Q6 J 0 0] 125) (by simp));have a8:gy (De w 0 ((Ro w (.map #[] 0)).alloc (Q1 #[Q6 J 0 0,Q6 J 0 0,Q6 J 0 0,I Y (-1),I Y (-1),Rh false,I Y 0,I Y 0,I Y 0,I Y 0,.map (N (G (Q w))),Q6 J 0 0] 125))):=gj ⟨Q6 J 0 0,Q6 J 0 0,R1,iX.nil _ _,iX.nil _ _,fun k e=>by simp[Value.ownBlock]at e,cc,T0⟩;clear cc R1 T0
 have e9:∀w,(Instr.makeSlice 112 (I Y 64) (I Y 64)).run prog w=.ok (Q6 (N ⟨G (Q w),0,J⟩) 64 64) (Ro w (Q1 (madeCells #[I Rf 0] 64) 5)):=fun w=>
  run_make_row' 112 5 (I Rf 0) 1 underlying112 (by kernel_rfl) rfl Y Y 64 (by omega) (by omega) w
 go_loopw [13] (fun i wr=>∃k:Nat,k<=n/\i=I Y (k:Int)/\De w k wr) (fun i _=>n-(intOf i).toNat)
 case atStart=>exact⟨0,aJ _,rfl,a8.o⟩
 case round=>
  obtain⟨k,hk,rfl,cd⟩:=hrel;have ak:=gj cd;obtain⟨hv,sv,r1,r2,r3,r4,r5,r6⟩:=cd;have a9:=gj r1;have ds:=gj r2;have dv:=gj r3;have ba:=gj r4;have bb:=gj r5;have bc:=gj r6;have ce:=r5.size;have M:G (Q w)+2<=G (Q wr):=gm r1;unfold iQ HV.cells DH at r1;simp only at r1;have cg:=gm r1;obtain⟨vals,v1,v2,v3,v4⟩:=r2;obtain⟨b9,s1,s2,s3,s4⟩:=r3;rw[bV]at v1 s1;obtain⟨va,vc,rfl⟩:=v1.shape;obtain⟨R,U,rfl⟩:=s1.shape;have c0:Rn wr ⟨G (Q w)+1,0,J⟩=N (Q6 va k vc):=gr 0 r1;have ci:=gD 0 r1;have am:=gj v1;have ap:=gj v2;have av:=gj v3;have bl:=gj v4;have bn:=gj s1;have bo:=gj s2;have br:=gj s3;have bs:=gj s4;have bt:=gj (v2.ne r1 (by decide));have bv:=gj (s2.ne r1 (by decide));clear r1 r4 r5 r6 v1 v2 v3 v4 s1 s2 s3 s4 a8;by_cases fb:k<n
  .have g1:(k:Int)<n:=by omega
   have aE:=fun o o'=>gj (Below.drew (Below.al (Below.al (Below.rf wr) o) o'));have V:=gj (BU (Ro wr (Q1 (madeCells #[I Rf 0] 64) 5)) (Q6 (N ⟨G (Q wr),0,J⟩) 64 64));rw[aj]at V;have a0:=fun o=>gj (iK o c0);have a1:=fun o o'=>gj (iK o' (iK o c0));go_wp2;refine jI (n:=10) (S:=(fun w'=>Rn w' ⟨G (Q w)+1,0,J⟩=N (Q6 va k vc))) (by kernel_rfl) (by kernel_rfl) rfl (by first|exact c0|exact(a0 _).out|exact(a1 _ _).out) ?_;intro X;simp only[cJ,b7,bC,cO,aN,bp,bd,bf,bK,aQ,aV];refine lS [0,1,2,3,4] ?_
   repeat(refine jx (v:=?_) rfl (by kernel_rfl) (by assumption) (by rfl) (fun _ _ _ h=>h) ?_ ?_;rotate_left 1;(· intro w d;(try dsimp only at d);go_simp;(try with_reducible rfl));try simp only[Act.put,List.setIfInBounds_toArray,List.set_cons_zero,List.set_cons_succ])
   refine ka ?_;refine iT 5 (by kernel_rfl) rfl ?_;intro K' hK';go_simp;refine hK'.out _ _ (by first|exact c0|exact(a0 _).out|exact(a1 _ _).out) ?_;clear hK' K';intro Z
   try simp only[az,aG,aK]
   refine iT 6 (by kernel_rfl) rfl ?_;intro K' hK';go_simp;refine hK'.out _ _ (by first|exact c0|exact(a0 _).out|exact(a1 _ _).out) ?_;clear hK' K';intro aa
   try simp only[az,aG,aK]
   refine iT 7 (by kernel_rfl) rfl ?_;intro K' hK';refine o6 rfl (.tmp 19) (.tmp 21) 120 112 1 24 (Q6 J 0 0) underlying120 Gl rfl (by decide) rfl 0 (Q6 va k vc) k vals rfl (by exact am.o.below (aE _ _).out) (by exact ap.o.frame fun b _ hb=>(aE _ _).out.block b hb) 1 [Q6 (N ⟨G (Q wr),0,J⟩) 64 64] (by exact V.o) (by intro u hu;simp at hu;rw[hu];rfl) (by omega) (by omega) ux ?_;intro v7 w7 r bx bz cl;obtain⟨bA,bB,rfl⟩:=r.shape;have bD:=gj bx;have cm:=gj r;have cn:=gj bz;have co:=gj cl;have bE:=lR bx bt.o (gP _ _ (gP _ _ a9.o));have a2:=gj bE;have c7:Rn w7 ⟨G (Q w)+1,0,J⟩=N (Q6 va k vc):=gr 0 bE;clear r bx bz cl bE;refine hK'.out _ _ c7 ?_;clear hK' K';intro bH
   try simp only[Act.put,az,aG,aK]
   refine lS [8,9] ?_
   repeat(refine jx (v:=?_) rfl (by kernel_rfl) (by assumption) (by rfl) (fun _ _ _ h=>h) ?_ ?_;rotate_left 1;(· intro w d;(try dsimp only at d);go_simp;(try with_reducible rfl));try simp only[Act.put,List.setIfInBounds_toArray,List.set_cons_zero,List.set_cons_succ])
   refine ka ?_;refine wpAnyH_done (by kernel_rfl) ?_ _;show Oper.wp _ _ _ _ _ _;have d2:=gD 0 a2.o;have d3:=gm a2.o;go_wp2_with fail;generalize cp:Rp w7 ⟨G (Q w)+1,0,J⟩ (Q6 bA (k+1) bB)=w8;have y:∀x,(Q6 va k vc).ownBlock=N x->x<G (Q wr):=fun x e=>(av.o x e).2;have B:=(gR.gO (S:=fun x=>(Q6 va k vc).ownBlock=N x) (aE (Q1 (madeCells #[I Rf 0] 64) 5) (Q1 #[Q6 (N ⟨G (Q wr),0,J⟩) 64 64] 112)).out).trans (nJ bD.o);have C:=lR bD.o (b:=G (Q wr)) (fun e=>absurd (y _ e) (dt _)) (gP (Ro wr (Q1 (madeCells #[I Rf 0] 64) 5)) (Q1 #[Q6 (N ⟨G (Q wr),0,J⟩) 64 64] 112) (gB wr (Q1 (madeCells #[I Rf 0] 64) 5)));have d4:=Nc (rows:=List.replicate k kL) (orows:=List.replicate k kL) (i:=0) bb.o M a2.o (by rw[bV];exact am.o) ap.o av.o bl.o ⟨b9,by rw[bV];exact bn.o,bo.o,br.o,bs.o⟩ ba.o bc.o B C (by rw[bV];exact cm.o) cn.o (fun b e=>(co.o b e).imp id fun e=>by rw[e];show _<=(World.alloc (World.alloc wr _) _).heap.size;rw[aj,aj];omega) cp.symm;obtain⟨n1,n2,n3,n4,n5,n6,n7⟩:=d4;have m:iQ w8 (G (Q w)+1) (DH (Q6 bA (k+1) bB) (Q6 R k U) (G (Q w)) 0 0 0):=n6;obtain⟨bN,s1,s2,s3,s4⟩:=n2;rw[bV]at s1;have bO:G (Q w)+2<=G (Q w8):=by omega
   have d0:Rn w8 ⟨G (Q w)+1,1,J⟩=N (Q6 R k U):=gr 1 m;have fd:=gD 1 m;have cq:=gj s1;have cr:=gj s2;have cs:=gj s3;have d5:=gj s4;have J1:=gj n1;have J3:=gj n3;have J4:=gj n4;have J5:=gj n5;have J6:=gj m;have d7:=gj (s2.ne m (by decide));have d8:=gj bO;have ag:=fun o o'=>gj (Below.drew (Below.al (Below.al (Below.rf w8) o) o'));have a3:=gj (BU (Ro w8 (Q1 (madeCells #[I Rf 0] 64) 5)) (Q6 (N ⟨G (Q w8),0,J⟩) 64 64));rw[aj]at a3;have bP:=fun o=>gj (iK o d0);have bR:=fun o o'=>gj (iK o' (iK o d0));clear s1 s2 s3 s4 n1 n3 n4 n5 n6 m n7 B C bO cp X Z aa bH c7 d2 d3 c0 ci a0 a1 V aE ce M cg bD cm cn co a2 am ap av bl bn bo br bs bt bv a9 ba bb bc y;have fg:=gj (gm J6.o);refine jI (n:=10) (S:=(fun w'=>Rn w' ⟨G (Q w)+1,1,J⟩=N (Q6 R k U))) (by kernel_rfl) (by kernel_rfl) rfl (by first|exact d0|exact(bP _).out|exact(bR _ _).out) ?_;intro X;simp only[cJ,b7,bC,cO,aN,bp,bd,bf,bK,aQ,aV];refine lS [0,1,2,3,4] ?_
   repeat(refine jx (v:=?_) rfl (by kernel_rfl) (by assumption) (by rfl) (fun _ _ _ h=>h) ?_ ?_;rotate_left 1;(· intro w d;(try dsimp only at d);go_simp;(try with_reducible rfl));try simp only[Act.put,List.setIfInBounds_toArray,List.set_cons_zero,List.set_cons_succ])
   refine ka ?_;refine iT 5 (by kernel_rfl) rfl ?_;intro K' hK';go_simp;refine hK'.out _ _ (by first|exact d0|exact(bP _).out|exact(bR _ _).out) ?_;clear hK' K';intro Z
   try simp only[az,aG,aK]
   refine iT 6 (by kernel_rfl) rfl ?_;intro K' hK';go_simp;refine hK'.out _ _ (by first|exact d0|exact(bP _).out|exact(bR _ _).out) ?_;clear hK' K';intro aa
   try simp only[az,aG,aK]
   refine iT 7 (by kernel_rfl) rfl ?_;intro K' hK';refine o6 rfl (.tmp 29) (.tmp 31) 120 112 1 24 (Q6 J 0 0) underlying120 Gl rfl (by decide) rfl 0 (Q6 R k U) k bN rfl (by exact cq.o.below (ag _ _).out) (by exact cr.o.frame fun b _ hb=>(ag _ _).out.block b hb) 1 [Q6 (N ⟨G (Q w8),0,J⟩) 64 64] (by exact a3.o) (by intro u hu;simp at hu;rw[hu];rfl) (by omega) (by omega) ux ?_;intro v9 w9 s bS bX ct;obtain⟨cu,cv,rfl⟩:=s.shape;have b0:=gj bS;have cB:=gj s;have c1:=gj bX;have c2:=gj ct;have b1:=lR bS d7.o (gP _ _ (gP _ _ J6.o));have a4:=gj b1;have c9:Rn w9 ⟨G (Q w)+1,1,J⟩=N (Q6 R k U):=gr 1 b1;clear s bS bX ct b1;refine hK'.out _ _ c9 ?_;clear hK' K';intro bH
   try simp only[Act.put,az,aG,aK]
   refine lS [8,9] ?_
   repeat(refine jx (v:=?_) rfl (by kernel_rfl) (by assumption) (by rfl) (fun _ _ _ h=>h) ?_ ?_;rotate_left 1;(· intro w d;(try dsimp only at d);go_simp;(try with_reducible rfl));try simp only[Act.put,List.setIfInBounds_toArray,List.set_cons_zero,List.set_cons_succ])
   refine ka ?_;refine wpAnyH_done (by kernel_rfl) ?_ _;show Oper.wp _ _ _ _ _ _;have ec:=gD 1 a4.o;have ed:=gm a4.o;go_wp2_with fail;generalize b2:Rp w9 ⟨G (Q w)+1,1,J⟩ (Q6 cu (k+1) cv)=w10;have y:∀x,(Q6 R k U).ownBlock=N x->x<G (Q w8):=fun x e=>(cs.o x e).2;have B:=(gR.gO (S:=fun x=>(Q6 R k U).ownBlock=N x) (ag (Q1 (madeCells #[I Rf 0] 64) 5) (Q1 #[Q6 (N ⟨G (Q w8),0,J⟩) 64 64] 112)).out).trans (nJ b0.o);have C:=lR b0.o (b:=G (Q w8)) (fun e=>absurd (y _ e) (dt _)) (gP (Ro w8 (Q1 (madeCells #[I Rf 0] 64) 5)) (Q1 #[Q6 (N ⟨G (Q w8),0,J⟩) 64 64] 112) (gB w8 (Q1 (madeCells #[I Rf 0] 64) 5)));have eg:=Nc (rows:=List.replicate k kL) (orows:=List.replicate k kL++[kL]) (i:=1) J4.o d8.o a4.o (by rw[bV];exact cq.o) cr.o cs.o d5.o J1.o (fun x e e2=>J3.o x e2 e) J5.o B C (by rw[bV];exact cB.o) c1.o (fun b e=>(c2.o b e).imp id fun e=>by rw[e];show _<=(World.alloc (World.alloc w8 _) _).heap.size;rw[aj,aj];omega) b2.symm;obtain⟨n1,n2,n3,n4,n5,n6,n7⟩:=eg;have m:iQ w10 (G (Q w)+1) (DH (Q6 bA (k+1) bB) (Q6 cu (k+1) cv) (G (Q w)) 0 0 0):=n6;have cb:gy (De w (k+1) w10):=gj ⟨_,_,m,by rw[List.replicate_succ'];exact n2,by rw[List.replicate_succ'];exact n1,fun x e e2=>n3 x e2 e,n4,n5⟩;have fi:gy (G (Q w8)<=G (Q w10)):=gj n7;clear B C y n1 n2 n3 n4 n5 n6 m n7 b2 b0 cB c1 c2 a4 c9 ec ed;go_wp2;go_roundw
   case rel=>exact⟨k+1,by omega,rfl,cb.o⟩
   case measure=>simp[intOf];omega
  .have g1:¬((k:Int)<n):=by omega
   obtain rfl:k=n:=by omega
   have ej:gy (Eg w k l 0 0 wr):=gj (De.Qs (ak.o));have fk:=bb;clear a9 ds dv ba bc am ap av bl bn bo br bs bt bv c0 ci ce M cg ak;go_wp2;go_loopw [36] (fun i el=>∃j:Nat,j<=3/\i=I Y (j:Int)/\Eg w k l j 0 el) (fun i _=>3-(intOf i).toNat)
   case atStart=>exact⟨0,aJ _,rfl,ej.o⟩
   case round=>
    obtain⟨j,hj,rfl,hR⟩:=hrel;have b3:=gj hR;clear hR;by_cases D:j<3
    .have g2:(j:Int)<3:=by omega
     have c3:=b3.o.cell D;have fl:=c3.1;have fn:=c3.2;have E:gy (Eg w k l j 40 (Rp wr ⟨G (Q w)+1,7+j,J⟩ (I Y 40))):=gj (b3.o.set D 40);have b4:∀W,Eg w k l j (p5 l j) W->Eg w k l (j+1) 0 W:=fun W h=>h.next;by_cases a5:j<O l
     .have g3:(j:Int)<(O l:Int):=by omega
      have c4:Q8 (G (Q w)) w (Rp wr ⟨G (Q w)+1,7+j,J⟩ (I Y 40)):=by obtain⟨_,_,_,_,_,_,h5,_⟩:=E.o;exact h5
      have en:=gE.below HR.o c4;obtain⟨-,_,_,e0,-,c5⟩:=en;injection e0 with e1 e2 e3;subst e1;obtain⟨g,off,rfl,F⟩:=c5 j (by rw[aB];exact a5);rw[eA]at F;clear c5 c4 e3;have b5:=gj (show p5 l j=min (max l[j] 0) 40 by unfold p5;rw[aw a5,aD,ah a5];rfl);have b6:=(E.o.cell D).1;have fo:=(E.o.cell D).2;generalize eo:l[j]=x at F;go_wp2;refine jI (n:=11) (S:=(fun w'=>Rn w' ⟨G (Q w)+1,7+j,J⟩=N (I Y 40)/\Rn w' ⟨g,off+j,J⟩=N (I Y x))) (by kernel_rfl) (by kernel_rfl) rfl (by exact⟨b6,F⟩) ?_;intro X;simp only[cJ,b7,bC,cO,aN,bp,bd,bf,bK,aQ,aV];refine lS [0,1,2,3,4,5,8,9] ?_
      repeat(refine jx (v:=?_) rfl (by kernel_rfl) (by assumption) (by rfl) (fun _ _ _ h=>h) ?_ ?_;rotate_left 1;(· intro w d;(try dsimp only at d);go_simp;(try with_reducible rfl));try simp only[Act.put,List.setIfInBounds_toArray,List.set_cons_zero,List.set_cons_succ])
      refine ka ?_;refine iT 6 (by kernel_rfl) rfl ?_;intro K' hK';go_simp;refine hK'.out _ _ (by exact⟨b6,F⟩) ?_;clear hK' K';intro Z
      try simp only[az,aG,aK]
      refine iT 7 (by kernel_rfl) rfl ?_;intro K' hK';go_simp;refine hK'.out _ _ (by exact⟨b6,F⟩) ?_;clear hK' K';intro aa
      try simp only[az,aG,aK]
      refine lS [10] ?_
      repeat(refine jx (v:=?_) rfl (by kernel_rfl) (by assumption) (by rfl) (fun _ _ _ h=>h) ?_ ?_;rotate_left 1;(· intro w d;(try dsimp only at d);go_simp;(try with_reducible rfl));try simp only[Act.put,List.setIfInBounds_toArray,List.set_cons_zero,List.set_cons_succ])
      refine ka ?_;refine wpAnyH_done (by kernel_rfl) ?_ _;show Oper.wp _ _ _ _ _ _;go_wp2;refine⟨⟨j+1,by omega,rfl,b4 _ ?_⟩,by simp[intOf];omega⟩;subst eo;rw[b5.o];exact(E.o.set D _).drew
     .have g3:¬((j:Int)<(O l:Int)):=by omega
      have b5:p5 l j=40:=by unfold p5;rw[af a5]
      go_wp2;refine⟨⟨j+1,by omega,rfl,b4 _ (by rw[b5];exact E.o)⟩,by simp[intOf];omega⟩
    .have g2:¬((j:Int)<3):=by omega
     obtain rfl:j=3:=by omega
     go_wp2;refine ai (v:=.pointer (N ⟨G (Q w)+1,0,J⟩)) (by simp[results]) rfl ⟨_,rfl,b3.o.kQ⟩
def xI(k:K):Prop:=0<=k.1/\k.1<3
instance (k:K):Decidable (xI k):=inferInstanceAs (Decidable (_/\_))
def yT(room:Nat->Int)(S:List E)(x:E):List E:=
 if xI x.1 then(if(ku x.1 S).isSome || decide ((iq x.1.1 S:Int)<room x.1.1.toNat)then nf x.1 x.2 S else S)else S
theorem vg(l:List Int)(t:Nat):0<=p5 l t/\p5 l t<=40:=by unfold p5;split<;>omega
theorem oA(l:List Int)(t:Nat):0<=gY l t/\gY l t<=40:=by
 match t with
 | 0=>exact vg l 0
 | 1=>exact vg l 1
 | _+2=>exact vg l 2
theorem NA(l:List Int)(t:Nat)(h:t<3):gY l t=p5 l t:=by
 match t with
 | 0=>rfl
 | 1=>rfl
 | 2=>rfl
structure qt(room:Nat->Int)(P:E->Prop)(S:List E):Prop where
 sorted:gM S
 jh:∀x∈S,xI x.1
 room:∀t:Nat,t<3->(iq (t:Int) S:Int)<=room t
 mem:∀x∈S,P x
theorem Il{k:K}{v:gw}(b:gM S)(hk:(ku k S).isSome=true)(t:Int):iq t (nf k v S)<=iq t S:=by
 refine yu (kG _ _ b) (fun x d=>?_) t;rcases(mF k v S x).1 d with rfl|⟨h,-⟩
 .obtain⟨u,i⟩:=cR.1 hk;exact aA.2 ⟨_,(se b.qM k u).1 i,rfl⟩
 .exact aA.2 ⟨x,h,rfl⟩
theorem Et{k:K}{v:gw}{t:Int}(i:gM S)(j:k.1≠t):iq t (nf k v S)<=iq t S:=by
 rw[sb,sb];refine uS ((kG k v i).qM.filter _) fun y d=>?_;obtain⟨d,b⟩:=cF.1 d;obtain⟨x,l,rfl⟩:=aA.1 d;rcases(mF k v S x).1 l with rfl|⟨h,-⟩
 .exact absurd (dh b) j
 .exact cF.2 ⟨aA.2 ⟨x,h,rfl⟩,b⟩
theorem qt.step{room:Nat->Int}(h:qt room P S){x:E}(j:P x):qt room P (yT room S x):=by
 unfold yT;by_cases d:xI x.1
 .rw[aw d];by_cases hc:((ku x.1 S).isSome || decide ((iq x.1.1 S:Int)<room x.1.1.toNat))=true
  .rw[aw hc];refine⟨kG _ _ h.sorted,fun y i=>?_,fun t l=>?_,fun y i=>?_⟩
   .rcases(mF x.1 x.2 S y).1 i with rfl|⟨h1,-⟩
    .exact d
    .exact h.jh y h1
   .have h1:=h.room t l;by_cases he:x.1.1=(t:Int)
    .rcases cP (ku x.1 S).isSome with b|b
     .have:=Il (v:=x.2) h.sorted b (t:Int);omega
     .rw[b,Bool.false_or,dI,he]at hc;have m:=AO (v:=x.2) h.sorted (eY.1 (by rw[b];decide));rw[he]at m;rw[cj]at hc;omega
    .have:=Et (v:=x.2) h.sorted he;omega
   .rcases(mF x.1 x.2 S y).1 i with rfl|⟨h1,-⟩
    .exact j
    .exact h.mem y h1
  .rw[af hc];exact h
 .rw[af d];exact h
theorem FV(h:∀x∈S,xI x.1):O S=iq 0 S+iq 1 S+iq 2 S:=by
 induction S with
 | nil=>rfl
 | cons x S ih=>
  have h1:=ih fun y d=>h y (by simp[d]);obtain⟨i,j⟩:=h x (by simp);unfold iq at h1⊢;rw[fD,fD,fD,ao,h1];have b:x.1.1=0\/x.1.1=1\/x.1.1=2:=by omega
  rcases b with b|b|b<;>simp[b]<;>omega
theorem qt.len(h:qt (gY l) P S):O S<=120:=by have b:=h.room 0 (by omega);have h1:=h.room 1 (by omega);have d:=h.room 2 (by omega);have b0:=(oA l 0).2;have o:=(oA l 1).2;have b2:=(oA l 2).2;have e:=FV h.jh;have i:((iq 0 S:Nat):Int)<=gY l 0:=b;have j:((iq 1 S:Nat):Int)<=gY l 1:=h1;have m:((iq 2 S:Nat):Int)<=gY l 2:=d;omega
theorem BC{room:Nat->Int}(h:pT S room=J):∀t:Nat,t<3->(iq (t:Int) S:Int)<=room t:=by
 unfold pT at h;split at h
 .cases h
 .split at h
  .cases h
  .split at h
   .cases h
   .intro t b
    match t,b with
    | 0,_=>show((iq 0 S:Nat):Int)<=_;omega
    | 1,_=>show((iq 1 S:Nat):Int)<=_;omega
    | 2,_=>show((iq 2 S:Nat):Int)<=_;omega
def Dq(h w:List E):List gw:=(lU h w).map um
theorem OU(d:jz)(T:List E)(b:d.ir=false)(i:gM d.S)(j:gM T)(hk:∀x∈T,xI x.1)(l:pT T d.room=J):d.run (lU d.S T)=d.Fo (lU d.S T) (lU d.S T).length:=by
 have:=jz.Hb d T b i j hk (BC l) (lU d.S T).length gH
 rwa [aM]at this
theorem NY(d:jz)(os:List wF)(h:d.left<0):(d.Fo os (O os)).S=nj d.S os/\(d.Fo os (O os)).iF=d.iF++os.map um:=by unfold jz.Fo;rw[aw h,aM];exact⟨rfl,rfl⟩
theorem Ir(h w:List E)(k:Nat)(hk:k<O h):oh (h.take (k+1)) w=oh (h.take k) w++if(ku h[k].1 w).isNone then [h[k]]else []:=by unfold oh;rw[aC hk,dB,eQ];cases(ku h[k].1 w).isNone<;>rfl
theorem LC(h w:List E)(k:Nat)(hk:k<O w):rY h (w.take (k+1))=rY h (w.take k)++if w[k]∈h then []else [w[k]]:=by unfold rY;rw[aC hk,dB,eQ];by_cases hm:w[k]∈h<;>simp[hm]
theorem NN(d:jz)(o:wF)(y:E)(h:y∈(d.step o).S):y∈d.S\/o=(y.1,N y.2):=by
 obtain⟨k,v⟩:=o;have b:d.stop.S=d.S:=rfl;cases v with
 | none=>
  unfold jz.step jz.drop at h;simp only at h;split at h
  .exact .inl h
  .exact .inl ((qE k _ y).1 h).1
 | some v=>
  unfold jz.step jz.put at h;simp only at h;split at h
  .exact .inl h
  .split at h
   .rcases(mF k v _ y).1 h with rfl|⟨h,-⟩
    .exact .inr rfl
    .exact .inl h
   .exact .inl h
theorem Kt:∀(os:List wF) (d:jz) (y:E),y∈(d.run os).S->y∈d.S\/(y.1,N y.2)∈os
 | [],_,_,h=>.inl h
 | o::os,d,y,h=>by
  rcases Kt os (d.step o) y h with h|h
  .rcases NN d o y h with h|h
   .exact .inl h
   .exact .inr (by rw[h];exact cy)
  .exact .inr (aR _ h)
theorem Nk{h w:List E}{y:E}(hm:(y.1,N y.2)∈lU h w):y∈w:=by
 unfold lU at hm;rw[bQ]at hm;rcases hm with hm|hm
 .obtain⟨x,-,e⟩:=aA.1 hm;injection e with d b;cases b
 .obtain⟨x,i,e⟩:=aA.1 hm;injection e with d b;injection b with j;have:x=y:=Prod.ext d j;rw[<-this];exact((qF x).1 i).1
theorem L5(d:jz)(o:wF):(d.step o).room=d.room:=by
 obtain⟨k,v⟩:=o;cases v with
 | none=>unfold jz.step jz.drop;simp only;split<;>rfl
 | some v=>
  unfold jz.step jz.put;simp only;split
  .rfl
  .split<;>rfl
theorem Ha:∀(os:List wF) (d:jz),(d.run os).room=d.room
 | [],_=>rfl
 | o::os,d=>(Ha os (d.step o)).trans (L5 d o)
def qu(s:gw)(at':Nat)(b:List K)(v:Q4):Prop:=
 match jK s at' b with
 | .inl (o,tq)=>v=Rc #[ud o,I Y tq,Q9 #[I Y 0,I Y 0]]
 | .inr (k,p)=>∃o,v=Rc #[ud o,I Y 0,Q9 #[I Y k,I Y p]]
theorem yY{o:kv}{tq:Nat}(h:jK s at' b=.inl (o,tq))(d:v=Rc #[ud o,I Y tq,Q9 #[I Y 0,I Y 0]]):qu s at' b v:=by unfold qu;rw[h];exact d
theorem od(o:kv){p:Nat}(h:jK s at' b=.inr (k,p))(d:v=Rc #[ud o,I Y 0,Q9 #[I Y k,I Y p]]):qu s at' b v:=by unfold qu;rw[h];exact⟨o,d⟩
theorem uC(s:gw)(at':Nat)(d:Q4)(b:List K)(w:Q0)(q:O s<=9223372036854770000)(ha:at'<=O s)(m:O s<at'+2):
  Rg prog 161 #[Q7 ⟨Rm s⟩,I Y at',d] w fun e w'=>(∃v,e=.returned v/\qu s at' b v)/\Q8 (G (Q w)) w w':=by
 have hc:jK s at' b=.inr (1,at'):=by
  unfold jK;split
  .rename_i x y r i;have:=(QS i).2;omega
  .rfl
 have j:=gj hc;clear hc;have l:(O s:Int)<at'+2:=by omega
 go_enter func161,ntmps161;go_wp2;refine ai (v:=Rc #[ud ⟨0,0,[],[]⟩,I Y 0,Q9 #[I Y 1,I Y at']]) (by simp[results,results161,go_sem,ud]) rfl ⟨⟨_,rfl,od _ j.o rfl⟩,?_⟩;exact(((gJ w).alloc gH _).alloc (by simp) _).alloc (by simp;omega) _
theorem BI(s:gw)(at':Nat)(x y:UInt8)(r:gw)(C:Q4)(us:List kv)(w:Q0)(S:O s<=9223372036854770000)(b:s.drop at'=x::y::r)(q:x.toNat<1\/2<x.toNat\/2<y.toNat):
  Rg prog 161 #[Q7 ⟨Rm s⟩,I Y at',C] w fun e w'=>(∃v,e=.returned v/\qu s at' (iY us) v)/\Q8 (G (Q w)) w w':=by
 obtain⟨i,d⟩:=QS b;have j:s[at']?=N x:=by have:=bm (fun l=>l[0]?) b;simpa using this
 have m:s[at'+1]?=N y:=by have:=bm (fun l=>l[1]?) b;simpa using this
 have U:=x.toNat_lt;have V:=y.toNat_lt;have i0:∀w,(Instr.index 9 (Q7 ⟨Rm s⟩) (I Y (at':Int))).run prog w=.ok (I Rf x.toNat) w:=fun w=>gW underlying9 _ _ _ x (by omega) (by rw[cj];exact j) w;have i1:∀w,(Instr.index 9 (Q7 ⟨Rm s⟩) (I Y ((at':Int)+1))).run prog w=.ok (I Rf y.toNat) w:=fun w=>gW underlying9 _ _ _ y (by omega) (by rw[show((at':Int)+1).toNat=at'+1 by omega];exact m) w;have M:¬(O s:Int)<at'+2:=by omega
 have B:O s=at'+2+O r:=d;clear j m d;have D:=gj b;have R:=gj i;clear b i;have E:gy (jK s at' (iY us)=.inr (6,at')):=gj (by unfold jK;rw[D.o];simp only;rw[aw q]);have u:(x.toNat:Int)<1\/((1:Int)<=x.toNat/\(3:Int)<=x.toNat)\/((1:Int)<=x.toNat/\(x.toNat:Int)<=2/\(3:Int)<=y.toNat):=by omega
 clear q;rcases u with h1|⟨h1,F⟩|⟨h1,F,W⟩
 all_goals
  go_enter func161,ntmps161;go_wp2;refine ai (v:=Rc #[ud ⟨x.toNat,y.toNat,[],[]⟩,I Y 0,Q9 #[I Y 6,I Y at']]) (by simp[results,results161,go_sem,ud]) rfl ⟨⟨_,rfl,od _ E.o rfl⟩,?_⟩;exact(((gJ w).alloc gH _).alloc (by simp) _).alloc (by simp;omega) _
theorem xK(T:Int):2<=gL T/\gL T<=6:=by unfold gL;split<;>(try split)<;>omega
theorem Fp(T:Int):2<=iu T/\iu T<=4:=by unfold iu;split<;>(try split)<;>omega
theorem wY(s:gw)(at':Nat)(x y:UInt8)(r:gw)(D:Q4)(q:List K)(w:Q0)(S:O s<=9223372036854770000)(b:s.drop at'=x::y::r)(h1:1<=x.toNat)(U:x.toNat<=2)(V:y.toNat<=2)(hk:O r<gL y.toNat):
  Rg prog 161 #[Q7 ⟨Rm s⟩,I Y at',D] w fun e w'=>(∃v,e=.returned v/\qu s at' q v)/\Q8 (G (Q w)) w w':=by
 obtain⟨u,m⟩:=QS b;have d:s[at']?=N x:=by have:=bm (fun l=>l[0]?) b;simpa using this
 have i:s[at'+1]?=N y:=by have:=bm (fun l=>l[1]?) b;simpa using this
 have W:=x.toNat_lt;have X:=y.toNat_lt;have i0:∀w,(Instr.index 9 (Q7 ⟨Rm s⟩) (I Y (at':Int))).run prog w=.ok (I Rf x.toNat) w:=fun w=>gW underlying9 _ _ _ x (by omega) (by rw[cj];exact d) w;have i1:∀w,(Instr.index 9 (Q7 ⟨Rm s⟩) (I Y ((at':Int)+1))).run prog w=.ok (I Rf y.toNat) w:=fun w=>gW underlying9 _ _ _ y (by omega) (by rw[show((at':Int)+1).toNat=at'+1 by omega];exact i) w;have F:¬(O s:Int)<at'+2:=by omega
 have E:gy (jK s at' q=.inr (1,at'+2)):=gj (by unfold jK;rw[b];simp only;rw[af (by omega),aw hk]);have Z:(1:Int)<=x.toNat:=by omega
 have j2:(x.toNat:Int)<=2:=by omega
 have j3:(y.toNat:Int)<=2:=by omega
 obtain⟨M,R⟩:=xK y.toNat;have j:=fun w=>k9 (y.toNat:Int) w (by omega) (by omega);have B:(O s:Int)<at'+2+(gL y.toNat:Int):=by omega
 generalize gL y.toNat=kl at *
 generalize iu y.toNat=vl at *
 have C:=gj j;clear j b u d i m;go_enter func161,ntmps161;go_wp2_with (go_at_call 181;refine(C.o _).mono ?_;rintro e w' ⟨rfl,rfl⟩);refine ai (v:=Rc #[ud ⟨x.toNat,y.toNat,[],[]⟩,I Y 0,Q9 #[I Y 1,I Y (at'+2)]]) (by simp[results,results161,go_sem,ud]) rfl ⟨⟨_,rfl,od _ E.o rfl⟩,?_⟩;exact(((gJ w).alloc gH _).alloc (by simp) _).alloc (by simp<;>omega) _
theorem CR(s:gw)(at':Nat)(x y:UInt8)(r:gw)(sv:Q4)(us:List kv)(w:Q0)(hs:O s<=9223372036854770000)(hd:s.drop at'=x::y::r)(h1:1<=x.toNat)(h2:x.toNat<=2)(h3:y.toNat<=2)(hk:¬(O r)<gL y.toNat)(a4:jE w sv us)(hl:O us<=100):
  Rg prog 161 #[Q7 ⟨Rm s⟩,I Y at',sv] w fun e w'=>(∃v,e=.returned v/\qu s at' (iY us) v)/\Q8 (G (Q w)) w w':=by
 obtain⟨a5,bc⟩:=QS hd;have a6:s[at']?=N x:=by have:=bm (fun l=>l[0]?) hd;simpa using this
 have a7:s[at'+1]?=N y:=by have:=bm (fun l=>l[1]?) hd;simpa using this
 have hx:=x.toNat_lt;have hy:=y.toNat_lt;have i0:∀w,(Instr.index 9 (Q7 ⟨Rm s⟩) (I Y (at':Int))).run prog w=.ok (I Rf x.toNat) w:=fun w=>gW underlying9 _ _ _ x (by omega) (by rw[cj];exact a6) w;have i1:∀w,(Instr.index 9 (Q7 ⟨Rm s⟩) (I Y ((at':Int)+1))).run prog w=.ok (I Rf y.toNat) w:=fun w=>gW underlying9 _ _ _ y (by omega) (by rw[show((at':Int)+1).toNat=at'+1 by omega];exact a7) w;have bH:¬(O s:Int)<at'+2:=by omega
 have m:gy (jK s at' (iY us)=if js y.toNat (r.take (gL y.toNat))=false then .inr (7,at'+2)
  else if(iY us).contains ((y.toNat:Int),r.take (gL y.toNat))=true then .inr (8,at'+2)
  else if x.toNat=2 then .inl (⟨2,y.toNat,r.take (gL y.toNat),[]⟩,at'+2+gL y.toNat)
  else if(O r)<gL y.toNat+iu y.toNat then .inr (1,at'+2+gL y.toNat)
  else if jb y.toNat ((r.drop (gL y.toNat)).take (iu y.toNat))=false then .inr (9,at'+2+gL y.toNat)
  else .inl (⟨1,y.toNat,r.take (gL y.toNat),(r.drop (gL y.toNat)).take (iu y.toNat)⟩,at'+2+gL y.toNat+iu y.toNat)):=gj (by unfold jK;rw[hd];simp only;rw[af (by omega),af hk])
 have j1:(1:Int)<=x.toNat:=by omega
 have j2:(x.toNat:Int)<=2:=by omega
 have j3:(y.toNat:Int)<=2:=by omega
 obtain⟨bI,bL⟩:=xK y.toNat;obtain⟨bM,bN⟩:=Fp y.toNat;have a8:=fun w=>k9 (y.toNat:Int) w (by omega) (by omega);have R:s.drop (at'+2)=r:=a5;generalize gL y.toNat=b at *
 generalize iu y.toNat=j at *
 have bx:¬(O s:Int)<at'+2+(b:Int):=by omega
 have bl:∀w,(Instr.slice 9 (Q7 ⟨Rm s⟩) (N (I Y ((at':Int)+2))) (N (I Y ((at':Int)+2+b))) J).run prog w=.ok (Q7 ⟨(r.take b).toArray⟩) w:=fun w=>by rw[oJ underlying9 _ _ _ _ _ (by omega) (by omega) (by omega),show((at':Int)+2).toNat=at'+2 by omega,show((at':Int)+2+b).toNat-(at'+2)=b by omega,R]
 obtain⟨d,S⟩:∃d,d=r.take b:=⟨_,rfl⟩;have bz:O d<=6:=by rw[S,ax];omega
 rw[<-S]at bl m;have bO:=gj S;have U:b+j<=O r->∀w,(Instr.slice 9 (Q7 ⟨Rm s⟩) (N (I Y ((at':Int)+2+b))) (N (I Y ((at':Int)+2+b+j))) J).run prog w=.ok (Q7 ⟨((r.drop b).take j).toArray⟩) w:=fun bP w=>by rw[oJ underlying9 _ _ _ _ _ (by omega) (by omega) (by omega),show((at':Int)+2+b).toNat=at'+2+b by omega,show((at':Int)+2+b+j).toNat-(at'+2+b)=j by omega,<-db,R]
 have bn:=gj U;have bo:=gj a8;have a0:=gj bc;have a9:=fun W hW=>DS ⟨2,y.toNat,d,[]⟩ sv us W hW hl (by show(O d)<=im;unfold im;omega) (by simp[im]);have br:=gj a9;have bs:=gj a4;clear a8 hd a5 a6 a7 R S U a9 a4;go_enter func161,ntmps161;go_wp2_with (go_at_call 181;refine(bo.o _).mono ?_;rintro e w' ⟨rfl,rfl⟩);refine(br.o _ (bs.o.below (((((gJ w).alloc gH _).alloc (by simp) _).alloc (by simp<;>omega) _).alloc (by simp<;>omega) _))).mono ?_;rintro e w2 ⟨rfl,V⟩;have B:Q8 (G (Q w)) w w2:=(((((gJ w).alloc gH _).alloc (by simp) _).alloc (by simp<;>omega) _).alloc (by simp<;>omega) _).trans (V.mono (by simp<;>omega));have X1:=gB w (Q1 #[I Y 0,I Y 0,Q7 ⟨#[]⟩,Q7 ⟨#[]⟩] 105);have X2:=gB (Ro w (Q1 #[I Y 0,I Y 0,Q7 ⟨#[]⟩,Q7 ⟨#[]⟩] 105)) (Q1 #[I Y 0,I Y 0] 31);have X3:=gB ((Ro w (Q1 #[I Y 0,I Y 0,Q7 ⟨#[]⟩,Q7 ⟨#[]⟩] 105)).alloc (Q1 #[I Y 0,I Y 0] 31)) (Q1 #[I Y x.toNat,I Y y.toNat,Q7 ⟨Rm d⟩,Q7 ⟨#[]⟩] 105);simp only[aj]at X2 X3;have F:=gj (gC V (by simp<;>omega) (gP _ (Q1 #[I Y 2,I Y y.toNat,Q7 ⟨Rm d⟩,Q7 ⟨#[]⟩] 105) (gP _ (Q1 #[I Y x.toNat,I Y y.toNat,Q7 ⟨Rm d⟩,Q7 ⟨#[]⟩] 105) (gP _ (Q1 #[I Y 0,I Y 0] 31) X1))));have R2:=gj (gC V (by simp<;>omega) (gP _ (Q1 #[I Y 2,I Y y.toNat,Q7 ⟨Rm d⟩,Q7 ⟨#[]⟩] 105) (gP _ (Q1 #[I Y x.toNat,I Y y.toNat,Q7 ⟨Rm d⟩,Q7 ⟨#[]⟩] 105) X2)));have M:=gj (gC V (by simp) (gP _ (Q1 #[I Y 2,I Y y.toNat,Q7 ⟨Rm d⟩,Q7 ⟨#[]⟩] 105) X3));clear X1 X2 X3;have p0:=gr 0 F.o;have p1:=gr 1 F.o;have p2:=gr 2 F.o;have p3:=gr 3 F.o;have r0:=gr 0 R2.o;have r1:=gr 1 R2.o;have o0:=gr 0 M.o;have o1:=gr 1 M.o;have o2:=gr 2 M.o;have o3:=gr 3 M.o;have bR:=gD 0 F.o;have bS:=gD 1 F.o;have bX:=gD 2 F.o;have b0:=gD 3 F.o;have b1:=gD 0 R2.o;have b2:=gD 1 R2.o;have b3:=gD 0 M.o;have b4:=gD 1 M.o;have b5:=gD 2 M.o;have b6:=gD 3 M.o;have b8:=gm M.o;have b9:=gm R2.o;have ca:=gm F.o;have ba:gy (¬((2:Int)<1\/(2:Int)<2\/(y.toNat:Int)<0\/(2:Int)<y.toNat)):=gj (by omega);cases i:js (y.toNat:Int) d with
 | false=>
  have hO:gy (iZ ⟨2,y.toNat,d,[]⟩ (iY us)=7):=gj (zy ba.o i);have q:gy (jK s at' (iY us)=.inr (7,at'+2)):=gj (by rw[m.o,aw i]);rw[hO.o];clear i m;go_wp2;refine ai (v:=Rc #[ud ⟨x.toNat,y.toNat,d,[]⟩,I Y 0,Q9 #[I Y 7,I Y (at'+2)]]) (by simp[results,results161,go_sem,ud,p0,p1,p2,p3,r0,r1]) rfl ⟨⟨_,rfl,od _ q.o rfl⟩,?_⟩
  (repeat refine Below.setCell (p:=⟨_,_,J⟩) ?_ (by simp<;>omega) _)
  exact B
 | true=>
  cases C:(iY us).contains ((y.toNat:Int),d) with
  | true=>
   have hO:gy (iZ ⟨2,y.toNat,d,[]⟩ (iY us)=8):=gj (wm ba.o i C);have q:gy (jK s at' (iY us)=.inr (8,at'+2)):=gj (by rw[m.o,i,af (by decide),aw C]);rw[hO.o];clear i C m;go_wp2;refine ai (v:=Rc #[ud ⟨x.toNat,y.toNat,d,[]⟩,I Y 0,Q9 #[I Y 8,I Y (at'+2)]]) (by simp[results,results161,go_sem,ud,p0,p1,p2,p3,r0,r1]) rfl ⟨⟨_,rfl,od _ q.o rfl⟩,?_⟩
   (repeat refine Below.setCell (p:=⟨_,_,J⟩) ?_ (by simp<;>omega) _)
   exact B
  | false=>
   have hO:gy (iZ ⟨2,y.toNat,d,[]⟩ (iY us)=0):=gj (rL (o:=⟨2,y.toNat,d,[]⟩) (.inr rfl) (by simp) (by simp only;omega) i C rfl);have a3:=m.o;rw[i,af (by decide),C,af (by decide)]at a3;have X:=gj a3;rw[hO.o];clear i C m a3;by_cases D:x.toNat=2
   .have q:gy (jK s at' (iY us)=.inl (⟨2,y.toNat,d,[]⟩,at'+2+b)):=gj (by rw[X.o,aw D]);have ht:((x.toNat:Int)==2)=true:=by rw[aT];omega
    have bv:gy ((x.toNat:Int)=2):=gj (by omega);clear D;go_wp2;refine ai (v:=Rc #[ud ⟨x.toNat,y.toNat,d,[]⟩,I Y (at'+2+b),Q9 #[I Y 0,I Y 0]]) (by simp[results,results161,go_sem,ud,p0,p1,p2,p3,r0,r1]) rfl ⟨⟨_,rfl,yY q.o (by rw[bv.o];rfl)⟩,?_⟩
    (repeat refine Below.setCell (p:=⟨_,_,J⟩) ?_ (by simp<;>omega) _)
    exact B
   .have ht:((x.toNat:Int)==2)=false:=by rw[ar];omega
    by_cases Z:O r<b+j
    .have q:gy (jK s at' (iY us)=.inr (1,at'+2+b)):=gj (by rw[X.o,af D,aw Z]);have cb:(O s:Int)<at'+2+b+j:=by have:=a0.o;omega
     clear D Z;go_wp2;refine ai (v:=Rc #[ud ⟨x.toNat,y.toNat,d,[]⟩,I Y 0,Q9 #[I Y 1,I Y (at'+2+b)]]) (by simp[results,results161,go_sem,ud,p0,p1,p2,p3,r0,r1]) rfl ⟨⟨_,rfl,od _ q.o rfl⟩,?_⟩
     (repeat refine Below.setCell (p:=⟨_,_,J⟩) ?_ (by simp<;>omega) _)
     exact B
    .have cc:¬(O s:Int)<at'+2+b+j:=by have:=a0.o;omega
     have U:=bn.o (by omega);obtain⟨u,aa⟩:∃u,u=(r.drop b).take j:=⟨_,rfl⟩;have bD:O u<=4:=by rw[aa,ax];omega
     have ag:gy (jK s at' (iY us)=if jb y.toNat u=false then .inr (9,at'+2+b)else .inl (⟨1,y.toNat,d,u⟩,at'+2+b+j)):=gj (by rw[X.o,af D,af Z,<-aa]);have bw:gy ((x.toNat:Int)=1):=gj (by omega);rw[<-aa]at U;have ak:=gj (fun W=>rO (y.toNat:Int) u W (by omega) (by omega) (by unfold im;omega));clear D Z aa X;cases E:jb (y.toNat:Int) u with
     | false=>
      have q:gy (jK s at' (iY us)=.inr (9,at'+2+b)):=gj (by rw[ag.o,aw E]);rw[E]at ak;clear E ag;go_wp2_with (go_at_call 140;refine(ak.o _).mono ?_;rintro e w4 ⟨rfl,rfl⟩);refine ai (v:=Rc #[ud ⟨x.toNat,y.toNat,d,u⟩,I Y 0,Q9 #[I Y 9,I Y (at'+2+b)]]) (by simp[results,results161,go_sem,ud,p0,p1,p2,p3,r0,r1]) rfl ⟨⟨_,rfl,od _ q.o rfl⟩,?_⟩
      (repeat refine Below.setCell (p:=⟨_,_,J⟩) ?_ (by simp<;>omega) _)
      exact B
     | true=>
      have q:gy (jK s at' (iY us)=.inl (⟨1,y.toNat,d,u⟩,at'+2+b+j)):=gj (by rw[ag.o,E,af (by decide)]);rw[E]at ak;clear E ag;go_wp2_with (go_at_call 140;refine(ak.o _).mono ?_;rintro e w4 ⟨rfl,rfl⟩);refine ai (v:=Rc #[ud ⟨x.toNat,y.toNat,d,u⟩,I Y (at'+2+b+j),Q9 #[I Y 0,I Y 0]]) (by simp[results,results161,go_sem,ud,p0,p1,p2,p3,r0,r1]) rfl ⟨⟨_,rfl,yY q.o (by rw[bw.o];rfl)⟩,?_⟩
      (repeat refine Below.setCell (p:=⟨_,_,J⟩) ?_ (by simp<;>omega) _)
      exact B
end Go.Proofs.YtkkfmkhbdoeglabGreatDoor
