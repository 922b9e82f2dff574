/- Lemmas of the proof. No condition. -/
import Derived.Test.YtkkfmkhbdoeglabGreatDoorV29
set_option maxHeartbeats 4000000
set_option maxRecDepth 100000
namespace Go.Proofs.YtkkfmkhbdoeglabGreatDoor
open Go renaming World->Q0,Value->Q4
open Go.IntKind renaming i64->Y,u64->Re
open Go.Obj renaming cells->Q1
open Go.Value renaming int->I,slice->Q6,string->Q7,tuple->Rc,bool->Rh,ownBlock->Rl
open Go.World renaming heap->Q,cell?->Rn,alloc->Ro,setCell->Rp
open List renaming length->O,toArray->Rm
open Option renaming none->J,some->N
open _root_.Array renaming size->G
open Go.Proofs.Tryz
open Go.RowKit
variable{A n:Nat}{a:Act}{b:Exit->Act->Q0->Prop}{g r t:Q4}{l:List Int}{w:Q0}
theorem Ab{o:Oper}{K:Act->Q0->Prop}(s x:Operand)(r:o.op=.call {callee:=.builtin .append,args:=#[s,x],argTypes:=#[28,28]})(base:Nat)(v:Q4)(n:Nat)(l:List gw)(_u:n=O l)(y:a.eval s=v)(d:nM w base v l)(M:List gw)(B:gE w (a.eval x) 1 (O M) (jr M))(C:O l+O M<=8796093022208)(_R:O M<=1000000)(i:base<=G (Q w))(h:∀v' w',nM w' base v' (l++M)->Below base w w'->K (a.put o.dst v') w'):o.wp prog a w K b:=by subst _u;obtain⟨i0,D,m,j,q⟩:=dE Aj;have hmx:maxLen=9223372036854775807:=rfl;refine lL s x _ _ r base 1 9 i0 (Q7 ⟨#[]⟩) underlying28 D m j (by rw[j];rfl) (by omega) v (O l) (jr l) y d.own d.typ (O M) (jr M) (gE.src underlying28 B (vQ M)) (by omega) (by rw[q];omega) i (fun v' w' h1 E F S=>?_);rw[<-ny]at h1;exact h v' w' ⟨by simpa using h1,F⟩ (jF d.own E i)
theorem qX{iS:Array Oper}{rest:List Oper}{o:Oper}(m:o.guard=J)(s x:Operand)(q:o.op=.call {callee:=.builtin .append,args:=#[s,x],argTypes:=#[28,28]})(base:Nat)(v:Q4)(n:Nat)(l:List gw)(r:n=O l)(u:a.eval s=v)(i:nM w base v l)(M:List gw)(y:gE w (a.eval x) 1 (O M) (jr M))(j:O l+O M<=8796093022208)(B:O M<=1000000)(d:base<=G (Q w))(h:∀v' w',nM w' base v' (l++M)->Below base w w'->wpList prog iS b rest (a.put o.dst v') w'):wpList prog iS b (o::rest) a w:=
 eN m fun _ hK=>Ab s x q base v n l r u i M y j B d fun v' w' h1 C=>hK _ _ (h v' w' h1 C)
theorem jW.PF{w':Q0}{o g':Q4}{a:iy}(h:jW w A n l t o r g a){tv of:Nat}{got G':List gw}(hc:a.me=N (tv,of,got))(y:gE w g' 1 (O G') (jr G'))(q:∀j,Rl g'=N j->j≠A/\Rl o≠N j/\j<G (Q w))(B:w'=Rp w ⟨A,10,J⟩ g'):
  jW w' A n l t o r g' {a with me:=N (tv,of,G')}/\gR (fun j=>j=A) w w':=by
 subst B;have m:gR (fun j=>j=A) w (Rp w ⟨A,10,J⟩ g'):=(gR.refl (fun j=>j=A) w).setCell ⟨A,10,J⟩ _ (.inl rfl);have u:=QN _ _ 10 g' h.row;have x:rh a=(tv,of):=by unfold rh;rw[hc]
 rw[x,hc]at u;obtain⟨s1,s2,C,s⟩:=h.sepA;exact⟨⟨u,gE.frame h.T fun b e d=>m.block b d fun i=>s1 (by rw[e,i]),⟨h.out.own.frame m.size fun b e d=>m.block b d fun i=>s (by rw[e,i]),h.out.typ.frame fun b e d=>m.block b d fun i=>s (by rw[e,i])⟩,gE.frame h.room fun b e d=>m.block b d fun i=>s2 (by rw[e,i]),gE.frame y fun b e d=>m.block b d (q b e).1,fun j e=>⟨(h.sep j e).1,(h.sep j e).2.1,fun i=>(q j i).2.1 e⟩,⟨s1,s2,fun e=>(q A e).1 rfl,s⟩,fun j e=>ae (e.elim (fun e=>h.lt j (.inl e)) fun e=>e.elim (fun e=>h.lt j (.inr (.inl e))) fun e=>(q j e).2.2) m.size⟩,m⟩
theorem sV.Pk{w1 w2:Q0}{R:Nat}{o:Q4}{a a':iy}(b:jW w A n l t o r g a)(d:Below (G (Q w)) w w1)(h:mr w1 A n l t o r g a' w2)(i:G (Q w)<=R)(j:w1.heap[R]?=N (Q1 #[Rh false,I Re 0,I Re 0,Q6 J 0 0,Q6 J 0 0] 65 (0,0)))(m:w1.heap[R+1]?=N (Q1 #[Rh false,I Re 0,I Re 0,Q6 J 0 0,Q6 J 0 0] 65 (0,0))):
  w2.heap[R]?=N (Q1 #[Rh false,I Re 0,I Re 0,Q6 J 0 0,Q6 J 0 0] 65 (0,0))/\w2.heap[R+1]?=N (Q1 #[Rh false,I Re 0,I Re 0,Q6 J 0 0,Q6 J 0 0] 65 (0,0))/\gy ((oB w2 R (Rh false) (I Re 0) (I Re 0) (Q6 J 0 0) (Q6 J 0 0)).heap[R]?=N (Q1 #[Rh false,I Re 0,I Re 0,Q6 J 0 0,Q6 J 0 0] 65 (0,0))/\mr w A n l t o r g a' (oB w2 R (Rh false) (I Re 0) (I Re 0) (Q6 J 0 0) (Q6 J 0 0))):=by
 obtain⟨h1,q⟩:=sV.end b d h j i;refine⟨h1,?_,q⟩;obtain⟨o',g',-,s,-⟩:=h;exact s.at (b.Kq (by omega)) m
theorem EZ(A n:Nat)(l:List Int)(t o r g:Q4)(a:iy)(body:gw)(w:Q0)(h:jW w A n l t o r g a)(hf:a.mN)(hb:O body<=im):
  Calls prog 76 #[.pointer (N ⟨A,0,J⟩),Q7 ⟨Rm body⟩] w (sV w A n l t o r g (a.piece body)):=by
 have c2:Below (G (Q w)) w ((Ro w (Q1 #[Rh false,I Re 0,I Re 0,Q6 J 0 0,Q6 J 0 0] 65)).alloc (Q1 #[Rh false,I Re 0,I Re 0,Q6 J 0 0,Q6 J 0 0] 65)):=((Below.rf w).alloc gH _).alloc (by rw[aj];omega) _;have N1:=pA w (Q1 #[Rh false,I Re 0,I Re 0,Q6 J 0 0,Q6 J 0 0] 65) (Q1 #[Rh false,I Re 0,I Re 0,Q6 J 0 0,Q6 J 0 0] 65);have R1:=gP (Ro w (Q1 #[Rh false,I Re 0,I Re 0,Q6 J 0 0,Q6 J 0 0] 65)) (Q1 #[Rh false,I Re 0,I Re 0,Q6 J 0 0,Q6 J 0 0] 65) (gB w (Q1 #[Rh false,I Re 0,I Re 0,Q6 J 0 0,Q6 J 0 0] 65));have bD:=gj c2;have HH:=gj h;have HF:=gj hf;have bE:=hf.out;have gs:=gm h.row;unfold im at hb;go_enter func76,ntmps76;go_upto_region 2 with fail;generalize (Ro w (Q1 #[Rh false,I Re 0,I Re 0,Q6 J 0 0,Q6 J 0 0] 65)).alloc (Q1 #[Rh false,I Re 0,I Re 0,Q6 J 0 0,Q6 J 0 0] 65)=w1 at *
 obtain⟨R,hR⟩:∃R,R=G (Q w):=⟨_,rfl⟩;rw[<-hR]at R1 N1⊢;have a4:gy (G (Q w)<=R):=gj (by omega);have H1:=gj (HH.o.below bD.o);have bS:=gj R1;have e5:=gj N1;have S:gy (∀(a':iy) (W:Q0),mr w1 A n l t o r g a' W->a.piece body=(a',J)->W.heap[R]?=N (Q1 #[Rh false,I Re 0,I Re 0,Q6 J 0 0,Q6 J 0 0] 65 (0,0))/\W.heap[R+1]?=N (Q1 #[Rh false,I Re 0,I Re 0,Q6 J 0 0,Q6 J 0 0] 65 (0,0))/\gy ((oB W R (Rh false) (I Re 0) (I Re 0) (Q6 J 0 0) (Q6 J 0 0)).heap[R]?=N (Q1 #[Rh false,I Re 0,I Re 0,Q6 J 0 0,Q6 J 0 0] 65 (0,0))/\sV w A n l t o r g (a.piece body) (.returned (Rc #[.agg #[Rh false,I Re 0,I Re 0,Q6 J 0 0,Q6 J 0 0],Rh false])) (oB W R (Rh false) (I Re 0) (I Re 0) (Q6 J 0 0) (Q6 J 0 0)))):=gj (fun a' W q hp=>by obtain⟨q1,q2,q3⟩:=sV.Pk HH.o bD.o q a4.o bS.o e5.o;refine⟨q1,q2,gj ⟨q3.out.1,?_⟩⟩;rw[hp];exact⟨_,rfl,rfl,q3.out.2,fun h=>by cases h⟩);clear h hf c2 R1 N1 hR;by_cases h2:O body<2
 .have HT:gy (a.piece body=(a.pW 1,J)):=gj (by unfold iy.piece;rw[aw h2]);have e7:(O body:Int)<2:=by omega
  clear h2;go_wp2_with fail;refine(nu A n l t o r g a 1 0 w1 H1.o HF.o (by omega)).mono ?_;rintro e w2 ⟨rfl,q⟩;obtain⟨m,M,u⟩:=S.o _ _ q HT.o;obtain⟨y0,y1,y2,y3,y4,U⟩:=lB m;obtain⟨z0,z1,z2,z3,z4⟩:=oS m;obtain⟨y,B,C,E,F,-⟩:=lB u.o.1;obtain⟨n0,n1,n2,n3,n4,am⟩:=lB M;clear q m M;unfold oB at y B C E F;go_wp2_with fail;exact ai (by simp[results,results76,go_sem,y,B,C,E,F]) rfl u.o.2
 .have e7:¬(O body:Int)<2:=by omega
  by_cases b1:65<O body
  .have HT:gy (a.piece body=(a.pW 2,J)):=gj (by unfold iy.piece;rw[af h2,aw b1]);have eb:(65:Int)<(O body:Int):=by omega
   clear h2 b1;go_wp2_with fail;refine(nu A n l t o r g a 2 0 w1 H1.o HF.o (by omega)).mono ?_;intro e w2 hp;obtain⟨rfl,q⟩:=hp;obtain⟨m,M,u⟩:=S.o _ _ q HT.o;obtain⟨y0,y1,y2,y3,y4,U⟩:=lB m;obtain⟨z0,z1,z2,z3,z4⟩:=oS m;obtain⟨y,B,C,E,F,-⟩:=lB u.o.1;obtain⟨n0,n1,n2,n3,n4,am⟩:=lB M;clear q m M;unfold oB at y B C E F;go_wp2_with fail;exact ai (by simp[results,results76,go_sem,y,B,C,E,F]) rfl u.o.2
  .have eb:¬(65:Int)<(O body:Int):=by omega
   have HP:gy (a.piece body=match a.me with|none=>(a.ki,J)|some (tv,of,got)=>if(body.getD 0 0).toNat≠O got then(a.lX,J)else if(O got)+1<of then({a with me:=N (tv,of,got++[body.drop 1])}.lX,J)else {a with me:=J}.mV tv (got++[body.drop 1]).flatten):=gj (by unfold iy.piece;rw[af h2,af b1];rfl);have c5:=gm H1.o.row;have hg:=gr 7 H1.o.row;by_cases bc:a.me=J
   .have HT:gy (a.piece body=(a.ki,J)):=gj (by rw[HP.o,bc]);have b2:Rn w1 ⟨A,7,J⟩=N (Rh false):=by rw[hg,bc];rfl
    clear hg HP bc;go_wp2_with fail;refine(nL A n l t o r g a w1 H1.o bE (by have:=HF.o.v;omega)).mono ?_;intro e w2 hp;obtain⟨rfl,q⟩:=hp.go;obtain⟨m,M,u⟩:=S.o _ _ q HT.o;obtain⟨y0,y1,y2,y3,y4,U⟩:=lB m;obtain⟨z0,z1,z2,z3,z4⟩:=oS m;obtain⟨y,B,C,E,F,-⟩:=lB u.o.1;obtain⟨n0,n1,n2,n3,n4,am⟩:=lB M;clear q hp m M;unfold oB at y B C E F;go_wp2_with fail;exact ai (by simp[results,results76,go_sem,y,B,C,E,F]) rfl u.o.2
   .obtain⟨⟨tv,of,got⟩,ag⟩:=df.1 bc;have b2:Rn w1 ⟨A,7,J⟩=N (Rh true):=by rw[hg,ag];rfl
    clear hg bc;have bi:gy (a.piece body=if(body.getD 0 0).toNat≠O got then(a.lX,J)else if(O got)+1<of then({a with me:=N (tv,of,got++[body.drop 1])}.lX,J)else {a with me:=J}.mV tv (got++[body.drop 1]).flatten):=gj (by rw[HP.o,ag]);obtain⟨gt,gu,gv,c6⟩:=HF.o.me tv of got ag;have a2:te a=got:=by unfold te;rw[ag]
    have c7:rh a=(tv,of):=by unfold rh;rw[ag]
    have c8:=gj (show gE w1 g 1 (O got) (jr got) by have:=H1.o.got;rwa [a2]at this);have e8:=c8.o;obtain⟨-,ga,gc,rfl,gx,e9⟩:=e8;obtain⟨b0,b3⟩:∃b0,body.getD 0 0=b0:=⟨_,rfl⟩;have i0:∀w,(Instr.index 9 (Q7 ⟨Rm body⟩) (I Y 0)).run prog w=.ok (I .u8 b0.toNat) w:=fun w=>gW underlying9 _ _ _ b0 (by omega) (by show body[0]?=N b0;rw[<-b3,aD,ah (by omega)];rfl) w;rw[b3]at bi;have av:=gr 10 H1.o.row;have gz:=b0.toNat_lt;clear HP b3 e9;by_cases bH:b0.toNat≠O got
    .have HT:gy (a.piece body=(a.lX,J)):=gj (by rw[bi.o,aw bH]);have bw:((b0.toNat:Int)==(O got:Int))=false:=ar.2 (by omega);clear bi bH;go_upto_region 11 with fail;go_region
     all_goals
      have c9:Below (G (Q w1)) w1 (w1.drew):=(Below.rf w1).drew;go_wp2_with fail;refine(rq A n l t o r (Q6 ga (O got) gc) a _ (by exact H1.o.below c9) bE (by rw[a2];omega)).mono ?_;intro e w2 hp;obtain⟨rfl,q⟩:=hp.go;obtain⟨m,M,u⟩:=S.o _ _ (mr.first c9 q) HT.o;obtain⟨y0,y1,y2,y3,y4,U⟩:=lB m;obtain⟨z0,z1,z2,z3,z4⟩:=oS m;obtain⟨y,B,C,E,F,-⟩:=lB u.o.1;obtain⟨n0,n1,n2,n3,n4,am⟩:=lB M;clear q hp m M av c5 b2;unfold oB at y B C E F;go_wp2_with fail;exact ai (by simp[results,results76,go_sem,y,B,C,E,F]) rfl u.o.2
    .have bw:((b0.toNat:Int)==(O got:Int))=true:=aT.2 (by omega);have bk:gy (a.piece body=if(O got)+1<of then({a with me:=N (tv,of,got++[body.drop 1])}.lX,J)else {a with me:=J}.mV tv (got++[body.drop 1]).flatten):=gj (by rw[bi.o,af bH]);clear bi bH;have u:=gj a2;have g0:=gj c7;have fb:=gj ag;clear a2 c7 ag;go_upto_region 11 with fail;go_cut [39] (fun v wx=>v=Rh false/\Below (G (Q w1)) w1 wx)
     case first=>
      go_region
      all_goals
       go_wp2_with fail;go_meet
       case rel=>exact⟨bm Rh (by simp only[bne,bw,fK]),(Below.rf w1).drew⟩
     case rest=>
      obtain⟨rfl,b4⟩:=hcut;have b5:=gj b4;have HC:=gj (H1.o.below b4);have da:=gm HC.o.row;have eg:=gr 10 HC.o.row;clear b4 c5 b2 av i0 bw;have fd:=gj (c8.o.below b5.o);obtain⟨D,hD⟩:∃D,D=body.drop 1:=⟨_,rfl⟩;rw[<-hD]at bk;have fg:O D<=64:=by rw[hD,bu];omega
      have b8:(⟨Rm body⟩:ByteArray).extract 1 (O body)=⟨Rm D⟩:=by rw[hD,ByteArray.extract_mk,aW (by rw[bu];exact aq _)]
      clear hD
      go_upto_region 17 with (first
       | (at_builtin;refine qX rfl (.tmp 52) (.tmp 56) rfl (G (Q wc)) (Q6 J 0 0) 0 [] rfl rfl (nM.nil _ _) got (by exact fd.o) (by simp;omega) (by omega) gH ?_;intro v3 w3 b9 ca;rw[aQ]at b9;have fi:=gj b9;have fk:=gj ca;have dc:=ca.size;obtain⟨hn,c3,rfl⟩:=b9.own.shape;
           have H3:=gj (HC.o.below ca);have ej:=gr 10 H3.o.row;have fn:=gm H3.o.row)
       | (at_builtin;refine qX rfl (.tmp 59) (.tmp 62) rfl (G (Q wc)) (Q6 hn (O got) c3) (O got) got rfl rfl (by exact fi.o.below ((Below.rf w3).alloc gH _)) [D] (vP (by rw[<-b8];exact gB _ _)) (by simp;omega) (by simp) (by have:=aj w3 (Q1 #[Q7 ⟨(D).toArray⟩] 9);simp at this⊢;omega) ?_;intro v4 w4 dk fo;have bl:=gj dk;have dl:=gj (fk.o.trans (((gJ w3).alloc dc _).trans fo));obtain⟨g4,c4,rfl⟩:=dk.own.shape;
           have H4:=gj (HC.o.below dl.o);have em:=gr 10 H4.o.row;have en:=gD 10 H4.o.row;have fp:=gm H4.o.row))
      have bx:=H4.o.PF (w':=Rp w4 ⟨A,10,J⟩ (Q6 g4 (O got+1) c4)) (G':=got++[D]) fb.o (by have:=bl.o.own.sliceAt;simpa using this) (fun j e=>⟨by have:=bl.o.own.ie j (by simpa using e);have:=da;omega,fun hh=>by have h8:=gS.iA HC.o.out.own j hh;have:=bl.o.own.ie j (by simpa using e);omega,bl.o.own.iA j (by simpa using e)⟩) rfl;have ak:=gj bx.1;have dn:gy (gR (KE A o) w1 (Rp w4 ⟨A,10,J⟩ (Q6 g4 (O got+1) c4))):=gj ((gR.gO (b5.o.tn dl.o)).trans (bx.2.mono fun j hj=>.inl hj));have dp:gy (∀j,(Q6 g4 (O got+1) c4).ownBlock=N j->(Q6 ga (O got) gc).ownBlock=N j\/G (Q w1)<=j):=gj (fun j e=>.inr (au b5.o.size (bl.o.own.ie j (by simpa using e))));have cb:gy (∀s∈got++[D],O s<=64):=gj (fun s hs=>(bQ.1 hs).elim (c6 s) fun e=>by rw[ay.1 e];exact fg);clear bx ej fn em en fp eg da c6 b8 dc;generalize Rp w4 ⟨A,10,J⟩ (Q6 g4 (O got+1) c4)=w5 at *
      have hl:Rn w5 ⟨A,9,J⟩=N (I Y (of:Nat)):=gr 9 ak.o.row;have av:Rn w5 ⟨A,10,J⟩=N (Q6 g4 (O got+1) c4):=gr 10 ak.o.row;have ds:=gm ak.o.row;by_cases dv:O got+1<of
      .have HT:gy (a.piece body=({a with me:=N (tv,of,got++[D])}.lX,J)):=gj (by rw[bk.o,aw dv]);have eD:((O got+1:Nat):Int)<(of:Int):=by omega
       clear bk;go_region
       all_goals
        have aE:Below (G (Q w5)) w5 (w5.drew):=(Below.rf w5).drew;go_wp2_with fail;refine(rq A n l t o r (Q6 g4 (O got+1) c4) {a with me:=N (tv,of,got++[D])} _ (by exact ak.o.below aE) bE (by show(got++[D]).length<256;simp;omega)).mono ?_;intro e w2 hp;obtain⟨rfl,q⟩:=hp.go;obtain⟨m,M,u⟩:=S.o _ _ (mr.trans dn.o (fun j e=>.inl e) dp.o (mr.first aE q)) HT.o;obtain⟨y0,y1,y2,y3,y4,U⟩:=lB m;obtain⟨z0,z1,z2,z3,z4⟩:=oS m;obtain⟨y,B,C,E,F,-⟩:=lB u.o.1;obtain⟨n0,n1,n2,n3,n4,am⟩:=lB M;clear q hp m M hl av ds;unfold oB at y B C E F;go_wp2_with fail;exact ai (by simp[results,results76,go_sem,y,B,C,E,F]) rfl u.o.2
      .have HT:gy (a.piece body={a with me:=J}.mV tv (got++[D]).flatten):=gj (by rw[bk.o,af dv]);have eD:¬((O got+1:Nat):Int)<(of:Int):=by omega
       clear bk;go_cut [75] (fun v wx=>v=Rh false/\Below (G (Q w5)) w5 wx)
       case first=>
        go_region
        all_goals
         go_wp2_with fail;go_meet
         case rel=>exact⟨bm Rh (aF (by omega)),(Below.rf w5).drew⟩
       case rest=>
        obtain⟨rfl,aE⟩:=hcut;obtain⟨d,hG⟩:∃d,d=got++[D]:=⟨_,rfl⟩;have fr:O got+1=O d:=by rw[hG];simp
        rw[<-hG]at HT cb ak;rw[fr]at ak dp;have fx:=gj (dn.o.trans (gR.gO aE));have H6:=gj (ak.o.below aE);have av:Rn wc ⟨A,10,J⟩=N (Q6 g4 (O d) c4):=gr 10 H6.o.row;have ho:Rn wc ⟨A,8,J⟩=N (I Re (tv:Nat)):=gr 8 H6.o.row;have fz:=gm H6.o.row;have fB:=gj H6.o.got;have dT:∀k,(d.take k).flatten.length<=64*k:=fun k=>by
         have:∀(X:List gw) (k:Nat),(∀s∈X,O s<=64)->(X.take k).flatten.length<=64*k:=by
          intro X
          induction X with
          | nil=>intro k _;simp
          | cons x X ih=>
           intro k hX;cases k with
           | zero=>simp
           | succ k=>rw[aN,List.flatten_cons,ab];have:=ih k fun s hs=>hX s (aR _ hs);have:=hX x (cy);omega
         exact this d k cb.o
        have d0:=gj dT;have gb:O d<=16:=by omega
        clear aE dT hG hl ds;go_wp2_with fail;go_loop [8,9] (fun s i=>∃k:Nat,k<=O d/\i=I Y (k:Int)/\s=Q7 ⟨(d.take k).flatten.toArray⟩) (fun _ i=>O d-(intOf i).toNat)
        case atStart=>exact⟨0,aJ _,rfl,rfl⟩
        case round=>
         obtain⟨k,hk,rfl,rfl⟩:=hrel;by_cases cd:k<O d
         .have eT:(k:Int)<(O d:Int):=by omega
          obtain⟨-,a9,hl,f2,-,d1⟩:=fB.o;obtain⟨hr,o9,rfl,d2⟩:=d1 k (by rw[mQ];exact cd);injection f2 with ht hh hi;subst ht;obtain⟨x,hx⟩:∃x,d[k]=x:=⟨_,rfl⟩;have f3:Rn wc ⟨hr,o9+k,J⟩=N (Q7 ⟨Rm x⟩):=by rw[<-hx];exact d2.trans (by simp[jr,te])
          have g1:O x<=64:=cb.o x (by rw[<-hx];exact bq cd);have g2:=d0.o k;have H9:gy ((d.take (k+1)).flatten=(d.take k).flatten++x):=gj (by rw[aC cd,List.flatten_append,hx];simp);have g3:=gK f3;clear d1 d2 hx hi;generalize (d.take k).flatten=X at *
          have g5:=fun W=>nU (P:=prog) X x (by omega) W;go_wp2_with fail;refine⟨⟨k+1,by omega,rfl,?_⟩,?_⟩
          .rw[H9.o]
          .simp[intOf];omega
         .obtain rfl:k=O d:=by omega
          have eT:¬(O d:Int)<(O d:Int):=by omega
          have f4:=d0.o (O d);rw[aM]at f4⊢;generalize d.flatten=X at *
          go_wp2_with fail;refine(GW A n l t o r (Q6 g4 (O d) c4) {a with me:=N (tv,of,d)} wc H6.o).mono ?_;rintro e w7 ⟨rfl,h7,d3⟩;have H7:gy (jW w7 A n l t o r (Q6 J 0 0) {a with me:=J}):=gj h7;have a0:=gj (fx.o.trans (d3.mono fun j hj=>.inl hj));have d4:gy (iy.mN {a with me:=J}):=gj ⟨HF.o.v,HF.o.out,HF.o.olen,fun _ _ _ h=>by cases h⟩;clear h7 d3 av ho fz;have g6:(100000:Nat)<=im:=by decide
          go_wp2_with fail;refine(yO X w7 (by omega)).mono ?_;rintro e w8 ⟨d5,bI⟩;have bn:kJ X=jC X:=qC X;cases hd:jC X with
          | inr f=>
           obtain⟨k,p⟩:=f;rw[hd]at bI;subst bI;have g7:=zf (bn.trans hd);have ap:gy (a.piece body=(iy.pW {a with me:=J} k,J)):=gj (by rw[HT.o];unfold iy.mV;rw[bn,hd]);have g8:((k:Int)==0)=false:=ar.2 (by omega);have F9:=gB w8 (Q1 #[I Y (k:Int),I Y (p:Int)] 31);have Z:=gj (d5.tn ((Below.rf w8).alloc gH (Q1 #[I Y (k:Int),I Y (p:Int)] 31)));clear hd bn;go_upto_region 29 with fail;generalize Ro w8 (Q1 #[I Y (k:Int),I Y (p:Int)] 31)=w9 at *
           obtain⟨f0,f1,bL⟩:=xc F9;go_wp2_with fail;refine(nu A n l t o r (Q6 J 0 0) {a with me:=J} k p w9 (H7.o.below Z.o) d4.o (by omega)).mono ?_;rintro e w2 ⟨rfl,q⟩;obtain⟨m,M,u⟩:=S.o _ _ (mr.trans a0.o (fun j e=>.inl e) (fun j e=>by simp[Value.ownBlock]at e) (mr.first Z.o q)) ap.o;obtain⟨y0,y1,y2,y3,y4,U⟩:=lB m;obtain⟨z0,z1,z2,z3,z4⟩:=oS m;obtain⟨y,B,C,E,F,-⟩:=lB u.o.1;obtain⟨n0,n1,n2,n3,n4,am⟩:=lB M;clear q m M f0 f1 bL F9;unfold oB at y B C E F;go_wp2_with fail;exact ai (by simp[results,results76,go_sem,y,B,C,E,F]) rfl u.o.2
          | inl vt=>
           obtain⟨v,T⟩:=vt;rw[hd]at bI;obtain⟨sv,rfl,ce,cg⟩:=bI;obtain⟨sa,sc,rfl,-,-⟩:=iD.gU ce;have a1:gy (a.piece body=if v≠tv then(iy.pW {a with me:=J} 4,J)else if v<=a.V then(iy.oO {a with me:=J},J)else({a with me:=J},N (.nG v T))):=gj (by rw[HT.o];unfold iy.mV;rw[bn,hd]);have F9:=gB w8 (Q1 #[I Y 0,I Y 0] 31);have bM:Below (G (Q w8)) w8 (Ro w8 (Q1 #[I Y 0,I Y 0] 31)):=(Below.rf w8).alloc gH _;have Z:=gj (d5.tn bM);have f6:=gj (ce.below bM);have cm:=gj (fun j e=>(⟨(cg j e).1,ae (cg j e).2 bM.size⟩:G (Q w7)<=j/\j<_));clear hd bn ce cg bM;go_upto_region 29 with fail;generalize Ro w8 (Q1 #[I Y 0,I Y 0] 31)=w9 at *
           obtain⟨f0,f1,bL⟩:=xc F9;have H9:=gj (H7.o.below Z.o);have c0:=gr 0 H9.o.row;have cn:=gm H9.o.row;by_cases co:v=tv
           .subst co;by_cases bN:v<=a.V
            .have ap:gy (a.piece body=(iy.oO {a with me:=J},J)):=gj (by rw[a1.o,af (fun h=>h rfl),aw bN]);have e1:(v:Int)<=(a.V:Int):=by omega
             clear a1 bN;go_wp2_with fail;refine(mS a.V w9 (by have:=HF.o.v;omega)).mono ?_;rintro e w10 ⟨rfl,e2⟩;have Z:=gj (Z.o.tn e2);clear c0 cn;go_wp2_with fail;refine(pr A n l t o r (Q6 J 0 0) {a with me:=J} 17 17 (nC a.V) w10 (H7.o.below Z.o) (by decide) (by rw[iB];decide) bE).mono ?_;intro e w2 hp;obtain⟨rfl,q⟩:=hp.go;clear hp;obtain⟨m,M,u⟩:=S.o _ _ (mr.trans a0.o (fun j e=>.inl e) (fun j e=>by simp[Value.ownBlock]at e) (mr.first Z.o q)) ap.o;obtain⟨y0,y1,y2,y3,y4,U⟩:=lB m;obtain⟨z0,z1,z2,z3,z4⟩:=oS m;obtain⟨y,B,C,E,F,-⟩:=lB u.o.1;obtain⟨n0,n1,n2,n3,n4,am⟩:=lB M;clear q m M f0 f1 bL F9;unfold oB at y B C E F;go_wp2_with fail;exact ai (by simp[results,results76,go_sem,y,B,C,E,F]) rfl u.o.2
            .have ap:gy (a.piece body=({a with me:=J},N (.nG v T))):=gj (by rw[a1.o,af (fun h=>h rfl),af bN]);have e1:¬(v:Int)<=(a.V:Int):=by omega
             have cp:=a0.o.at (HH.o.Kq a4.o) bS.o;have bO:=gC Z.o (gm cp) cp;have e3:=gm bS.o;have bo:=yc w9 R (Rh true) (I Re (v:Nat)) (I Re 0) (Q6 J 0 0) (Q6 sa (O T) sc);have cq:gy (sV w A n l t o r (Q6 ga (O got) gc) (a.piece body) (.returned (Rc #[.agg #[Rh true,I Re (v:Nat),I Re 0,Q6 J 0 0,Q6 sa (O T) sc],Rh true])) (oB w9 R (Rh true) (I Re (v:Nat)) (I Re 0) (Q6 J 0 0) (Q6 sa (O T) sc))):=gj (by
              have gn:=a0.o.size;have gp:=bD.o.size;rw[ap.o];refine⟨_,rfl,⟨_,rfl,gE.frame f6.o fun b e hb=>bo.block b hb fun hh=>?_,fun j e=>⟨by have:=(cm.o j e).1;omega,ae (cm.o j e).2 bo.size⟩⟩,mr.done HH.o bD.o ⟨o,Q6 J 0 0,H9.o,a0.o.trans (gR.gO Z.o),fun j e=>.inl e,fun j e=>by simp[Value.ownBlock]at e⟩ bo fun j hj=>by rw[hj];exact⟨a4.o,e3⟩,fun _=>⟨Q6 J 0 0,H9.o.ext bo (fun e=>?_) (fun j e hj=>?_),fun j e=>by simp[Value.ownBlock]at e⟩⟩
              .have:=(cm.o b e).1;have hi:b=R:=hh;omega
              .have hi:A=R:=e;have:=a4.o;omega
              .have hi:j=R:=hj;have h3:=a4.o;rcases e with e|e|e|e
               .have:=HH.o.lt j (.inl e);omega
               .have:=gS.iA HH.o.out.own j e;omega
               .have:=HH.o.lt j (.inr (.inl e));omega
               .simp[Value.ownBlock]at e)
             obtain⟨y0,y1,y2,y3,y4,U⟩:=lB bO;obtain⟨z0,z1,z2,z3,z4⟩:=oS bO;obtain⟨y,B,C,E,F,-⟩:=lB (Am bO (Rh true) (I Re (v:Nat)) (I Re 0) (Q6 J 0 0) (Q6 sa (O T) sc));clear a1 bN cp bO bo;unfold oB at y B C E F cq;go_wp2_with fail;refine ai (v:=Rc #[.agg #[Rh true,I Re (v:Nat),I Re 0,Q6 J 0 0,Q6 sa (O T) sc],Rh true]) (by simp[results,results76,go_sem,y,B,C,E,F]) rfl ?_;exact cq.o
           .have ap:gy (a.piece body=(iy.pW {a with me:=J} 4,J)):=gj (by rw[a1.o,aw co]);have gq:((v:Int)==(tv:Int))=false:=ar.2 (by omega);clear a1 co;go_wp2_with fail;refine(nu A n l t o r (Q6 J 0 0) {a with me:=J} 4 0 w9 H9.o d4.o (by omega)).mono ?_;rintro e w2 ⟨rfl,q⟩;clear c0 cn;obtain⟨m,M,u⟩:=S.o _ _ (mr.trans a0.o (fun j e=>.inl e) (fun j e=>by simp[Value.ownBlock]at e) (mr.first Z.o q)) ap.o;obtain⟨y0,y1,y2,y3,y4,U⟩:=lB m;obtain⟨z0,z1,z2,z3,z4⟩:=oS m;obtain⟨y,B,C,E,F,-⟩:=lB u.o.1;obtain⟨n0,n1,n2,n3,n4,am⟩:=lB M;clear q m M f0 f1 bL F9;unfold oB at y B C E F;go_wp2_with fail;exact ai (by simp[results,results76,go_sem,y,B,C,E,F]) rfl u.o.2
end Go.Proofs.YtkkfmkhbdoeglabGreatDoor
