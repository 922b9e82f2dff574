/- Lemmas of the proof. No condition. -/
import Derived.Test.YtkkfmkhbdoeglabGreatDoorG26
set_option maxHeartbeats 4000000
set_option maxRecDepth 100000
namespace Go.Proofs.YtkkfmkhbdoeglabGreatDoor
open Go renaming World->Q0,Value->Q4,Calls->Rg
open Go.Ending renaming returned->Ra
open Go.IntKind renaming i64->Y,u64->Re
open Go.Obj renaming cells->Q1
open Go.RowKit renaming Below->Q8
open Go.Value renaming int->I,pointer->Q5,slice->Q6,string->Q7,bool->Rh,ownBlock->Rl
open Go.World renaming heap->Q,cell?->Rn,alloc->Ro,setCell->Rp
open List renaming length->O,toArray->Rm
open Option renaming none->J,some->N
open _root_.Array renaming size->G
open Go.Proofs.Tryz
open Go.RowKit
theorem GV(hv wv:Q4)(h t:Vd)(w:Q0)(hh:iD w hv h)(ht:iD w wv t)(hl:O h<=1000000)(tl:O t<=1000000)(ba:∀x∈h,O x.1.2<=im/\O x.2<=im)(bb:∀x∈t,O x.1.2<=im/\O x.2<=im):
  Rg prog 15 #[hv,wv] w fun e w'=>∃v,e=Ra v/\nM w' (G (Q w)) v (Dq h t)/\Q8 (G (Q w)) w w':=by
 have HH:=gj hh;have HT:=gj ht;obtain⟨a,cap,rfl,b4,-⟩:=hh.gU;obtain⟨a2,bn,rfl,bX,-⟩:=ht.gU;have bI:=gj ba;have bL:=gj bb;clear hh ht ba bb;go_enter func15,ntmps15;go_wp2_with fail;go_loopw [5,6] (fun ov i wr=>∃k:Nat,k<=O h/\i=I Y (k:Int)/\nM wr (G (Q w)) ov (pZ h t k)/\Q8 (G (Q w)) w wr) (fun _ i _=>O h-(intOf i).toNat)
 case atStart=>exact⟨0,aJ _,rfl,by unfold pZ oh;exact nM.nil _ _,kz⟩
 case round=>
  obtain⟨k,hk,rfl,C,V⟩:=hrel;have R:=gj C;have q:=gj V;have am:=gj (KS h t k);obtain⟨oa,D,rfl⟩:=C.own.shape;clear C V;by_cases E:k<O h
  .have br:(k:Int)<O h:=by omega
   obtain⟨a',cap',he,-,hx⟩:=HH.o.gU;cases he;obtain⟨d,l,rfl,C0,C1,C2⟩:=hx k E;have b:d<G (Q w):=gK C0;have c0:=(q.o.cell (p:=⟨d,l+k*3,J⟩) b).trans C0;have c1:=(q.o.cell (p:=⟨d,l+k*3+1,J⟩) b).trans C1;have c2:=(q.o.cell (p:=⟨d,l+k*3+2,J⟩) b).trans C2;have lb:=gK c0;clear C0 C1 C2;clear hx;have X:=gj (fun W (hW:Q8 (G (Q wr)) wr W)=>GX (Q6 a2 (O t) bn) t h[k] W ((HT.o.below q.o).below hW) (by omega));have Z:=gj (MK h t k E);have ak:=gj (bI.o _ (bq E));generalize a1:h[k]=x at *
   rw[Kb]at X;clear a1;obtain⟨⟨T,r⟩,U⟩:=x;go_wp2_with fail;refine(X.o _ (Below.rf _)).mono ?_;rintro e w2 ⟨rfl,m⟩;have d0:=(m.cell (p:=⟨d,l+k*3,J⟩) lb).trans c0;have d1:=(m.cell (p:=⟨d,l+k*3+1,J⟩) lb).trans c1;have s:=gj m;have ls:=ae lb m.size;clear c0 c1 c2 m lb;cases hg:(ku (T,r) t).isSome with
   | true=>
    have F:gy (pZ h t (k+1)=pZ h t k):=gj (by rw[Z.o,af (by rw[Option.isNone_eq_false_iff.2 hg];decide),cX]);clear hg;go_wp2;go_roundw
    case rel=>exact⟨k+1,by omega,by go_num,by rw[F.o];exact R.o.below s.o,q.o.tn s.o⟩
    case measure=>simp[intOf];omega
   | false=>
    have bc:(ku (T,r) t).isNone=true:=by rw[fG];exact eY.1 (by rw[hg];decide)
    have F:gy (pZ h t (k+1)=pZ h t k++[oQ (T,r)]):=gj (by rw[Z.o,aw bc]);clear hg bc;have HK:=gj (tL T);have B:∀W:Q0,gI (Ro W (Q1 #[I .u8 (IntKind.u8.wrap T)] 5)) (Q6 (N ⟨G (Q W),0,J⟩) 1 1) [mi T]:=fun W=>by rw[<-HK.o];exact ow W (mi T)
    have k0:=(gI.drewN (B w2) 1).convert;have b5:=(B w2).convert;have k1:=(B w2.drew).convert;rw[show ∀w:Q0,w.drewN 1=w.drew from fun _=>rfl]at k0;have bM:im<=1000000000000000000:=by decide
    have bN:=ak.o.1;have bO:=fun W=>nU (P:=prog) [100,114,111,112,32] [mi T] (by simp) W;have bP:=fun W=>nU (P:=prog) [100,114,111,112,32,mi T] r (by simp;omega) W;have a3:=gj (R.o.below s.o);have a4:gy (G (Q w)<=G (Q w2)):=gj (q.o.tn s.o).size;go_upto_region 7 with fail;have hcv:=gI.convert (w:=(Ro w2 (Q1 #[I .u8 (IntKind.u8.wrap T)] 5)).drew) (B w2);have u:=fun o=>gj (show _/\_ from⟨iK o d0,iK o d1⟩);have y:=fun o o'=>gj (show _/\_ from⟨iK o' (iK o d0),iK o' (iK o d1)⟩);refine jI (n:=18) (S:=(fun w'=>Rn w' ⟨d,l+k*3,J⟩=N (I Y T)/\Rn w' ⟨d,l+k*3+1,J⟩=N (Q7 ⟨Rm r⟩))) (by kernel_rfl) (by kernel_rfl) rfl (by first|exact⟨d0,d1⟩|exact(u _).out|exact(y _ _).out|exact⟨(j.o.cell (p:=⟨d,l+k*3,J⟩) b).trans d0,(j.o.cell (p:=⟨d,l+k*3+1,J⟩) b).trans d1⟩) ?_;intro bv;simp only[cJ,b7,bC,cO,aN,bp,bd,bf,bK,aQ,aV];refine lS [0,1,2,3,4,5,6,10,11,12,13,14] ?_
    repeat(refine jx (v:=?_) rfl (by kernel_rfl) (by assumption) (by rfl) (fun _ _ _ h=>h) ?_ ?_;rotate_left 1;(· intro w M;(try dsimp only at M);go_simp;(try with_reducible rfl));try simp only[Act.put,List.setIfInBounds_toArray,List.set_cons_zero,List.set_cons_succ])
    refine ka ?_;refine iT 7 (by kernel_rfl) rfl ?_;intro K' hK';go_simp;refine hK'.out _ _ (by first|exact⟨d0,d1⟩|exact(u _).out|exact(y _ _).out|exact⟨(j.o.cell (p:=⟨d,l+k*3,J⟩) b).trans d0,(j.o.cell (p:=⟨d,l+k*3+1,J⟩) b).trans d1⟩) ?_;clear hK' K';intro bw
    try simp only[az,aG,aK]
    refine iT 8 (by kernel_rfl) rfl ?_;intro K' hK';go_simp;refine hK'.out _ _ (by first|exact⟨d0,d1⟩|exact(u _).out|exact(y _ _).out|exact⟨(j.o.cell (p:=⟨d,l+k*3,J⟩) b).trans d0,(j.o.cell (p:=⟨d,l+k*3+1,J⟩) b).trans d1⟩) ?_;clear hK' K';intro bx
    try simp only[az,aG,aK]
    refine lS [9,15] ?_
    repeat(refine jx (v:=?_) rfl (by kernel_rfl) (by assumption) (by rfl) (fun _ _ _ h=>h) ?_ ?_;rotate_left 1;(· intro w M;(try dsimp only at M);go_simp;(try with_reducible rfl));try simp only[Act.put,List.setIfInBounds_toArray,List.set_cons_zero,List.set_cons_succ])
    refine ka ?_;refine iT 16 (by kernel_rfl) rfl ?_;intro K' hK';go_simp;refine hK'.out _ _ (by first|exact⟨d0,d1⟩|exact(u _).out|exact(y _ _).out|exact⟨(j.o.cell (p:=⟨d,l+k*3,J⟩) b).trans d0,(j.o.cell (p:=⟨d,l+k*3+1,J⟩) b).trans d1⟩) ?_;clear hK' K';intro bz
    try simp only[az,aG,aK]
    refine iT 17 (by kernel_rfl) rfl ?_;intro K' hK';refine tz rfl (.tmp 24) (.tmp 40) rfl (G (Q w)) (Q6 oa (pZ h t k).length D) (pZ h t k).length (pZ h t k) rfl rfl a3.o (by exact Below.drew (Below.al (Below.al (Below.rf _) _) _)) (100::114::111::112::32::mi T::r) (vP (by exact pA _ _ _)) (by have:=am.o;omega) a4.o ?_;intro v8 w8 aa a5;have a6:=gj aa;have j:=gj a5;obtain⟨bR,a9,rfl⟩:=aa.own.shape;refine hK'.out _ _ (by first|exact⟨d0,d1⟩|exact(u _).out|exact(y _ _).out|exact⟨(j.o.cell (p:=⟨d,l+k*3,J⟩) b).trans d0,(j.o.cell (p:=⟨d,l+k*3+1,J⟩) b).trans d1⟩) ?_;clear hK' K';intro bA
    try simp only[Act.put,az,aG,aK]
    refine wpAnyH_done (by kernel_rfl) ?_ _;show Oper.wp _ _ _ _ _ _;go_wp2;go_roundw
    case rel=>exact⟨k+1,by omega,by go_num,by rw[F.o];have h8:=a6.o;rw[ab]at h8;exact h8,(q.o.tn s.o).trans j.o⟩
    case measure=>simp[intOf];omega
  .obtain rfl:k=O h:=by omega
   have bS:¬(O h:Int)<O h:=by omega
   have bi:gy (nM wr (G (Q w)) (Q6 oa (pZ h t (O h)).length D) (pz h t 0)):=gj (by rw[<-MO];exact R.o);clear R;generalize (pZ h t (O h)).length=b6 at *
   generalize wr=w0 at *
   go_wp2_with fail;go_loopw [5,8] (fun ov i wr=>∃k:Nat,k<=O t/\i=I Y (k:Int)/\nM wr (G (Q w)) ov (pz h t k)/\Q8 (G (Q w)) w wr) (fun _ i _=>O t-(intOf i).toNat)
   case atStart=>exact⟨0,aJ _,rfl,bi.o,q.o⟩
   case round=>
    clear q bi;obtain⟨k,hk,rfl,C,V⟩:=hrel;have R:=gj C;have q:=gj V;have am:=gj (KU h t k);obtain⟨oa,D,rfl⟩:=C.own.shape;clear C V;by_cases E:k<O t
    .have br:(k:Int)<O t:=by omega
     obtain⟨a',cap',he,-,hx⟩:=HT.o.gU;cases he;obtain⟨d,l,rfl,C0,C1,C2⟩:=hx k E;have b:d<G (Q w):=gK C0;have c0:=(q.o.cell (p:=⟨d,l+k*3,J⟩) b).trans C0;have c1:=(q.o.cell (p:=⟨d,l+k*3+1,J⟩) b).trans C1;have c2:=(q.o.cell (p:=⟨d,l+k*3+2,J⟩) b).trans C2;have lb:=gK c0;clear C0 C1 C2;clear hx;have X:=gj (fun W (hW:Q8 (G (Q wr)) wr W)=>BM (Q6 a (O h) cap) h t[k] W ((HH.o.below q.o).below hW) (by omega));have Z:=gj (ML h t k E);have ak:=gj (bL.o _ (bq E));generalize a1:t[k]=x at *
     rw[Kb]at X;clear a1;obtain⟨⟨T,r⟩,U⟩:=x;go_wp2_with fail;refine(X.o _ (Below.rf _)).mono ?_;rintro e w2 ⟨rfl,m⟩;have d0:=(m.cell (p:=⟨d,l+k*3,J⟩) lb).trans c0;have d1:=(m.cell (p:=⟨d,l+k*3+1,J⟩) lb).trans c1;have d2:=(m.cell (p:=⟨d,l+k*3+2,J⟩) lb).trans c2;have s:=gj m;have ls:=ae lb m.size;clear c0 c1 c2 m lb;by_cases hm:((T,r),U)∈h
     .have F:gy (pz h t (k+1)=pz h t k):=gj (by rw[Z.o,aw hm,cX]);rw[bh hm];clear hm;go_wp2;go_roundw
      case rel=>exact⟨k+1,by omega,by go_num,by rw[F.o];exact R.o.below s.o,q.o.tn s.o⟩
      case measure=>simp[intOf];omega
     .have F:gy (pz h t (k+1)=pz h t k++[qy (T,r) U]):=gj (by rw[Z.o,af hm]);rw[aF hm];clear hm;have HK:=gj (tL T);have B:∀W:Q0,gI (Ro W (Q1 #[I .u8 (IntKind.u8.wrap T)] 5)) (Q6 (N ⟨G (Q W),0,J⟩) 1 1) [mi T]:=fun W=>by rw[<-HK.o];exact ow W (mi T)
      have bM:im<=1000000000000000000:=by decide
      have bN:O r<=im:=ak.o.1;have b8:O U<=im:=ak.o.2;have bO:=fun W=>nU (P:=prog) [112,117,116,32] [mi T] (by simp) W;have bP:=fun W=>nU (P:=prog) [112,117,116,32,mi T] r (by simp;omega) W;have b9:=fun W=>nU (P:=prog) (112::117::116::32::mi T::r) [61] (by simp;omega) W;have ca:=fun W=>nU (P:=prog) (112::117::116::32::mi T::(r++[61])) U (by simp;omega) W;have a3:=gj (R.o.below s.o);have a4:gy (G (Q w)<=G (Q w2)):=gj (q.o.tn s.o).size;go_upto_region 13 with fail;have hcv:=gI.convert (w:=(Ro w2 (Q1 #[I .u8 (IntKind.u8.wrap T)] 5)).drew) (B w2);have u:=fun o=>gj (show _/\_/\_ from⟨iK o d0,iK o d1,iK o d2⟩);have y:=fun o o'=>gj (show _/\_/\_ from⟨iK o' (iK o d0),iK o' (iK o d1),iK o' (iK o d2)⟩);refine jI (n:=25) (S:=(fun w'=>Rn w' ⟨d,l+k*3,J⟩=N (I Y T)/\Rn w' ⟨d,l+k*3+1,J⟩=N (Q7 ⟨Rm r⟩)/\Rn w' ⟨d,l+k*3+2,J⟩=N (Q7 ⟨Rm U⟩))) (by kernel_rfl) (by kernel_rfl) rfl (by first|exact⟨d0,d1,d2⟩|exact(u _).out|exact(y _ _).out|exact⟨(j.o.cell (p:=⟨d,l+k*3,J⟩) b).trans d0,(j.o.cell (p:=⟨d,l+k*3+1,J⟩) b).trans d1,(j.o.cell (p:=⟨d,l+k*3+2,J⟩) b).trans d2⟩) ?_;intro bv;simp only[cJ,b7,bC,cO,aN,bp,bd,bf,bK,aQ,aV];refine lS [0,1,2,3,4,5,6,10,11,12,13,14,17,18,19,20,21] ?_
      repeat(refine jx (v:=?_) rfl (by kernel_rfl) (by assumption) (by rfl) (fun _ _ _ h=>h) ?_ ?_;rotate_left 1;(· intro w M;(try dsimp only at M);go_simp;(try with_reducible rfl));try simp only[Act.put,List.setIfInBounds_toArray,List.set_cons_zero,List.set_cons_succ])
      refine ka ?_;refine iT 7 (by kernel_rfl) rfl ?_;intro K' hK';go_simp;refine hK'.out _ _ (by first|exact⟨d0,d1,d2⟩|exact(u _).out|exact(y _ _).out|exact⟨(j.o.cell (p:=⟨d,l+k*3,J⟩) b).trans d0,(j.o.cell (p:=⟨d,l+k*3+1,J⟩) b).trans d1,(j.o.cell (p:=⟨d,l+k*3+2,J⟩) b).trans d2⟩) ?_;clear hK' K';intro bw
      try simp only[az,aG,aK]
      refine iT 8 (by kernel_rfl) rfl ?_;intro K' hK';go_simp;refine hK'.out _ _ (by first|exact⟨d0,d1,d2⟩|exact(u _).out|exact(y _ _).out|exact⟨(j.o.cell (p:=⟨d,l+k*3,J⟩) b).trans d0,(j.o.cell (p:=⟨d,l+k*3+1,J⟩) b).trans d1,(j.o.cell (p:=⟨d,l+k*3+2,J⟩) b).trans d2⟩) ?_;clear hK' K';intro bx
      try simp only[az,aG,aK]
      refine lS [9,15,16,22] ?_
      repeat(refine jx (v:=?_) rfl (by kernel_rfl) (by assumption) (by rfl) (fun _ _ _ h=>h) ?_ ?_;rotate_left 1;(· intro w M;(try dsimp only at M);go_simp;(try with_reducible rfl));try simp only[Act.put,List.setIfInBounds_toArray,List.set_cons_zero,List.set_cons_succ])
      refine ka ?_;refine iT 23 (by kernel_rfl) rfl ?_;intro K' hK';go_simp;refine hK'.out _ _ (by first|exact⟨d0,d1,d2⟩|exact(u _).out|exact(y _ _).out|exact⟨(j.o.cell (p:=⟨d,l+k*3,J⟩) b).trans d0,(j.o.cell (p:=⟨d,l+k*3+1,J⟩) b).trans d1,(j.o.cell (p:=⟨d,l+k*3+2,J⟩) b).trans d2⟩) ?_;clear hK' K';intro bz
      try simp only[az,aG,aK]
      refine iT 24 (by kernel_rfl) rfl ?_;intro K' hK';refine tz rfl (.tmp 56) (.tmp 79) rfl (G (Q w)) (Q6 oa (pz h t k).length D) (pz h t k).length (pz h t k) rfl rfl a3.o (by exact Below.drew (Below.al (Below.al (Below.rf _) _) _)) (112::117::116::32::mi T::(r++61::U)) (vP (by exact pA _ _ _)) (by have:=am.o;omega) a4.o ?_;intro v8 w8 aa a5;have a6:=gj aa;have j:=gj a5;obtain⟨bR,a9,rfl⟩:=aa.own.shape;refine hK'.out _ _ (by first|exact⟨d0,d1,d2⟩|exact(u _).out|exact(y _ _).out|exact⟨(j.o.cell (p:=⟨d,l+k*3,J⟩) b).trans d0,(j.o.cell (p:=⟨d,l+k*3+1,J⟩) b).trans d1,(j.o.cell (p:=⟨d,l+k*3+2,J⟩) b).trans d2⟩) ?_;clear hK' K';intro bA
      try simp only[Act.put,az,aG,aK]
      refine wpAnyH_done (by kernel_rfl) ?_ _;show Oper.wp _ _ _ _ _ _;go_wp2;go_roundw
      case rel=>exact⟨k+1,by omega,by go_num,by rw[F.o,show qy (T,r) U=112::117::116::32::mi T::(r++61::U) by simp[qy]];have h8:=a6.o;rw[ab]at h8;exact h8,(q.o.tn s.o).trans j.o⟩
      case measure=>simp[intOf];omega
    .obtain rfl:k=O t:=by omega
     have bS:¬(O t:Int)<O t:=by omega
     have HE:gy (nM wr (G (Q w)) (Q6 oa (pz h t (O t)).length D) (Dq h t)):=gj (by rw[<-MM];exact R.o);clear R;generalize (pz h t (O t)).length=ol at *
     go_wp2;go_ret;exact⟨_,rfl,HE.o,q.o⟩
def Dh(v:Q4)(j:Nat):Prop:=∃(b:Bool) (d i:Int) (l tv:Q4),v=.agg #[Rh b,I Re d,I Re i,l,tv]/\Rl tv=N j
def Og(w:Q0)(A:Nat)(o:Q4)(v:Q4):Prop:=∀j,Dh v j->j≠A/\Rl o≠N j/\j<G (Q w)
def iV.nm:iV->Prop
 | .delta m os=>m<18446744073709551616/\O os<=8/\∀o∈os,o.kind=1\/o.kind=2
 | .nG m _=>m<18446744073709551616
theorem jW.QG{w w':Q0}{A n:Nat}{l:Vf}{t o r g lv:Q4}{a:iy}(h:jW w A n l t o r g a){V:Nat}{T:Vd}(u:iD w lv T)(hl:∀j,Rl lv=N j->j≠A/\Rl o≠N j/\j<G (Q w))(x:w'=(Rp w ⟨A,1,J⟩ lv).setCell ⟨A,0,J⟩ (I Re (V:Nat))):jW w' A n l lv o r g {a with V:=V,T:=T}/\gR (fun j=>j=A) w w':=by subst x;have i:gR (fun j=>j=A) w ((Rp w ⟨A,1,J⟩ lv).setCell ⟨A,0,J⟩ (I Re (V:Nat))):=((gR.refl (fun j=>j=A) w).setCell ⟨A,1,J⟩ _ (.inl rfl)).setCell ⟨A,0,J⟩ _ (.inl rfl);obtain⟨s1,s2,s,q⟩:=h.sepA;refine⟨⟨QN _ _ 0 _ (QN _ _ 1 _ h.row),gE.frame u fun b e d=>i.block b d (hl b e).1,⟨h.out.own.frame i.size fun b e d=>i.block b d fun m=>q (by rw[e,m]),h.out.typ.frame fun b e d=>i.block b d fun m=>q (by rw[e,m])⟩,gE.frame h.room fun b e d=>i.block b d fun m=>s2 (by rw[e,m]),gE.frame h.got fun b e d=>i.block b d fun m=>s (by rw[e,m]),fun j e=>⟨fun y=>(hl j y).2.1 e,(h.sep j e).2⟩,⟨fun e=>(hl A e).1 rfl,s2,s,q⟩,fun j e=>ae (e.elim (fun e=>(hl j e).2.2) fun e=>h.lt j (.inr e)) i.size⟩,i⟩
theorem J2.two{r w:Q0}{b:Bool}{j l:Int}{q tv:Q4}{tk:iV}(S:Vd)(h:J2 r w (.agg #[Rh b,I Re j,I Re l,q,tv]) (N tk))(d:tk.nm):j=((tk.V:Nat):Int)/\tk.V<18446744073709551616/\((b=false/\∃os,jE w q os/\O os<=8/\(∀o∈os,o.kind=1\/o.kind=2)/\tk.T S=iO S os/\l=((tk.V:Nat):Int))\/(b=true/\iD w tv (tk.T S))):=by
 match tk,h with
 | .delta m os,⟨s,h,i⟩=>simp only[fN,fX,ep,Value.bool.injEq,Value.int.injEq,true_and]at h;obtain⟨rfl,rfl,rfl,rfl,-⟩:=h;exact⟨rfl,d.1,.inl ⟨rfl,os,i.sliceAt,d.2.1,d.2.2,rfl,rfl⟩⟩
 | .nG m T,⟨u,h,i,_⟩=>simp only[fN,fX,ep,Value.bool.injEq,Value.int.injEq,true_and]at h;obtain⟨rfl,rfl,rfl,rfl,rfl,-⟩:=h;exact⟨rfl,d,.inr ⟨rfl,i⟩⟩
def Eh(w:Q0)(A n:Nat)(l:Vf)(t o r g v:Q4)(a:iy)(tk:iV)(e:Ending)(w':Q0):Prop:=∃dv,e=Ra dv/\gE w' dv 1 (a.done tk (gY l) n).length (jr (a.done tk (gY l) n))/\(∀j,Rl dv=N j->G (Q w)<=j/\j<G (Q w'))/\∃t' o',jW w' A n l t' o' r g (a.jO tk (gY l) n)/\nM w' 0 o a.out/\gR (KE A o) w w'/\(∀j,Rl o'=N j->Rl o=N j\/G (Q w)<=j)/\∀j,Rl t'=N j->Rl t=N j\/Dh v j\/G (Q w)<=j
theorem E3(A n:Nat)(l:Vf)(t o r g v:Q4)(a:iy)(tk:iV)(w0 w:Q0)(h:jW w A n l t o r g a)(hv:J2 w0 w v (N tk))(bD:Og w A o v)(hf:tk.nm)(ho:O a.out<=6)(hS:gM a.T)(hn:8<=n)(eS:n<=1000000)(ha:O a.T<=1000000)(hT:(tk.T a.T).length<=1000000)(bE:∀x∈a.T,O x.1.2<=im/\O x.2<=im)(ba:∀x∈tk.T a.T,O x.1.2<=im/\O x.2<=im)(bH:jw (tk.T a.T)<=4611686018427387904):
  Rg prog 30 #[Q5 (N ⟨A,0,J⟩),v] w (Eh w A n l t o r g v a tk):=by
 obtain⟨b0,m1,m2,s1,M,c1,s2,X,c2,rfl⟩:=hv.agg;obtain⟨rfl,hV,D⟩:=hv.two a.T hf;have cq:=h.room;obtain⟨-,Z,rc,rfl,-,-⟩:=cq;obtain⟨E,F,rfl,-,-⟩:=iD.gU h.T;have bI:Q8 (G (Q w)) w (Ro w (Q1 #[Rh b0,I Re (tk.V:Nat),I Re m2,Q6 s1 M c1,Q6 s2 X c2] 65)):=(Below.rf w).alloc gH _;have R1:=gB w (Q1 #[Rh b0,I Re (tk.V:Nat),I Re m2,Q6 s1 M c1,Q6 s2 X c2] 65);obtain⟨T',bb⟩:∃T',T'=tk.T a.T:=⟨_,rfl⟩;rw[<-bb]at hT ba bH D;have eT:=gj D;have HV:=gj hV;have R:=gj h;have bL:=gj bD;have cs:=gj hS;have ct:=gj ba;have cu:=gj bE;have bM:=gj bb;have s:=gj bI;have ap:=gj R1;have eV:=gm h.row;clear hv h bD hS ba bE hf hV bb;go_enter func30,ntmps30;go_upto_region 1 with fail;generalize Ro w (Q1 #[Rh b0,I Re (tk.V:Nat),I Re m2,Q6 s1 M c1,Q6 s2 X c2] 65)=w1 at *
 have H1:=gj (R.o.below s.o);obtain⟨x0,x1,x2,x3,x4,cv⟩:=lB ap.o;have d1:=gr 1 H1.o.row;have cB:=gm H1.o.row;clear bI R1;go_upto_if 12 with fail;go_cut [5] (fun lv wx=>iD wx lv T'/\Q8 (G (Q w)) w wx/\wx.heap[G (Q w)]?=N (Q1 #[Rh b0,I Re (tk.V:Nat),I Re m2,Q6 s1 M c1,Q6 s2 X c2] 65 (0,0))/\∀j,Rl lv=N j->(lv=Q6 E (O a.T) F\/lv=Q6 s2 X c2\/G (Q w)<=j)/\j<G (Q wx))
 case first=>
  rcases D with ⟨rfl,os,bN,c0,bO,bP,rfl⟩|⟨rfl,c3⟩
  .have bc:=jE.below bN s.o;have c6:=gj (fun W (h1:iD W (Q6 E (O a.T) F) a.T) (h2:jE W (Q6 s1 M c1) os)=>zH (Q6 E (O a.T) F) (Q6 s1 M c1) tk.V a.T os W h1 h2 cs.o (by omega) c0 bO);have c7:=gj bc;have c8:=gj bP;clear bN bO bc bP;go_upto_region 3 with fail;go_region_law ((first|(go_simp;go_at_call 54;refine(c6.o _ (by exact H1.o.T) (by exact c7.o)).mono ?_;rintro e ws ⟨lv,rfl,S,i,q⟩)))
   all_goals
    have d:Q8 (G (Q w1)) w1 ws:=(Below.rf w1).drew.tn q;go_wp2;go_meet
    case rel=>
     refine⟨by rw[c8.o];exact S,s.o.tn d,gC d (gm ap.o) ap.o,fun j e=>?_⟩;rcases i with rfl|i
     .exact⟨.inl rfl,ae (H1.o.lt j (.inl e)) d.size⟩
     .exact⟨.inr (.inr (au s.o.size (i j e).1)),(i j e).2⟩
  .go_wp2;go_meet
   case rel=>refine⟨c3.below s.o,s.o,ap.o,fun j e=>⟨.inr (.inl rfl),?_⟩⟩;exact ae (bL.o j ⟨_,_,_,_,_,rfl,e⟩).2.2 s.o.size
 case rest=>
  obtain⟨S,bi,bR,i⟩:=hcut;obtain⟨y,lc,rfl,-,-⟩:=iD.gU S;have av:=gj S;have aE:=gj bi;have bS:=gj bR;have bk:=gj i;have HC:=gj (R.o.below bi);have bX:gy (a.jO tk (gY l) n=match jG T' (gY l) n with|some f=>a.jZ f|none=>{a with V:=tk.V,T:=T'}.oO):=gj (by rw[bM.o];rfl);have b1:gy (a.done tk (gY l) n=match jG T' (gY l) n with|some _=>[]|none=>Dq a.T T'):=gj (by rw[bM.o];rfl);have ag:gy (∀(f:Nat×Nat) (e:Ending) (W W':Q0),Q8 (G (Q w)) w W->jG T' (gY l) n=N f->yW W A n l (Q6 E (O a.T) F) o (Q6 Z 3 rc) g a (a.jZ f) e W'->Eh w A n l (Q6 E (O a.T) F) o (Q6 Z 3 rc) g (.agg #[Rh b0,I Re (tk.V:Nat),I Re m2,Q6 s1 M c1,Q6 s2 X c2]) a tk (Ra (Q6 J 0 0)) W'):=gj (by rintro f e W W' hb hl ⟨-,o',g1,g2,g3,g4⟩;refine⟨_,rfl,?_,fun j e=>by simp[Value.ownBlock]at e,_,o',by rw[bX.o,hl];exact g1,g2,(gR.gO hb).trans g3,fun j e=>(g4 j e).imp id fun e=>au hb.size e,fun j e=>.inl e⟩;rw[b1.o,hl];exact gE.nil _ _ _ _);clear bi S bR i D x0 x1 x2 x3 x4 cv d1 cB;have e5:=gr 6 HC.o.row;have c5:=gr 5 HC.o.row;have c9:=gm HC.o.row;have da:=gj (fun W (h1:iD W (Q6 y (O T') lc) T') h2=>G0 (Q6 y (O T') lc) (Q6 Z 3 rc) T' (gY l 0) (gY l 1) (gY l 2) (gY l) W h1 (by omega) h2 rfl rfl rfl);go_wp2_with fail;refine(da.o wc av.o HC.o.room).mono ?_;rintro e w2 ⟨rfl,bl⟩;have bn:=gj (aE.o.tn bl);have ak:=gj bl;clear e5 c5 c9 bl;cases B:pT T' (gY l) with
  | some k=>
   obtain⟨b2,e1⟩:=BB B;have a0:gy (jG T' (gY l) n=N (10,k)):=gj (by unfold jG;rw[B]);rw[b2];have e2:(0:Int)<=(k:Int):=by omega
   clear B b2;go_wp2_with fail;refine(uh A n l (Q6 E (O a.T) F) o (Q6 Z 3 rc) g a 10 k w2 (R.o.below bn.o) ho (by omega)).mono ?_;intro e w3 hp;obtain⟨rfl,-⟩:=hp.go;have HF:=gj (ag.o _ _ _ _ bn.o a0.o hp);clear hp;go_wp2;go_ret;exact HF.o
  | none=>
   rw[Bz B];have a0:gy (jG T' (gY l) n=if 16*(n-8)<jw T' then N (11,0)else J):=gj (by unfold jG;rw[B]);clear B;have b3:=gj (fun W (h1:iD W (Q6 y (O T') lc) T')=>G3 (Q6 y (O T') lc) T' W h1 (by omega) bH);have H2:=gj (HC.o.below ak.o);have b4:=gj (av.o.below ak.o);have c4:=gr 5 H2.o.row;have a1:=gm H2.o.row;have a2:IntKind.i64.wrap (16*IntKind.i64.wrap ((n:Int)-8))=((16*(n-8):Nat):Int):=by rw[IntWalk.i64_in ((n:Int)-8) (by omega),IntWalk.i64_in _ (by omega)];omega
   by_cases a3:16*(n-8)<jw T'
   .have cg:IntKind.i64.wrap (16*IntKind.i64.wrap ((n:Int)-8))<(jw T':Int):=by rw[a2];omega
    have a4:gy (jG T' (gY l) n=N (11,0)):=gj (by rw[a0.o,aw a3]);clear a2 a3;go_upto_region 8 with fail;go_region_law ((first|(go_simp;go_at_call 78;refine(b3.o _ (by exact b4.o)).mono ?_;rintro e ws ⟨rfl,q⟩;have U:=(q.cell (p:=⟨A,5,J⟩) a1).trans c4;have am:=gK U)))
    all_goals
     have d:=bn.o.tn ((Below.rf w2).drew.tn q);clear U am c4 a1;go_wp2_with fail;refine(uh A n l (Q6 E (O a.T) F) o (Q6 Z 3 rc) g a 11 0 _ (R.o.below (by exact d)) ho (by omega)).mono ?_;intro e w3 hp;obtain⟨rfl,-⟩:=hp.go;have HF:=gj (ag.o _ _ _ _ (by exact d) a4.o hp);clear hp;go_wp2;go_ret;exact HF.o
   .have cg:¬IntKind.i64.wrap (16*IntKind.i64.wrap ((n:Int)-8))<(jw T':Int):=by rw[a2];omega
    have a4:gy (jG T' (gY l) n=J):=gj (by rw[a0.o,af a3]);clear a2 a3 ag;go_upto_region 8 with fail;go_region_law ((first|(go_simp;go_at_call 78;refine(b3.o _ (by exact b4.o)).mono ?_;rintro e ws ⟨rfl,q⟩;have U:=(q.cell (p:=⟨A,5,J⟩) a1).trans c4;have am:=gK U)))
    all_goals
     clear U am c4 a1;have d:=ak.o.tn ((Below.rf w2).drew.tn q);have a5:=gj d;have b5:gy (∀j,(Q6 y (O T') lc).ownBlock=N j->j≠A/\Rl o≠N j):=gj (fun j e=>by
      rcases(bk.o j e).1 with m|m|m
      .rw[m]at e;exact⟨fun e3=>R.o.sepA.1 (by rw[e,e3]),fun e3=>(R.o.sep j e3).1 e⟩
      .rw[m]at e;have:=bL.o j ⟨_,_,_,_,_,rfl,e⟩;exact⟨this.1,this.2.1⟩
      .exact⟨by omega,fun e3=>by have:=gS.iA R.o.out.own j e3;omega⟩)
     go_upto_region 11 with fail;have H8:=gj (HC.o.below d);have c1:=gr 1 H8.o.row;have dk:=gm H8.o.row;clear d q;go_wp2_with fail;refine(GV (Q6 E (O a.T) F) (Q6 y (O T') lc) a.T T' _ (by exact H8.o.T) (by exact av.o.below a5.o) (by omega) (by omega) cu.o ct.o).mono ?_;rintro e w4 ⟨dv,rfl,br,b6⟩;obtain⟨e6,dc,rfl⟩:=br.own.shape;have C:Q8 (G (Q wc)) wc w4:=a5.o.tn (by exact b6);have b8:=gj (aE.o.tn C);have H4:=gj (HC.o.below C);have dl:=C.size;have bt:=H4.o.QG (V:=tk.V) (T:=T') (av.o.below C) (fun j e=>⟨(b5.o j e).1,(b5.o j e).2,ae (bk.o j e).2 dl⟩) rfl;have u:=gj bt;have a6:=gj br;have b9:=gC C (gm bS.o) bS.o;have dn:¬(G (Q w))=A:=by omega
     have z1:=gD 1 H4.o.row;have d1:=gr 1 H4.o.row;have dp:=gm H4.o.row;have bv:=((gR.refl (fun j=>j=A) w4).setCell ⟨A,1,J⟩ (Q6 y (O T') lc) (.inl rfl)).at dn b9;have y1:=gr 1 bv;have cl:=gm bv;have a7:=QN _ _ 1 (Q6 y (O T') lc) H4.o.row;have z0:=gD 0 a7;have d0:=gr 0 a7;have cm:=gm a7;clear c1 dk b6 C br bt b9 bv a7;go_upto_region 14 with fail;generalize (Rp w4 ⟨A,1,J⟩ (Q6 y (O T') lc)).setCell ⟨A,0,J⟩ (I Re (tk.V:Nat))=w5 at *
     have e0:=gr 0 u.o.1.row;have ds:=gm u.o.1.row;clear z1 d1 dp y1 cl z0 d0 cm;go_wp2_with fail;refine(mS tk.V w5 HV.o).mono ?_;rintro e w6 ⟨rfl,ca⟩;have bw:=gj ca;clear ca e0 ds;go_wp2_with fail;refine(pr A n l (Q6 y (O T') lc) o (Q6 Z 3 rc) g {a with V:=tk.V,T:=T'} 17 17 (nC tk.V) w6 (u.o.1.below bw.o) (by decide) (by rw[iB];decide) ho).mono ?_;rintro e w7 ⟨rfl,o',g1,g2,g3,g4⟩;have a8:gR (KE A o) w4 w7:=((u.o.2.mono fun j hj=>.inl hj).trans (gR.gO bw.o)).trans g3;have bx:Eh w A n l (Q6 E (O a.T) F) o (Q6 Z 3 rc) g (.agg #[Rh b0,I Re (tk.V:Nat),I Re m2,Q6 s1 M c1,Q6 s2 X c2]) a tk (Ra (Q6 e6 (Dq a.T T').length dc)) w7:=by
      refine⟨_,rfl,?_,fun j e=>⟨au aE.o.size (au a5.o.size (a6.o.own.ie j e)),ae (a6.o.own.iA j e) a8.size⟩,_,o',by rw[bX.o,a4.o];exact g1,g2,(gR.gO b8.o).trans a8,fun j e=>(g4 j e).imp id fun e=>au b8.o.size (au u.o.2.size (au bw.o.size e)),fun j e=>?_⟩
      .rw[b1.o,a4.o];refine a6.o.own.sliceAt.frame fun b e hb=>a8.block b hb fun m=>?_;have h3:=a6.o.own.ie b e;have h4:=a5.o.size;have h5:=aE.o.size;rcases m with m|m
       .have h6:G (Q w)<=b:=au h5 (au h4 h3);omega
       .have h6:G (Q w)<=b:=au h5 (au h4 h3);have:=gS.iA R.o.out.own b m;omega
      .rcases(bk.o j e).1 with m|m|m
       .exact .inl (by rw[<-m];exact e)
       .exact .inr (.inl ⟨_,_,_,_,_,rfl,by rw[<-m];exact e⟩)
       .exact .inr (.inr m)
     have d5:=gj bx;clear bx a8 g1 g2 g3 g4;go_wp2;go_ret;exact d5.o
open Go.Shelf
def Kn(K:Ve)(w w':Q0)(k:Nat):Prop:=K k\/(G (Q w)<=k/\k<G (Q w'))
theorem pY.grow{w w':Q0}{K D:Ve}{X:Nat}{H:gA}{P:Option iM}(h:pY w K X H P)(b:gR D w w')(d:∀k,D k->K k/\2<=k):pY w' (Kn K w w') X H P:=by obtain⟨⟨M,h1,i⟩,j,l,m,o⟩:=h;exact⟨⟨_,h1.bound.frame b fun k hk e=>i k hk.1 (d k e).1,fun k hk e=>e.elim (i k hk.1) fun e=>by have:=hk.2;omega⟩,j.ext b fun k e=>(d k e).2,l.ext b fun k e=>(d k e).2,fun k hk=>.inl (m k hk),fun k hk=>hk.elim (fun hk=>ae (o k hk) b.size) fun hk=>hk.2⟩
def wH(w:Q0)(C:Ve)(n:Nat)(r:Q4)(A M:Nat)(m:Nat×Vd):Prop:=(C M\/M=A)/\∃t d i l o q s b,w.heap[M]?=N (Q1 #[I Re (m.1:Nat),t,d,i,l,I Y n,r,o,q,s,b] 53 (0,0))/\iD w t m.2/\∀j,Rl t=N j->C j
theorem wH.self{w:Q0}{C:Ve}{A n:Nat}{l:Vf}{t o r g:Q4}{a:iy}(h:jW w A n l t o r g a)(b:∀j,Rl t=N j->C j):wH w C n r A A (a.V,a.T):=
 ⟨.inr rfl,t,_,_,_,_,_,_,_,h.row,h.T,b⟩
theorem wH.ext{w w':Q0}{C d D:Ve}{A x n M:Nat}{r:Q4}{m:Nat×Vd}(h:wH w C n r A M m)(i:C M)(l:gR D w w')(o:∀k,C k->¬D k)(q:∀k,C k->d k):wH w' d n r x M m:=by obtain⟨-,t,y,B,E,F,R,S,s,U,V,u⟩:=h;exact⟨.inl (q M i),t,y,B,E,F,R,S,s,l.at (o M i) U,gE.frame V fun b e W=>l.block b W (o b (u b e)),fun j e=>q j (u j e)⟩
def BF(Ms:List Nat):Array Q4:=(Ms.map fun M=>Q5 (N ⟨M,0,J⟩)).toArray
structure nH(w:Q0)(b:Nat)(Z:Nat->Obj->Prop)(W X A:Nat)(K C:Ve)(t o r g ev:Q4)(mb:Nat)(Ms:List Nat)(n:Nat)(l:Vf)(H:gA)(P:Option iM)(a:iy)(maybe:Vg)(ever:Vd)(armed:Bool):Prop where
 row:w.heap[W]?=N (Q1 #[Q5 (N ⟨X,0,J⟩),Q5 (N ⟨A,0,J⟩),Q6 (N ⟨mb,0,J⟩) (O Ms) (O Ms),ev,Rh armed] 58 (0,0))
 mbr:w.heap[mb]?=N (Q1 (BF Ms) 55 (0,0))
 len:O Ms=O maybe
 two:O Ms<=2
 mem:∀(i M:Nat) m,Ms[i]?=N M->maybe[i]?=N m->wH w C n r A M m/\(M=A->m=(a.V,a.T))
 rg:jW w A n l t o r g a
 x:pY w K X H P
 evo:gS w b 3 ev (O ever) (gV ever)
 evT:gQ w ev 108
 kW:K W/\b<=W
 kA:K A/\b<=A
 ct:∀j,Rl t=N j->C j
 cr:∀j,Rl r=N j->C j
 cmb:C mb
 cg:∀j,Rl g=N j->K j/\j≠W/\Rl ev≠N j
 ko:∀j,Rl o=N j->K j/\b<=j
 kev:∀j,Rl ev=N j->K j
 c:∀j,C j->K j/\j≠A/\j≠W/\Rl o≠N j/\Rl ev≠N j
 kb:∀k,k<b->K k
 b2:2<=b
 z:∀j x,Z j x->C j/\w.heap[j]?=N x
section
variable {w w':Q0} {Z:Nat->Obj->Prop} {b W X A:Nat} {K K' C:Ve} {t o o' r g g' ev ev':Q4} {mb:Nat} {Ms:List Nat} {n:Nat} {l:Vf} {H H':gA} {P P':Option iM} {a a':iy} {maybe:Vg} {ever ever':Vd} {armed armed':Bool}
theorem nH.ne(h:nH w b Z W X A K C t o r g ev mb Ms n l H P a maybe ever armed):W≠A/\(∀j,Rl o=N j->j≠W/\j≠A/\Rl ev≠N j)/\∀j,Rl ev=N j->j≠W/\j≠A:=by
 refine⟨fun e=>?_,fun j e=>⟨fun d=>?_,fun d=>?_,fun d=>?_⟩,fun j e=>⟨fun d=>?_,fun d=>?_⟩⟩
 .have h1:=h.row;rw[e,h.rg.row]at h1;simp at h1
 .exact h.rg.out.typ.ne h.row (by decide) (by rw[e,d])
 .exact h.rg.sepA.2.2.2 (by rw[e,d])
 .obtain⟨m,f,i⟩:=h.evT j d;exact h.rg.out.typ.ne i (by decide) e
 .exact h.evT.ne h.row (by decide) (by rw[e,d])
 .exact h.evT.ne h.rg.row (by decide) (by rw[e,d])
theorem nH.lt(h:nH w b Z W X A K C t o r g ev mb Ms n l H P a maybe ever armed):b<=G (Q w):=au h.kW.2 (Nat.le_of_lt (h.x.lt W h.kW.1))
theorem nH.oK(h:nH w b Z W X A K C t o r g ev mb Ms n l H P a maybe ever armed){D:Ve}(E:gR D w w')(F:∀j,C j->¬D j)(R:w'.heap[W]?=N (Q1 #[Q5 (N ⟨X,0,J⟩),Q5 (N ⟨A,0,J⟩),Q6 (N ⟨mb,0,J⟩) (O Ms) (O Ms),ev',Rh armed'] 58 (0,0)))(B:jW w' A n l t o' r g' a')(hV:a'.V=a.V)(hT:a'.T=a.T)(hX:pY w' K' X H' P')(hK:∀j,K j->K' j)(ak:gS w' b 3 ev' (O ever') (gV ever'))(S:gQ w' ev' 108)(ho:∀j,Rl o'=N j->Rl o=N j\/(G (Q w)<=j/\K' j))(hg:∀j,Rl g'=N j->Rl g=N j\/(G (Q w)<=j/\K' j/\ev'=ev))(he:∀j,Rl ev'=N j->Rl ev=N j\/(G (Q w)<=j/\K' j)):
  nH w' b Z W X A K' C t o' r g' ev' mb Ms n l H' P' a' maybe ever' armed':=by
 have s:=h.x.lt;have a4:=h.lt;refine⟨R,E.at (F mb h.cmb) h.mbr,h.len,h.two,fun i M m e1 d=>?_,B,hX,ak,S,⟨hK W h.kW.1,h.kW.2⟩,⟨hK A h.kA.1,h.kA.2⟩,h.ct,h.cr,h.cmb,fun j e=>?_,fun j e=>?_,fun j e=>?_,fun j hj=>?_,fun k hk=>hK k (h.kb k hk),h.b2,fun j x U=>⟨(h.z j x U).1,E.at (F j (h.z j x U).1) (h.z j x U).2⟩⟩
 .obtain⟨m1,m2⟩:=h.mem i M m e1 d;rcases m1.1 with y|y
  .exact⟨m1.ext y E F fun _ h=>h,fun e=>absurd e (h.c M y).2.1⟩
  .subst y;have hm:=m2 rfl;subst hm;have:=wH.self B h.ct;rw[hV,hT]at this;exact⟨this,fun _=>by rw[hV,hT]⟩
 .rcases hg j e with d|⟨d,q,e4⟩
  .refine⟨hK j (h.cg j d).1,(h.cg j d).2.1,fun u=>?_⟩;rcases he j u with e6|e6
   .exact(h.cg j d).2.2 e6
   .have:=s j (h.cg j d).1;omega
  .refine⟨q,fun u=>?_,fun u=>?_⟩
   .have:=s W h.kW.1;omega
   .rw[e4]at u;have:=s j (h.kev j u);omega
 .rcases ho j e with d|⟨d,q⟩
  .exact⟨hK j (h.ko j d).1,(h.ko j d).2⟩
  .exact⟨q,by omega⟩
 .rcases he j e with d|⟨d,q⟩
  .exact hK j (h.kev j d)
  .exact q
 .obtain⟨c1,c2,c3,c4,c5⟩:=h.c j hj;have:=s j c1;refine⟨hK j c1,c2,c3,fun e=>?_,fun e=>?_⟩
  .rcases ho j e with d|⟨d,q⟩
   .exact c4 d
   .omega
  .rcases he j e with d|⟨d,q⟩
   .exact c5 d
   .omega
theorem nH.kQ(h:nH w b Z W X A K C t o r g ev mb Ms n l H P a maybe ever armed)(hk:nA K w w')(m:pY w' K X H' P'):nH w' b Z W X A K C t o r g ev mb Ms n l H' P' a maybe ever armed:=
 h.oK hk (fun j d e=>e (h.c j d).1) (hk.at h.kW.1 h.row) (h.rg.ext hk (fun e=>e h.kA.1) fun j e i=>i (e.elim (fun e=>(h.c j (h.ct j e)).1) fun e=>e.elim (fun e=>(h.ko j e).1) fun e=>e.elim (fun e=>(h.c j (h.cr j e)).1) fun e=>(h.cg j e).1)) rfl rfl m (fun _ e=>e)
  (h.evo.frame hk.size fun j e d=>hk.block j d fun i=>i (h.kev j e)) (h.evT.frame fun j e d=>hk.block j d fun i=>i (h.kev j e)) (fun _=>.inl) (fun _=>.inl) fun _=>.inl
theorem nH.below(h:nH w b Z W X A K C t o r g ev mb Ms n l H P a maybe ever armed)(d:Q8 (G (Q w)) w w'):nH w' b Z W X A K C t o r g ev mb Ms n l H P a maybe ever armed:=h.kQ (gR.gO d) (h.x.below d)
theorem nH.grow(h:nH w b Z W X A K C t o r g ev mb Ms n l H P a maybe ever armed)(i:Q8 (G (Q w)) w w'):nH w' b Z W X A (Kn K w w') C t o r g ev mb Ms n l H P a maybe ever armed:=by have d:gR (fun _=>False) w w':=gR.gO i;exact h.oK d (fun _ _ e=>e) (d.at (fun e=>e) h.row) (h.rg.below i) rfl rfl (h.x.grow d fun _ e=>e.elim) (fun _=>.inl) (h.evo.below i) (h.evT.frame fun j e m=>d.block j m fun e=>e) (fun _=>.inl) (fun _=>.inl) fun _=>.inl
theorem nH.Nz(h:nH w b Z W X A K C t o r g ev mb Ms n l H P a maybe ever armed)(h1:jW w' A n l t o' r g' a')(d:gR (KE A o) w w')(B:∀j,Rl o'=N j->Rl o=N j\/G (Q w)<=j)(D:∀j,Rl g'=N j->Rl g=N j\/G (Q w)<=j)(E:a'.V=a.V)(F:a'.T=a.T):nH w' b Z W X A (Kn K w w') C t o' r g' ev mb Ms n l H P a' maybe ever armed/\Q8 b w w':=by obtain⟨M,u,R⟩:=h.ne;have q:∀k,KE A o k->K k/\b<=k:=fun k e=>e.elim (fun e=>by rw[e];exact h.kA) fun e=>h.ko k e;have y:∀j,Rl ev=N j->¬KE A o j:=fun j e s=>s.elim (R j e).2 fun i=>(u j i).2.2 e;refine⟨h.oK d (fun j m s=>s.elim (h.c j m).2.1 (h.c j m).2.2.2.1) (d.at (fun e=>e.elim M fun e=>(u _ e).1 rfl) h.row) h1 E F (h.x.grow d fun k e=>⟨(q k e).1,au h.b2 (q k e).2⟩) (fun _=>.inl) (h.evo.frame d.size fun j e m=>d.block j m (y j e)) (h.evT.frame fun j e m=>d.block j m (y j e)) (fun j e=>(B j e).imp id fun i=>⟨i,.inr ⟨i,gS.iA h1.out.own j e⟩⟩) (fun j e=>(D j e).imp id fun i=>⟨i,.inr ⟨i,h1.lt j (.inr (.inr e))⟩,rfl⟩) fun _=>.inl,d.below h.lt fun k hk e=>by have:=(q k e).2;omega⟩
theorem nH.ref(h:nH w b Z W X A K C t o r g ev mb Ms n l H P a maybe ever armed)(d:mr w A n l t o r g a' w')(i:a'.V=a.V)(j:a'.T=a.T):∃o' g',nH w' b Z W X A (Kn K w w') C t o' r g' ev mb Ms n l H P a' maybe ever armed/\Q8 b w w':=by obtain⟨o',g',h1,m,q,s⟩:=d;exact⟨o',g',h.Nz h1 m q s i j⟩
theorem nH.arm(h:nH w b Z W X A K C t o r g ev mb Ms n l H P a maybe ever armed)(armed':Bool):nH (Rp w ⟨W,4,J⟩ (Rh armed')) b Z W X A K C t o r g ev mb Ms n l H P a maybe ever armed'/\Q8 b w (Rp w ⟨W,4,J⟩ (Rh armed')):=by
 have d:gR (fun j=>j=W) w (Rp w ⟨W,4,J⟩ (Rh armed')):=(gR.refl _ w).setCell ⟨W,4,J⟩ _ (.inl rfl);obtain⟨s,u,q⟩:=h.ne;refine⟨h.oK d (fun j i e=>(h.c j i).2.2.1 e) (QN _ _ 4 _ h.row) (h.rg.ext d (fun e=>s e.symm) fun j e m=>?_) rfl rfl (h.x.other d (fun j e=>by rw[e];exact h.kW.1) fun j e=>by rw[e];exact au h.b2 h.kW.2) (fun _ e=>e) (h.evo.frame d.size fun j e i=>d.block j i (q j e).1) (h.evT.frame fun j e i=>d.block j i (q j e).1) (fun _=>.inl) (fun _=>.inl) fun _=>.inl,d.below h.lt fun k hk e=>by have:=h.kW.2;have y:k=W:=e;omega⟩;rcases e with e|e|e|e
 .exact(h.c j (h.ct j e)).2.2.1 m
 .exact(u j e).1 m
 .exact(h.c j (h.cr j e)).2.2.1 m
 .exact(h.cg j e).2.1 m
end
theorem yR{iS:Array Oper}{o:Oper}{a:Act}{K:Act->Q0->Prop}{d:Exit->Act->Q0->Prop}{Z:Prop}{w:Q0}(m:o.guard=J)(s x:Operand)(u:o.op=.call {callee:=.builtin .append,args:=#[s,x],argTypes:=#[25,25]})(base:Nat)(v:Q4)(os us:Vd)(y:a.eval s=v)(l:gS w base 3 v (O os) (gV os))(B:gQ w v 108)(C:iD w (a.eval x) us)(D:O os+O us<=2932031007402)(i:base<=G (Q w))(h:∀v' w',gS w' base 3 v' (os++us).length (gV (os++us))->w.grownBy w' (Rl v)->gQ w' v' 108->(∀b,Rl v'=N b->Rl v=N b\/b=G (Q w))->K (a.put o.dst v') w'):if Region.wanted o (yielded iS a.tmps)=true then Oper.wp prog o a w K d else Z:=by
 have E:Region.wanted o (yielded iS a.tmps)=true:=by simp[Region.wanted,m]
 rw[aw E];obtain⟨i0,F,q,j,r⟩:=dE Bh;have hmx:maxLen=9223372036854775807:=rfl;refine lL s x _ _ u base 3 108 i0 _ underlying25 F q j (by rw[j];rfl) (by omega) v (O os) (gV os) y l B (O us) (gV us) (gE.src underlying25 C (tT us)) (by omega) (by rw[r];omega) i (fun v' w' h1 M R S=>?_);rw[<-oY,<-ab]at h1;exact h v' w' h1 M R S
theorem nH.everSet{w w1 w':Q0}{Z:Nat->Obj->Prop}{b W X A:Nat}{K C:Ve}{t o r g ev ev':Q4}{mb:Nat}{Ms:List Nat}{n:Nat}{l:Vf}{H:gA}{P:Option iM}{a:iy}{maybe:Vg}{ever ever':Vd}{armed:Bool}(h:nH w b Z W X A K C t o r g ev mb Ms n l H P a maybe ever armed)(y:w.grownBy w1 (Rl ev))(h1:gS w1 b 3 ev' (O ever') (gV ever'))(B:gQ w1 ev' 108)(R:∀j,Rl ev'=N j->Rl ev=N j\/j=G (Q w))(S:w'=Rp w1 ⟨W,3,J⟩ ev'):
  nH w' b Z W X A (Kn K w w') C t o r g ev' mb Ms n l H P a maybe ever' armed/\gR (fun j=>j=W\/Rl ev=N j) w w'/\Q8 b w w':=by
 subst S;have D:gR (fun j=>j=W\/Rl ev=N j) w w1:=(nJ y).mono fun j=>.inr;have i:gR (fun j=>j=W\/Rl ev=N j) w (Rp w1 ⟨W,3,J⟩ ev'):=D.setCell _ _ (.inl (.inl rfl));obtain⟨U,E,F⟩:=h.ne;have s:w1.heap[W]?=_:=(nJ y).at (fun e=>(F W e).1 rfl) h.row;have u:Rl ev'≠N W:=fun e=>B.ne s (by decide) e;have m:∀j,j≠W->(Rp w1 ⟨W,3,J⟩ ev').heap[j]?=w1.heap[j]?:=fun j e=>Below.heap_setCell w1 ⟨W,3,J⟩ _ j e;have hK:∀j,(j=W\/Rl ev=N j)->K j/\b<=j:=fun j e=>e.elim (fun e=>by rw[e];exact h.kW) fun e=>⟨h.kev j e,gS.ie h.evo j e⟩
 refine⟨h.oK i (fun j M d=>d.elim (h.c j M).2.2.1 (h.c j M).2.2.2.2) (QN _ _ 3 _ s) (h.rg.ext i (fun e=>e.elim (fun e=>U e.symm) fun e=>(F A e).2 rfl) fun j e d=>?_) rfl rfl (h.x.grow i fun k e=>⟨(hK k e).1,au h.b2 (hK k e).2⟩) (fun _=>.inl)
  (h1.frame (by rw[QO];exact aq _) fun j e _=>m j fun q=>u (by rw[e,q])) (B.frame fun j e _=>m j fun q=>u (by rw[e,q])) (fun _=>.inl) (fun j e=>.inl e) fun j e=>(R j e).imp id fun q=>⟨by omega,.inr ⟨by omega,by rw[QO];exact h1.iA j e⟩⟩,i,i.below h.lt fun k hk e=>by have:=(hK k e).2;omega⟩
 rcases e with e|e|e|e
 .exact d.elim (h.c j (h.ct j e)).2.2.1 (h.c j (h.ct j e)).2.2.2.2
 .exact d.elim (E j e).1 (E j e).2.2
 .exact d.elim (h.c j (h.cr j e)).2.2.1 (h.c j (h.cr j e)).2.2.2.2
 .exact d.elim (h.cg j e).2.1 (h.cg j e).2.2
theorem vk{w:Q0}{W:Nat}{a b c d e:Q4}{T E:TypeId}(h:w.heap[W]?=N (Q1 #[a,b,c,d,e] T (0,0)))(v:Q4)(cs:Array Q4):gR (fun j=>j=W) w ((Rp w ⟨W,2,J⟩ v).alloc (Q1 cs E))/\((Rp w ⟨W,2,J⟩ v).alloc (Q1 cs E)).heap[W]?=N (Q1 #[a,b,v,d,e] T (0,0))/\((Rp w ⟨W,2,J⟩ v).alloc (Q1 cs E)).heap[G (Q w)]?=N (Q1 cs E (0,0)):=
 ⟨((gR.refl (fun j=>j=W) w).setCell ⟨W,2,J⟩ v (.inl rfl)).alloc _,gP _ _ (QN _ _ 2 v h),by have:=gB (Rp w ⟨W,2,J⟩ v) (Q1 cs E);rwa [QO]at this⟩
theorem nH.QB{w w':Q0}{Z:Nat->Obj->Prop}{b W X A:Nat}{K C B:Ve}{t o r g ev:Q4}{mb d:Nat}{Ms Ms':List Nat}{n:Nat}{l:Vf}{H:gA}{P:Option iM}{a:iy}{maybe maybe':Vg}{ever:Vd}{armed:Bool}(h:nH w b Z W X A K C t o r g ev mb Ms n l H P a maybe ever armed)(q:gR (fun j=>j=W) w w')(S:w'.heap[W]?=N (Q1 #[Q5 (N ⟨X,0,J⟩),Q5 (N ⟨A,0,J⟩),Q6 (N ⟨d,0,J⟩) (O Ms') (O Ms'),ev,Rh armed] 58 (0,0)))(hr:w'.heap[d]?=N (Q1 (BF Ms') 55 (0,0)))(ak:G (Q w)<=d)(hl:O Ms'=O maybe')(h2:O Ms'<=2)(hm:∀(i M:Nat) m,Ms'[i]?=N M->maybe'[i]?=N m->wH w B n r A M m/\(M=A->m=(a.V,a.T)))(D:∀j,C j->B j)(u:∀j,B j->K j/\j≠A/\j≠W/\Rl o≠N j/\Rl ev≠N j):
  nH w' b Z W X A (Kn K w w') (fun j=>B j\/j=d) t o r g ev d Ms' n l H P a maybe' ever armed/\Q8 b w w':=by
 obtain⟨n1,n4,n5⟩:=h.ne;have y:=h.x.lt;have am:d≠W:=fun e=>by have:=y W h.kW.1;omega
 have U:=gm hr;have R:jW w' A n l t o r g a:=h.rg.ext q (fun e=>n1 e.symm) fun j e E=>by
  rcases e with e|e|e|e
  .exact(h.c j (h.ct j e)).2.2.1 E
  .exact(n4 j e).1 E
  .exact(h.c j (h.cr j e)).2.2.1 E
  .exact(h.cg j e).2.1 E
 refine⟨⟨S,hr,hl,h2,fun i M m e1 e2=>?_,R,h.x.grow q fun k e=>by rw[e];exact⟨h.kW.1,au h.b2 h.kW.2⟩,h.evo.frame q.size fun j e s=>q.block j s (n5 j e).1,h.evT.frame fun j e s=>q.block j s (n5 j e).1,⟨.inl h.kW.1,h.kW.2⟩,⟨.inl h.kA.1,h.kA.2⟩,fun j e=>.inl (D j (h.ct j e)),fun j e=>.inl (D j (h.cr j e)),.inr rfl,fun j e=>⟨.inl (h.cg j e).1,(h.cg j e).2⟩,fun j e=>⟨.inl (h.ko j e).1,(h.ko j e).2⟩,fun j e=>.inl (h.kev j e),fun j s=>?_,fun k hk=>.inl (h.kb k hk),h.b2,fun j x hz=>⟨.inl (D j (h.z j x hz).1),q.at (fun e=>(h.c j (h.z j x hz).1).2.2.1 e) (h.z j x hz).2⟩⟩,q.below h.lt fun k hk e=>by have:=h.kW.2;have e2:k=W:=e;omega⟩
 .obtain⟨m1,m2⟩:=hm i M m e1 e2;rcases m1.1 with F|F
  .exact⟨m1.ext F q (fun k hk e=>(u k hk).2.2.1 e) fun _=>.inl,fun e=>absurd e (u M F).2.1⟩
  .subst F;have aE:=m2 rfl;subst aE;exact⟨wH.self R fun j e=>.inl (D j (h.ct j e)),fun _=>rfl⟩
 .rcases s with s|rfl
  .exact⟨.inl (u j s).1,(u j s).2⟩
  .refine⟨.inr ⟨ak,U⟩,fun e=>?_,am,fun e=>?_,fun e=>?_⟩
   .have:=y A h.kA.1;omega
   .have:=y j (h.ko j e).1;omega
   .have:=y j (h.kev j e);omega
theorem nH.QH{w:Q0}{Z:Nat->Obj->Prop}{b W X A:Nat}{K C:Ve}{t o r g ev:Q4}{mb:Nat}{Ms:List Nat}{n:Nat}{l:Vf}{H:gA}{P:Option iM}{a:iy}{maybe:Vg}{ever:Vd}{armed:Bool}{D:Nat}{x:Obj}(h:nH w b Z W X A K C t o r g ev mb Ms n l H P a maybe ever armed)(s:w.heap[D]?=N x)(hk:K D/\D≠A/\D≠W/\Rl o≠N D/\Rl ev≠N D):
  nH w b (fun j y=>Z j y\/(j=D/\y=x)) W X A K (fun j=>C j\/j=D) t o r g ev mb Ms n l H P a maybe ever armed:=by
 have hm:∀(i M:Nat) m,Ms[i]?=N M->maybe[i]?=N m->wH w (fun j=>C j\/j=D) n r A M m/\(M=A->m=(a.V,a.T)):=fun i M m u B=>by obtain⟨⟨E,t',F,R,S,U,x8,x9,q,q2,q3,q4⟩,q5⟩:=h.mem i M m u B;exact⟨⟨E.imp .inl id,t',F,R,S,U,x8,x9,q,q2,q3,fun j e=>.inl (q4 j e)⟩,q5⟩
 exact⟨h.row,h.mbr,h.len,h.two,hm,h.rg,h.x,h.evo,h.evT,h.kW,h.kA,fun j e=>.inl (h.ct j e),fun j e=>.inl (h.cr j e),.inl h.cmb,h.cg,h.ko,h.kev,fun j hj=>hj.elim (h.c j) fun e=>by rw[e];exact hk,h.kb,h.b2,fun j y d=>d.elim (fun d=>⟨.inl (h.z j y d).1,(h.z j y d).2⟩) fun d=>⟨.inr d.1,by rw[d.1,d.2];exact s⟩⟩
theorem nH.Po{w:Q0}{Z d:Nat->Obj->Prop}{b W X A:Nat}{K C:Ve}{t o r g ev:Q4}{mb:Nat}{Ms:List Nat}{n:Nat}{l:Vf}{H:gA}{P:Option iM}{a:iy}{maybe:Vg}{ever:Vd}{armed:Bool}(h:nH w b Z W X A K C t o r g ev mb Ms n l H P a maybe ever armed)(i:∀j x,d j x->Z j x):nH w b d W X A K C t o r g ev mb Ms n l H P a maybe ever armed:=
 ⟨h.row,h.mbr,h.len,h.two,h.mem,h.rg,h.x,h.evo,h.evT,h.kW,h.kA,h.ct,h.cr,h.cmb,h.cg,h.ko,h.kev,h.c,h.kb,h.b2,fun j x e=>h.z j x (i j x e)⟩
theorem yx{p:iM}(d:∀f,p.a.l4=N f->1<=f.1/\f.1<=14/\p.nQ<=100000/\(f.1=12↔1<=p.nQ)):∃s,xy p=((oP p.a).1,(oP p.a).2,s)/\((oP p.a).1=12↔1<=s):=by
 unfold xy oP;cases h:p.a.l4 with
 | none=>exact⟨0,rfl,by simp⟩
 | some f=>
  obtain⟨h1,j,l,i⟩:=d f h;refine⟨_,rfl,?_⟩;simp only;by_cases b:f.1=12
  .rw[aw b];exact i
  .rw[af b];exact⟨fun e=>absurd e b,fun e=>by omega⟩
theorem nH.cells{w:Q0}{Z:Nat->Obj->Prop}{b W X A:Nat}{K C:Ve}{t o r g ev:Q4}{mb:Nat}{Ms:List Nat}{n:Nat}{l:Vf}{H:gA}{P:Option iM}{a:iy}{maybe:Vg}{ever:Vd}{armed:Bool}(h:nH w b Z W X A K C t o r g ev mb Ms n l H P a maybe ever armed):
  Rn w ⟨W,0,J⟩=N (Q5 (N ⟨X,0,J⟩))/\Rn w ⟨W,1,J⟩=N (Q5 (N ⟨A,0,J⟩))/\Rn w ⟨W,2,J⟩=N (Q6 (N ⟨mb,0,J⟩) (O Ms) (O Ms))/\Rn w ⟨W,3,J⟩=N ev/\Rn w ⟨W,4,J⟩=N (Rh armed)/\W<G (Q w):=
 ⟨gr 0 h.row,gr 1 h.row,gr 2 h.row,gr 3 h.row,gr 4 h.row,gm h.row⟩
def Fx(b:Nat)(Z:Nat->Obj->Prop)(W X A:Nat)(C:Ve)(t r ev:Q4)(mb:Nat)(Ms:List Nat)(n:Nat)(l:Vf)(H:gA)(maybe:Vg)(ever:Vd)(armed:Bool)(s B:Nat)(w wr:Q0):Prop:=∃K o g p' a',nH wr b Z W X A K C t o r g ev mb Ms n l H (N p') a' maybe ever armed/\uG n l s B H (N p') a' maybe ever armed/\Q8 b w wr
section
variable {w:Q0} {Z:Nat->Obj->Prop} {b W X A:Nat} {K C:Ve} {t o r g ev:Q4} {mb:Nat} {Ms:List Nat} {n:Nat} {l:Vf} {H:gA} {P:Option iM} {p:iM} {a:iy} {maybe:Vg} {ever:Vd} {armed:Bool}
theorem qz(h:nH w b Z W X A K C t o r g ev mb Ms n l H (N p) a maybe ever armed)(V:p.a=a)(u:∀f,a.l4=N f->1<=f.1/\f.1<=14/\p.nQ<=100000/\(f.1=12↔1<=p.nQ)):
  Rg prog 32 #[Q5 (N ⟨W,0,J⟩)] w fun e w'=>e=Ra (Rh true)/\Q8 (G (Q w)) w w':=by
 subst V;obtain⟨s,M,d⟩:=yx u;have y:=gj (sO K X H p w h.x (fun f e=>⟨(u f e).1,(u f e).2.1,(u f e).2.2.1⟩));rw[M]at y;obtain⟨c0,-,-,-,-,i⟩:=h.cells;have HH:=gj h;obtain⟨k,hk⟩:∃k,k=(oP p.a).1:=⟨_,rfl⟩;obtain⟨q,hq⟩:∃q,q=(oP p.a).2:=⟨_,rfl⟩;have HK:=gj hk;have HQ:=gj hq;rw[<-hk]at d y;rw[<-hq]at y;clear h u M hk hq;unfold sH at y;have aa:(((k:Int)==12)=true/\(0:Int)<s)\/(((k:Int)==12)=false/\¬(0:Int)<s):=by
  by_cases e:k=12
  .exact .inl ⟨by simp;omega,by have:=d.1 e;omega⟩
  .exact .inr ⟨by simp;omega,by have:=fun x=>e (d.2 x);omega⟩
 clear d;go_enter func32,ntmps32;go_wp2_with fail;refine y.o.mono ?_;rintro e w2 ⟨rfl,R⟩;have B:Q8 (G (Q w)) w (Ro w2 (Q1 #[I Y (k:Int),I Y (q:Int),I Y (s:Int)] 34)):=R.al _;have U:=gB w2 (Q1 #[I Y (k:Int),I Y (q:Int),I Y (s:Int)] 34);clear c0 i R;go_upto_region 2 with fail;generalize Ro w2 (Q1 #[I Y (k:Int),I Y (q:Int),I Y (s:Int)] 34)=w3 at *
 have D:=gj (HH.o.below B);obtain⟨c0,c1,-,-,-,i⟩:=D.o.cells;have a3:=gr 3 D.o.rg.row;have a4:=gr 4 D.o.rg.row;have S:=gm D.o.rg.row;rw[<-HK.o]at a3;rw[<-HQ.o]at a4;have j:Q8 (G (Q w3)) w3 (Ro w3 (Q1 #[I Y (k:Int),I Y (q:Int)] 31)):=(Below.rf w3).al _;have G4:=gB w3 (Q1 #[I Y (k:Int),I Y (q:Int)] 31);have E:=gC j (gm U) U;have F:=gj (D.o.below j);have ak:=gj (B.tn j);clear U B j;go_upto_region 3 with fail;clear c0 c1 i a3 a4 S;generalize Ro w3 (Q1 #[I Y (k:Int),I Y (q:Int)] 31)=w4 at *
 obtain⟨c0,c1,-,-,-,i⟩:=F.o.cells;have a0:=gr 0 F.o.rg.row;have S:=gm F.o.rg.row;have f0:=gr 0 E;have f1:=gr 1 E;have f2:=gr 2 E;have a1:=gm E;obtain⟨g0,g1,a2⟩:=xc G4;have HV:=gj (fun m=>ym K X H p (w4.drewN m) (F.o.x.below ((Below.rf w4).drewN m)));clear E G4;go_quiet ((first|(go_at_call 40;exact Calls.quiet_of_same (HV.o _))));rcases aa with ⟨h1,h2⟩|⟨h1,h2⟩
 all_goals
  go_wp2;go_ret;refine⟨by simp[];omega,ak.o.drewN _⟩
theorem yV(h:nH w b Z W X A K C t o r g ev mb Ms n l H P a maybe ever armed)(hS:∀x∈H.dp.S,x∈ever)(hl:O H.dp.S<=1000000)(he:O ever<=1000000000):
  Rg prog 90 #[Q5 (N ⟨W,0,J⟩)] w fun e w'=>e=Ra (Rh true)/\Q8 (G (Q w)) w w':=by
 obtain⟨c0,-,-,-,-,m⟩:=h.cells;have HH:=gj h;have HS:=gj hS;have HD:=gj (Eb K X H P w h.x hl);clear h hS;go_enter func90,ntmps90;go_wp2_with fail;refine HD.o.mono ?_;rintro e w2 ⟨v,rfl,M,D⟩;obtain⟨va,vc,rfl,-,-⟩:=M.gU;have HV:=gj M;have E:=gj D;clear M D c0 m HD;go_wp2_with fail;go_loopw [4] (fun i wr=>∃k:Nat,k<=O H.dp.S/\i=I Y (k:Int)/\Q8 (G (Q w2)) w2 wr) (fun i _=>O H.dp.S-(intOf i).toNat)
 case atStart=>exact⟨0,aJ _,rfl,Below.rf _⟩
 case round=>
  obtain⟨k,hk,rfl,hb⟩:=hrel;have y:=gj hb;clear hb;by_cases F:k<O H.dp.S
  .have R:(k:Int)<O H.dp.S:=by omega
   obtain⟨a',c',e',-,hx⟩:=(HV.o.below y.o).gU;cases e';obtain⟨x,q⟩:∃x,H.dp.S[k]=x:=⟨_,rfl⟩;have hm:x∈ever:=HS.o x (by rw[<-q];exact bq F);obtain⟨gb,off,rfl,B,U,V⟩:=hx k F;rw[q]at B U V;have s:=gK B;have H3:=gj (HH.o.below (E.o.tn y.o));obtain⟨-,-,-,c3,-,m⟩:=H3.o.cells;have j:=gj (fun W' (hW:Q8 (G (Q wr)) wr W')=>BM ev ever x W' (gE.below H3.o.evo.IA hW) he);rw[bh hm]at j;clear hx q hm;unfold sG at j;go_wp2_with fail
   go_region_held3 (fun w'=>Rn w' ⟨W,3,J⟩=N ev/\Rn w' ⟨gb,off+k*3,J⟩=N (I Y x.1.1)/\Rn w' ⟨gb,off+k*3+1,J⟩=N (Q7 ⟨Rm x.1.2⟩)/\Rn w' ⟨gb,off+k*3+2,J⟩=N (Q7 ⟨Rm x.2⟩))
    (first|exact⟨c3,B,U,V⟩|exact⟨(d.o.cell (p:=⟨W,3,J⟩) m).trans c3,(d.o.cell (p:=⟨gb,off+k*3,J⟩) s).trans B,(d.o.cell (p:=⟨gb,off+k*3+1,J⟩) s).trans U,(d.o.cell (p:=⟨gb,off+k*3+2,J⟩) s).trans V⟩)
    (first|(go_at_call 58;refine(j.o _ (by first|exact Below.rf _|exact(Below.rf _).drew)).mono ?_;rintro e w3 ⟨rfl,u⟩;have d:gy (Q8 (G (Q wr)) wr w3):=gj (by first|exact u|exact(Below.rf wr).drew.tn u);clear u))
   all_goals
    go_wp2;go_roundw
    case rel=>exact⟨k+1,by omega,by go_num,y.o.tn d.o⟩
    case measure=>simp[intOf];omega
  .obtain rfl:k=O H.dp.S:=by omega
   have R:¬(O H.dp.S:Int)<O H.dp.S:=by omega
   go_wp2;go_ret;exact⟨rfl,E.o.tn y.o⟩
theorem uq(s B d:Nat)(h:nH w b Z W X A K C t o r g ev mb Ms n l H (N p) a maybe ever armed)(m:uG n l s B H (N p) a maybe ever armed)(hd:H.dp.ir=false)(hN:d<=100):
  Rg prog 33 #[Q5 (N ⟨W,0,J⟩),I Y (d:Int)] w fun e w'=>e=Ra (Rh true)/\Fx b Z W X A C t r ev mb Ms n l H maybe ever armed s B w w':=by
 have u:gy (Fx b Z W X A C t r ev mb Ms n l H maybe ever armed s B w w):=gj ⟨K,o,g,p,a,h,m,kz⟩;clear h m;go_enter func33,ntmps33;go_wp2_with fail;go_loopw [5] (fun i wr=>∃k:Nat,k<=d/\i=I Y (k:Int)/\Fx b Z W X A C t r ev mb Ms n l H maybe ever armed s B w wr) (fun i _=>d-(intOf i).toNat)
 case atStart=>exact⟨0,aJ _,rfl,u.o⟩
 case round=>
  obtain⟨k,hk,rfl,hrel⟩:=hrel;clear u;by_cases a6:k<d
  .have aa:(k:Int)<(d:Int):=by omega
   obtain⟨K',o',g',p',a',hw,m,hb⟩:=hrel;obtain⟨rfl,u2,u3,-⟩:=m.up hd;obtain⟨c0,-,-,-,-,j⟩:=hw.cells;have y:=gj hw;have D:=gj m;have HB:=gj hb;have HF:=gj u3;clear hw m hb u2 u3;obtain⟨sl,E⟩:∃sl,sl=(p'.a.next.2.getD []):=⟨_,rfl⟩;obtain⟨bl,F⟩:∃bl,bl=p'.a.next.2.isSome:=⟨_,rfl⟩;have M:gy (Km p'.a.next.2=.tuple #[Q7 ⟨Rm sl⟩,Rh bl]):=gj (by rw[E,F];rfl);clear E F;go_wp2_with fail;refine(Mm K' X H p' wr y.o.x HF.o).mono ?_;rintro e w2 ⟨rfl,R,q⟩;rw[M.o];have H2:=gj (y.o.kQ q R);have a1:=gj (HB.o.trans (q.below (au y.o.kW.2 (Nat.le_of_lt j)) y.o.kb));clear R q c0 j;obtain⟨-,c1,-,-,-,j⟩:=H2.o.cells;go_wp2_with fail;refine(GZ A n l t o' r g' p'.a w2 H2.o.rg HF.o).mono ?_;rintro e w3 ⟨rfl,S⟩;rw[M.o];obtain⟨n1,n2,n3⟩:=Lr p'.a;obtain⟨o3,g3,U,V⟩:=H2.o.ref S n1 n2;have aE:gy (Fx b Z W X A C t r ev mb Ms n l H maybe ever armed s B w w3):=gj ⟨_,o3,g3,_,_,U,⟨D.o.st.own n1 n2 n3 rfl HF.o.next,D.o.iF,D.o.evl,D.o.B⟩,a1.o.trans V⟩;clear U V S c1 j n1 n2 n3;go_wp2;go_roundw
   case rel=>exact⟨k+1,by omega,by go_num,aE.o⟩
   case measure=>simp[intOf];omega
  .obtain rfl:k=d:=by omega
   have aa:¬(k:Int)<(k:Int):=by omega
   have u:=gj hrel;clear hrel;go_wp2;go_ret;exact⟨rfl,u.o⟩
theorem Cj(s B:Nat)(h:nH w b Z W X A K C t o r g ev mb Ms n l H (N p) a maybe ever armed)(hs:uG n l s B H (N p) a maybe ever armed)(hd:H.dp.ir=false):
  Rg prog 91 #[Q5 (N ⟨W,0,J⟩)] w fun e w'=>e=Ra (Rh true)/\nH w' b Z W X A K C t o r g ev mb Ms n l H (N p) a maybe ever armed/\Q8 b w w':=by
 obtain⟨rfl,u2,u3,u4,-,u6⟩:=hs.up hd;have y:=hs.iF rfl hd;have a6:=u6.len;have HH:=gj h;have a9:=gj u4;obtain⟨T,D⟩:∃T,T=p.a.T:=⟨_,rfl⟩;rw[<-D]at u2 a6;have E:=gj (Fs K X H p w h.x (by rw[<-D];omega));rw[<-D]at E;have am:gy (∀W',Q8 (G (Q w)) w W'->iD W' t T):=gj (fun W' u=>by rw[D];exact h.rg.T.below u);have ap:=gj (fun W' (u:Q8 (G (Q w)) w W')=>Eb K X H (N p) W' (h.x.below u) (by rw[u2];omega));rw[u2]at ap;have av:=gj y;obtain⟨c0,-,-,-,-,d⟩:=h.cells;clear h hs hd u2 u3 u4 u6 D y;go_enter func91,ntmps91;go_wp2_with fail;refine E.o.mono ?_;rintro e w2 ⟨v,rfl,hv,-,F⟩;have H2:=gj (HH.o.below F);have aE:=gj F;have bb:=gj (fun W' (u:Q8 (G (Q w2)) w2 W')=>qW v t T W' (hv.below u) (am.o W' (aE.o.tn u)) (by omega));clear c0 d F hv E;obtain⟨-,c1,-,-,-,d⟩:=H2.o.cells;have a1:=gr 1 H2.o.rg.row;have i:=gm H2.o.rg.row;go_wp2_with fail;refine(bb.o _ (Below.rf _)).mono ?_;rintro e w3 ⟨rfl,M⟩;have q:=gj (aE.o.tn M);have H3:=gj (H2.o.below M);clear c1 d a1 i M;obtain⟨c0,c1,-,-,-,d⟩:=H3.o.cells;have a1:=gr 1 H3.o.rg.row;have i:=gm H3.o.rg.row;go_wp2_with fail
 go_region_held3 (fun w'=>Rn w' ⟨W,0,J⟩=N (Q5 (N ⟨X,0,J⟩))/\Rn w' ⟨W,1,J⟩=N (Q5 (N ⟨A,0,J⟩))/\Rn w' ⟨A,1,J⟩=N t)
  (first|exact⟨c0,c1,a1⟩|exact⟨(j.o.cell (p:=⟨W,0,J⟩) d).trans c0,(j.o.cell (p:=⟨W,1,J⟩) d).trans c1,(j.o.cell (p:=⟨A,1,J⟩) i).trans a1⟩|exact⟨(m.o.cell (p:=⟨W,0,J⟩) d).trans c0,(m.o.cell (p:=⟨W,1,J⟩) d).trans c1,(m.o.cell (p:=⟨A,1,J⟩) i).trans a1⟩)
  (first
    | (go_at_call 52;refine(ap.o _ (by first|exact q.o|exact q.o.drew)).mono ?_;rintro e w4 ⟨v4,rfl,a0,R⟩;have j:gy (Q8 (G (Q w3)) w3 w4):=gj (by first|exact R|exact(Below.rf w3).drew.tn R);have bc:=gj a0;clear R a0)
    | (go_at_call 19;refine(qW v4 t T _ bc.o (am.o _ (q.o.tn j.o)) (by omega)).mono ?_;rintro e w5 ⟨rfl,a2⟩;have m:gy (Q8 (G (Q w3)) w3 w5):=gj (j.o.tn a2);clear a2))
 all_goals
  have H5:=gj (H3.o.below m.o);have bk:=gj (q.o.tn m.o);clear c0 c1 a1 d i;go_wp2_with fail;refine(qz H5.o rfl a9.o).mono ?_;rintro e w6 ⟨rfl,S⟩;have U:=gj (H5.o.below S);have bl:=gj (bk.o.tn S);clear S;obtain⟨c0,-,-,-,-,d⟩:=U.o.cells;go_wp2_with fail;refine(vA K X H (N p) w6 U.o.x).mono ?_;rintro e w7 ⟨lv,rfl,a3,V,aa⟩;rw[av.o]at a3;obtain⟨-,la,lc,rfl,-,-⟩:=a3;have bn:({H with dp:={H.dp with iF:=[]}} : gA)=H:=by have:=av.o;obtain⟨x1,x2,x3,x4,x5,x6⟩:=H;obtain⟨y1,y2,y3,y4,y5⟩:=x6;simp only at this;subst this;rfl
  rw[bn]at V;have ag:=And.intro (U.o.kQ aa V) ((bl.o.mono (au HH.o.kW.2 (Nat.le_of_lt (gm HH.o.row)))).trans (aa.below (au U.o.kW.2 (Nat.le_of_lt d)) U.o.kb));have a8:=gj ag;clear ag V aa c0 d;go_wp2;go_ret;exact⟨rfl,a8.o⟩
end
end Go.Proofs.YtkkfmkhbdoeglabGreatDoor
