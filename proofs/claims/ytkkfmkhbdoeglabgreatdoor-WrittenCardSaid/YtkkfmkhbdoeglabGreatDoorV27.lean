/- Lemmas of the proof. No condition. -/
import Derived.Test.YtkkfmkhbdoeglabGreatDoorV26
set_option maxHeartbeats 4000000
set_option maxRecDepth 100000
namespace Go.Proofs.YtkkfmkhbdoeglabGreatDoor
open Go renaming World->Q0,Value->Q4
open Go.IntKind renaming i64->Y,u64->Re
open Go.Obj renaming cells->Q1
open Go.RowKit renaming Below->Q8
open Go.Value renaming int->I,pointer->Q5,slice->Q6,string->Q7,bool->Rh,ownBlock->Rl
open Go.World renaming heap->Q,cell?->Rn,alloc->Ro,setCell->Rp
open List renaming length->O,toArray->Rm
open Option renaming none->J,some->N
open _root_.Array renaming size->G
open Go.Proofs.Tryz
open Go.RowKit
theorem GV(hv wv:Q4)(h t:List E)(w:Q0)(hh:iD w hv h)(ht:iD w wv t)(hl:O h<=1000000)(tl:O t<=1000000)(bb:∀x∈h,O x.1.2<=im/\O x.2<=im)(bc:∀x∈t,O x.1.2<=im/\O x.2<=im):
  Calls prog 15 #[hv,wv] w fun e w'=>∃v,e=.returned v/\nM w' (G (Q w)) v (Dq h t)/\Q8 (G (Q w)) w w':=by
 have HH:=gj hh;have HT:=gj ht;obtain⟨a,cap,rfl,b5,-⟩:=hh.gU;obtain⟨a2,bo,rfl,b0,-⟩:=ht.gU;have bL:=gj bb;have bM:=gj bc;clear hh ht bb bc;go_enter func15,ntmps15;go_wp2_with fail;go_loopw [5,6] (fun ov i wr=>∃k:Nat,k<=O h/\i=I Y (k:Int)/\nM wr (G (Q w)) ov (pZ h t k)/\Q8 (G (Q w)) w wr) (fun _ i _=>O h-(intOf i).toNat)
 case atStart=>exact⟨0,aJ _,rfl,by unfold pZ oh;exact nM.nil _ _,kz⟩
 case round=>
  obtain⟨k,hk,rfl,C,X⟩:=hrel;have U:=gj C;have q:=gj X;have ap:=gj (KS h t k);obtain⟨oa,D,rfl⟩:=C.own.shape;clear C X;by_cases F:k<O h
  .have bs:(k:Int)<O h:=by omega
   obtain⟨a',cap',he,-,hx⟩:=HH.o.gU;cases he;obtain⟨d,l,rfl,C0,C1,C2⟩:=hx k F;have b:d<G (Q w):=gK C0;have c0:=(q.o.cell (p:=⟨d,l+k*3,J⟩) b).trans C0;have c1:=(q.o.cell (p:=⟨d,l+k*3+1,J⟩) b).trans C1;have c2:=(q.o.cell (p:=⟨d,l+k*3+2,J⟩) b).trans C2;have lb:=gK c0;clear C0 C1 C2;clear hx;have Z:=gj (fun W (hW:Q8 (G (Q wr)) wr W)=>GX (Q6 a2 (O t) bo) t h[k] W ((HT.o.below q.o).below hW) (by omega));have aa:=gj (MK h t k F);have am:=gj (bL.o _ (bq F));generalize a3:h[k]=x at *
   rw[Kb]at Z;clear a3;obtain⟨⟨T,r⟩,V⟩:=x;go_wp2_with fail;refine(Z.o _ (Below.rf _)).mono ?_;rintro e w2 ⟨rfl,m⟩;have d0:=(m.cell (p:=⟨d,l+k*3,J⟩) lb).trans c0;have d1:=(m.cell (p:=⟨d,l+k*3+1,J⟩) lb).trans c1;have s:=gj m;have ls:=ae lb m.size;clear c0 c1 c2 m lb;cases hg:(ku (T,r) t).isSome with
   | true=>
    have M:gy (pZ h t (k+1)=pZ h t k):=gj (by rw[aa.o,af (by rw[Option.isNone_eq_false_iff.2 hg];decide),cX]);clear hg;go_wp2;go_roundw
    case rel=>exact⟨k+1,by omega,by go_num,by rw[M.o];exact U.o.below s.o,q.o.tn s.o⟩
    case measure=>simp[intOf];omega
   | false=>
    have bi:(ku (T,r) t).isNone=true:=by rw[fG];exact eY.1 (by rw[hg];decide)
    have M:gy (pZ h t (k+1)=pZ h t k++[oQ (T,r)]):=gj (by rw[aa.o,aw bi]);clear hg bi;have HK:=gj (tL T);have B:∀W:Q0,gI (Ro W (Q1 #[I .u8 (IntKind.u8.wrap T)] 5)) (Q6 (N ⟨G (Q W),0,J⟩) 1 1) [mi T]:=fun W=>by rw[<-HK.o];exact ow W (mi T)
    have k0:=(gI.drewN (B w2) 1).convert;have b6:=(B w2).convert;have k1:=(B w2.drew).convert;rw[show ∀w:Q0,w.drewN 1=w.drew from fun _=>rfl]at k0;have bN:im<=1000000000000000000:=by decide
    have bO:=am.o.1;have bP:=fun W=>nU (P:=prog) [100,114,111,112,32] [mi T] (by simp) W;have bR:=fun W=>nU (P:=prog) [100,114,111,112,32,mi T] r (by simp;omega) W;have a4:=gj (U.o.below s.o);have a5:gy (G (Q w)<=G (Q w2)):=gj (q.o.tn s.o).size;go_upto_region 7 with fail;have hcv:=gI.convert (w:=(Ro w2 (Q1 #[I .u8 (IntKind.u8.wrap T)] 5)).drew) (B w2);have u:=fun o=>gj (show _/\_ from⟨iK o d0,iK o d1⟩);have y:=fun o o'=>gj (show _/\_ from⟨iK o' (iK o d0),iK o' (iK o d1)⟩);refine jI (n:=18) (S:=(fun w'=>Rn w' ⟨d,l+k*3,J⟩=N (I Y T)/\Rn w' ⟨d,l+k*3+1,J⟩=N (Q7 ⟨Rm r⟩))) (by kernel_rfl) (by kernel_rfl) rfl (by first|exact⟨d0,d1⟩|exact(u _).out|exact(y _ _).out|exact⟨(j.o.cell (p:=⟨d,l+k*3,J⟩) b).trans d0,(j.o.cell (p:=⟨d,l+k*3+1,J⟩) b).trans d1⟩) ?_;intro bw;simp only[cJ,b7,bC,cO,aN,bp,bd,bf,bK,aQ,aV];refine lS [0,1,2,3,4,5,6,10,11,12,13,14] ?_
    repeat(refine jx (v:=?_) rfl (by kernel_rfl) (by assumption) (by rfl) (fun _ _ _ h=>h) ?_ ?_;rotate_left 1;(· intro w R;(try dsimp only at R);go_simp;(try with_reducible rfl));try simp only[Act.put,List.setIfInBounds_toArray,List.set_cons_zero,List.set_cons_succ])
    refine ka ?_;refine iT 7 (by kernel_rfl) rfl ?_;intro K' hK';go_simp;refine hK'.out _ _ (by first|exact⟨d0,d1⟩|exact(u _).out|exact(y _ _).out|exact⟨(j.o.cell (p:=⟨d,l+k*3,J⟩) b).trans d0,(j.o.cell (p:=⟨d,l+k*3+1,J⟩) b).trans d1⟩) ?_;clear hK' K';intro bx
    try simp only[az,aG,aK]
    refine iT 8 (by kernel_rfl) rfl ?_;intro K' hK';go_simp;refine hK'.out _ _ (by first|exact⟨d0,d1⟩|exact(u _).out|exact(y _ _).out|exact⟨(j.o.cell (p:=⟨d,l+k*3,J⟩) b).trans d0,(j.o.cell (p:=⟨d,l+k*3+1,J⟩) b).trans d1⟩) ?_;clear hK' K';intro bz
    try simp only[az,aG,aK]
    refine lS [9,15] ?_
    repeat(refine jx (v:=?_) rfl (by kernel_rfl) (by assumption) (by rfl) (fun _ _ _ h=>h) ?_ ?_;rotate_left 1;(· intro w R;(try dsimp only at R);go_simp;(try with_reducible rfl));try simp only[Act.put,List.setIfInBounds_toArray,List.set_cons_zero,List.set_cons_succ])
    refine ka ?_;refine iT 16 (by kernel_rfl) rfl ?_;intro K' hK';go_simp;refine hK'.out _ _ (by first|exact⟨d0,d1⟩|exact(u _).out|exact(y _ _).out|exact⟨(j.o.cell (p:=⟨d,l+k*3,J⟩) b).trans d0,(j.o.cell (p:=⟨d,l+k*3+1,J⟩) b).trans d1⟩) ?_;clear hK' K';intro bA
    try simp only[az,aG,aK]
    refine iT 17 (by kernel_rfl) rfl ?_;intro K' hK';refine tz rfl (.tmp 24) (.tmp 40) rfl (G (Q w)) (Q6 oa (pZ h t k).length D) (pZ h t k).length (pZ h t k) rfl rfl a4.o (by exact Below.drew (Below.al (Below.al (Below.rf _) _) _)) (100::114::111::112::32::mi T::r) (vP (by exact pA _ _ _)) (by have:=ap.o;omega) a5.o ?_;intro v8 w8 ag a6;have a7:=gj ag;have j:=gj a6;obtain⟨bS,ba,rfl⟩:=ag.own.shape;refine hK'.out _ _ (by first|exact⟨d0,d1⟩|exact(u _).out|exact(y _ _).out|exact⟨(j.o.cell (p:=⟨d,l+k*3,J⟩) b).trans d0,(j.o.cell (p:=⟨d,l+k*3+1,J⟩) b).trans d1⟩) ?_;clear hK' K';intro bB
    try simp only[Act.put,az,aG,aK]
    refine wpAnyH_done (by kernel_rfl) ?_ _;show Oper.wp _ _ _ _ _ _;go_wp2;go_roundw
    case rel=>exact⟨k+1,by omega,by go_num,by rw[M.o];have h8:=a7.o;rw[ab]at h8;exact h8,(q.o.tn s.o).trans j.o⟩
    case measure=>simp[intOf];omega
  .obtain rfl:k=O h:=by omega
   have bX:¬(O h:Int)<O h:=by omega
   have bk:gy (nM wr (G (Q w)) (Q6 oa (pZ h t (O h)).length D) (pz h t 0)):=gj (by rw[<-MO];exact U.o);clear U;generalize (pZ h t (O h)).length=b8 at *
   generalize wr=w0 at *
   go_wp2_with fail;go_loopw [5,8] (fun ov i wr=>∃k:Nat,k<=O t/\i=I Y (k:Int)/\nM wr (G (Q w)) ov (pz h t k)/\Q8 (G (Q w)) w wr) (fun _ i _=>O t-(intOf i).toNat)
   case atStart=>exact⟨0,aJ _,rfl,bk.o,q.o⟩
   case round=>
    clear q bk;obtain⟨k,hk,rfl,C,X⟩:=hrel;have U:=gj C;have q:=gj X;have ap:=gj (KU h t k);obtain⟨oa,D,rfl⟩:=C.own.shape;clear C X;by_cases F:k<O t
    .have bs:(k:Int)<O t:=by omega
     obtain⟨a',cap',he,-,hx⟩:=HT.o.gU;cases he;obtain⟨d,l,rfl,C0,C1,C2⟩:=hx k F;have b:d<G (Q w):=gK C0;have c0:=(q.o.cell (p:=⟨d,l+k*3,J⟩) b).trans C0;have c1:=(q.o.cell (p:=⟨d,l+k*3+1,J⟩) b).trans C1;have c2:=(q.o.cell (p:=⟨d,l+k*3+2,J⟩) b).trans C2;have lb:=gK c0;clear C0 C1 C2;clear hx;have Z:=gj (fun W (hW:Q8 (G (Q wr)) wr W)=>BM (Q6 a (O h) cap) h t[k] W ((HH.o.below q.o).below hW) (by omega));have aa:=gj (ML h t k F);have am:=gj (bM.o _ (bq F));generalize a3:t[k]=x at *
     rw[Kb]at Z;clear a3;obtain⟨⟨T,r⟩,V⟩:=x;go_wp2_with fail;refine(Z.o _ (Below.rf _)).mono ?_;rintro e w2 ⟨rfl,m⟩;have d0:=(m.cell (p:=⟨d,l+k*3,J⟩) lb).trans c0;have d1:=(m.cell (p:=⟨d,l+k*3+1,J⟩) lb).trans c1;have d2:=(m.cell (p:=⟨d,l+k*3+2,J⟩) lb).trans c2;have s:=gj m;have ls:=ae lb m.size;clear c0 c1 c2 m lb;by_cases hm:((T,r),V)∈h
     .have M:gy (pz h t (k+1)=pz h t k):=gj (by rw[aa.o,aw hm,cX]);rw[bh hm];clear hm;go_wp2;go_roundw
      case rel=>exact⟨k+1,by omega,by go_num,by rw[M.o];exact U.o.below s.o,q.o.tn s.o⟩
      case measure=>simp[intOf];omega
     .have M:gy (pz h t (k+1)=pz h t k++[qy (T,r) V]):=gj (by rw[aa.o,af hm]);rw[aF hm];clear hm;have HK:=gj (tL T);have B:∀W:Q0,gI (Ro W (Q1 #[I .u8 (IntKind.u8.wrap T)] 5)) (Q6 (N ⟨G (Q W),0,J⟩) 1 1) [mi T]:=fun W=>by rw[<-HK.o];exact ow W (mi T)
      have bN:im<=1000000000000000000:=by decide
      have bO:O r<=im:=am.o.1;have b9:O V<=im:=am.o.2;have bP:=fun W=>nU (P:=prog) [112,117,116,32] [mi T] (by simp) W;have bR:=fun W=>nU (P:=prog) [112,117,116,32,mi T] r (by simp;omega) W;have ca:=fun W=>nU (P:=prog) (112::117::116::32::mi T::r) [61] (by simp;omega) W;have cb:=fun W=>nU (P:=prog) (112::117::116::32::mi T::(r++[61])) V (by simp;omega) W;have a4:=gj (U.o.below s.o);have a5:gy (G (Q w)<=G (Q w2)):=gj (q.o.tn s.o).size;go_upto_region 13 with fail;have hcv:=gI.convert (w:=(Ro w2 (Q1 #[I .u8 (IntKind.u8.wrap T)] 5)).drew) (B w2);have u:=fun o=>gj (show _/\_/\_ from⟨iK o d0,iK o d1,iK o d2⟩);have y:=fun o o'=>gj (show _/\_/\_ from⟨iK o' (iK o d0),iK o' (iK o d1),iK o' (iK o d2)⟩);refine jI (n:=25) (S:=(fun w'=>Rn w' ⟨d,l+k*3,J⟩=N (I Y T)/\Rn w' ⟨d,l+k*3+1,J⟩=N (Q7 ⟨Rm r⟩)/\Rn w' ⟨d,l+k*3+2,J⟩=N (Q7 ⟨Rm V⟩))) (by kernel_rfl) (by kernel_rfl) rfl (by first|exact⟨d0,d1,d2⟩|exact(u _).out|exact(y _ _).out|exact⟨(j.o.cell (p:=⟨d,l+k*3,J⟩) b).trans d0,(j.o.cell (p:=⟨d,l+k*3+1,J⟩) b).trans d1,(j.o.cell (p:=⟨d,l+k*3+2,J⟩) b).trans d2⟩) ?_;intro bw;simp only[cJ,b7,bC,cO,aN,bp,bd,bf,bK,aQ,aV];refine lS [0,1,2,3,4,5,6,10,11,12,13,14,17,18,19,20,21] ?_
      repeat(refine jx (v:=?_) rfl (by kernel_rfl) (by assumption) (by rfl) (fun _ _ _ h=>h) ?_ ?_;rotate_left 1;(· intro w R;(try dsimp only at R);go_simp;(try with_reducible rfl));try simp only[Act.put,List.setIfInBounds_toArray,List.set_cons_zero,List.set_cons_succ])
      refine ka ?_;refine iT 7 (by kernel_rfl) rfl ?_;intro K' hK';go_simp;refine hK'.out _ _ (by first|exact⟨d0,d1,d2⟩|exact(u _).out|exact(y _ _).out|exact⟨(j.o.cell (p:=⟨d,l+k*3,J⟩) b).trans d0,(j.o.cell (p:=⟨d,l+k*3+1,J⟩) b).trans d1,(j.o.cell (p:=⟨d,l+k*3+2,J⟩) b).trans d2⟩) ?_;clear hK' K';intro bx
      try simp only[az,aG,aK]
      refine iT 8 (by kernel_rfl) rfl ?_;intro K' hK';go_simp;refine hK'.out _ _ (by first|exact⟨d0,d1,d2⟩|exact(u _).out|exact(y _ _).out|exact⟨(j.o.cell (p:=⟨d,l+k*3,J⟩) b).trans d0,(j.o.cell (p:=⟨d,l+k*3+1,J⟩) b).trans d1,(j.o.cell (p:=⟨d,l+k*3+2,J⟩) b).trans d2⟩) ?_;clear hK' K';intro bz
      try simp only[az,aG,aK]
      refine lS [9,15,16,22] ?_
      repeat(refine jx (v:=?_) rfl (by kernel_rfl) (by assumption) (by rfl) (fun _ _ _ h=>h) ?_ ?_;rotate_left 1;(· intro w R;(try dsimp only at R);go_simp;(try with_reducible rfl));try simp only[Act.put,List.setIfInBounds_toArray,List.set_cons_zero,List.set_cons_succ])
      refine ka ?_;refine iT 23 (by kernel_rfl) rfl ?_;intro K' hK';go_simp;refine hK'.out _ _ (by first|exact⟨d0,d1,d2⟩|exact(u _).out|exact(y _ _).out|exact⟨(j.o.cell (p:=⟨d,l+k*3,J⟩) b).trans d0,(j.o.cell (p:=⟨d,l+k*3+1,J⟩) b).trans d1,(j.o.cell (p:=⟨d,l+k*3+2,J⟩) b).trans d2⟩) ?_;clear hK' K';intro bA
      try simp only[az,aG,aK]
      refine iT 24 (by kernel_rfl) rfl ?_;intro K' hK';refine tz rfl (.tmp 56) (.tmp 79) rfl (G (Q w)) (Q6 oa (pz h t k).length D) (pz h t k).length (pz h t k) rfl rfl a4.o (by exact Below.drew (Below.al (Below.al (Below.rf _) _) _)) (112::117::116::32::mi T::(r++61::V)) (vP (by exact pA _ _ _)) (by have:=ap.o;omega) a5.o ?_;intro v8 w8 ag a6;have a7:=gj ag;have j:=gj a6;obtain⟨bS,ba,rfl⟩:=ag.own.shape;refine hK'.out _ _ (by first|exact⟨d0,d1,d2⟩|exact(u _).out|exact(y _ _).out|exact⟨(j.o.cell (p:=⟨d,l+k*3,J⟩) b).trans d0,(j.o.cell (p:=⟨d,l+k*3+1,J⟩) b).trans d1,(j.o.cell (p:=⟨d,l+k*3+2,J⟩) b).trans d2⟩) ?_;clear hK' K';intro bB
      try simp only[Act.put,az,aG,aK]
      refine wpAnyH_done (by kernel_rfl) ?_ _;show Oper.wp _ _ _ _ _ _;go_wp2;go_roundw
      case rel=>exact⟨k+1,by omega,by go_num,by rw[M.o,show qy (T,r) V=112::117::116::32::mi T::(r++61::V) by simp[qy]];have h8:=a7.o;rw[ab]at h8;exact h8,(q.o.tn s.o).trans j.o⟩
      case measure=>simp[intOf];omega
    .obtain rfl:k=O t:=by omega
     have bX:¬(O t:Int)<O t:=by omega
     have HE:gy (nM wr (G (Q w)) (Q6 oa (pz h t (O t)).length D) (Dq h t)):=gj (by rw[<-MM];exact U.o);clear U;generalize (pz h t (O t)).length=ol at *
     go_wp2;go_ret;exact⟨_,rfl,HE.o,q.o⟩
def Dh(v:Q4)(j:Nat):Prop:=∃(b:Bool) (m1 m2:Int) (d tv:Q4),v=.agg #[Rh b,I Re m1,I Re m2,d,tv]/\Rl tv=N j
def Og(w:Q0)(A:Nat)(o:Q4)(v:Q4):Prop:=∀j,Dh v j->j≠A/\Rl o≠N j/\j<G (Q w)
def iV.nm:iV->Prop
 | .delta m os=>m<18446744073709551616/\O os<=8/\∀o∈os,o.kind=1\/o.kind=2
 | .nG m _=>m<18446744073709551616
theorem jW.QG{w w':Q0}{A n:Nat}{l:List Int}{t o r g lv:Q4}{a:iy}(h:jW w A n l t o r g a){V:Nat}{T:List E}(u:iD w lv T)(hl:∀j,Rl lv=N j->j≠A/\Rl o≠N j/\j<G (Q w))(x:w'=(Rp w ⟨A,1,J⟩ lv).setCell ⟨A,0,J⟩ (I Re (V:Nat))):jW w' A n l lv o r g {a with V:=V,T:=T}/\gR (fun j=>j=A) w w':=by subst x;have i:gR (fun j=>j=A) w ((Rp w ⟨A,1,J⟩ lv).setCell ⟨A,0,J⟩ (I Re (V:Nat))):=((gR.refl (fun j=>j=A) w).setCell ⟨A,1,J⟩ _ (.inl rfl)).setCell ⟨A,0,J⟩ _ (.inl rfl);obtain⟨s1,s2,s,q⟩:=h.sepA;refine⟨⟨QN _ _ 0 _ (QN _ _ 1 _ h.row),gE.frame u fun b e d=>i.block b d (hl b e).1,⟨h.out.own.frame i.size fun b e d=>i.block b d fun m=>q (by rw[e,m]),h.out.typ.frame fun b e d=>i.block b d fun m=>q (by rw[e,m])⟩,gE.frame h.room fun b e d=>i.block b d fun m=>s2 (by rw[e,m]),gE.frame h.got fun b e d=>i.block b d fun m=>s (by rw[e,m]),fun j e=>⟨fun y=>(hl j y).2.1 e,(h.sep j e).2⟩,⟨fun e=>(hl A e).1 rfl,s2,s,q⟩,fun j e=>ae (e.elim (fun e=>(hl j e).2.2) fun e=>h.lt j (.inr e)) i.size⟩,i⟩
theorem J2.two{l w:Q0}{b:Bool}{m1 m2:Int}{j tv:Q4}{tk:iV}(S:List E)(h:J2 l w (.agg #[Rh b,I Re m1,I Re m2,j,tv]) (N tk))(d:tk.nm):m1=((tk.V:Nat):Int)/\tk.V<18446744073709551616/\((b=false/\∃os,jE w j os/\O os<=8/\(∀o∈os,o.kind=1\/o.kind=2)/\tk.T S=iO S os/\m2=((tk.V:Nat):Int))\/(b=true/\iD w tv (tk.T S))):=by
 match tk,h with
 | .delta m os,⟨q,h,i⟩=>simp only[fN,fX,ep,Value.bool.injEq,Value.int.injEq,true_and]at h;obtain⟨rfl,rfl,rfl,rfl,-⟩:=h;exact⟨rfl,d.1,.inl ⟨rfl,os,i.sliceAt,d.2.1,d.2.2,rfl,rfl⟩⟩
 | .nG m T,⟨r,h,i,_⟩=>simp only[fN,fX,ep,Value.bool.injEq,Value.int.injEq,true_and]at h;obtain⟨rfl,rfl,rfl,rfl,rfl,-⟩:=h;exact⟨rfl,d,.inr ⟨rfl,i⟩⟩
def Eh(w:Q0)(A n:Nat)(l:List Int)(t o r g v:Q4)(a:iy)(tk:iV)(e:Ending)(w':Q0):Prop:=∃dv,e=.returned dv/\gE w' dv 1 (a.done tk (gY l) n).length (jr (a.done tk (gY l) n))/\(∀j,Rl dv=N j->G (Q w)<=j/\j<G (Q w'))/\∃t' o',jW w' A n l t' o' r g (a.jO tk (gY l) n)/\nM w' 0 o a.out/\gR (KE A o) w w'/\(∀j,Rl o'=N j->Rl o=N j\/G (Q w)<=j)/\∀j,Rl t'=N j->Rl t=N j\/Dh v j\/G (Q w)<=j
theorem E3(A n:Nat)(l:List Int)(t o r g v:Q4)(a:iy)(tk:iV)(w0 w:Q0)(h:jW w A n l t o r g a)(hv:J2 w0 w v (N tk))(bA:Og w A o v)(hf:tk.nm)(ho:O a.out<=6)(hS:gM a.T)(hn:8<=n)(er:n<=1000000)(ha:O a.T<=1000000)(hT:(tk.T a.T).length<=1000000)(bB:∀x∈a.T,O x.1.2<=im/\O x.2<=im)(a7:∀x∈tk.T a.T,O x.1.2<=im/\O x.2<=im)(bD:jw (tk.T a.T)<=4611686018427387904):
  Calls prog 30 #[Q5 (N ⟨A,0,J⟩),v] w (Eh w A n l t o r g v a tk):=by
 obtain⟨b0,m1,m2,s1,n1,c1,s2,n2,c2,rfl⟩:=hv.agg;obtain⟨rfl,hV,D⟩:=hv.two a.T hf;have co:=h.room;obtain⟨-,U,rc,rfl,-,-⟩:=co;obtain⟨E,F,rfl,-,-⟩:=iD.gU h.T;have bE:Q8 (G (Q w)) w (Ro w (Q1 #[Rh b0,I Re (tk.V:Nat),I Re m2,Q6 s1 n1 c1,Q6 s2 n2 c2] 65)):=(Below.rf w).alloc gH _;have R1:=gB w (Q1 #[Rh b0,I Re (tk.V:Nat),I Re m2,Q6 s1 n1 c1,Q6 s2 n2 c2] 65);obtain⟨T',a8⟩:∃T',T'=tk.T a.T:=⟨_,rfl⟩;rw[<-a8]at hT a7 bD D;have eD:=gj D;have HV:=gj hV;have M:=gj h;have bH:=gj bA;have cq:=gj hS;have cr:=gj a7;have cs:=gj bB;have bI:=gj a8;have s:=gj bE;have al:=gj R1;have eS:=gm h.row;clear hv h bA hS a7 bB hf hV a8;go_enter func30,ntmps30;go_upto_region 1 with fail;generalize Ro w (Q1 #[Rh b0,I Re (tk.V:Nat),I Re m2,Q6 s1 n1 c1,Q6 s2 n2 c2] 65)=w1 at *
 have H1:=gj (M.o.below s.o);obtain⟨x0,x1,x2,x3,x4,ct⟩:=lB al.o;have d1:=gr 1 H1.o.row;have cu:=gm H1.o.row;clear bE R1;go_upto_if 12 with fail;go_cut [5] (fun lv wx=>iD wx lv T'/\Q8 (G (Q w)) w wx/\wx.heap[G (Q w)]?=N (Q1 #[Rh b0,I Re (tk.V:Nat),I Re m2,Q6 s1 n1 c1,Q6 s2 n2 c2] 65 (0,0))/\∀j,Rl lv=N j->(lv=Q6 E (O a.T) F\/lv=Q6 s2 n2 c2\/G (Q w)<=j)/\j<G (Q wx))
 case first=>
  rcases D with ⟨rfl,os,bL,cv,bM,bN,rfl⟩|⟨rfl,cB⟩
  .have a9:=jE.below bL s.o;have c0:=gj (fun W (h1:iD W (Q6 E (O a.T) F) a.T) (h2:jE W (Q6 s1 n1 c1) os)=>zH (Q6 E (O a.T) F) (Q6 s1 n1 c1) tk.V a.T os W h1 h2 cq.o (by omega) cv bM);have c3:=gj a9;have c6:=gj bN;clear bL bM a9 bN;go_upto_region 3 with fail;go_region_law ((first|(go_simp;go_at_call 54;refine(c0.o _ (by exact H1.o.T) (by exact c3.o)).mono ?_;rintro e ws ⟨lv,rfl,R,i,q⟩)))
   all_goals
    have d:Q8 (G (Q w1)) w1 ws:=(Below.rf w1).drew.tn q;go_wp2;go_meet
    case rel=>
     refine⟨by rw[c6.o];exact R,s.o.tn d,gC d (gm al.o) al.o,fun j e=>?_⟩;rcases i with rfl|i
     .exact⟨.inl rfl,ae (H1.o.lt j (.inl e)) d.size⟩
     .exact⟨.inr (.inr (au s.o.size (i j e).1)),(i j e).2⟩
  .go_wp2;go_meet
   case rel=>refine⟨cB.below s.o,s.o,al.o,fun j e=>⟨.inr (.inl rfl),?_⟩⟩;exact ae (bH.o j ⟨_,_,_,_,_,rfl,e⟩).2.2 s.o.size
 case rest=>
  obtain⟨R,ba,bO,i⟩:=hcut;obtain⟨y,lc,rfl,-,-⟩:=iD.gU R;have am:=gj R;have ap:=gj ba;have bP:=gj bO;have bb:=gj i;have X:=gj (M.o.below ba);have bR:gy (a.jO tk (gY l) n=match jG T' (gY l) n with|some f=>a.jZ f|none=>{a with V:=tk.V,T:=T'}.oO):=gj (by rw[bI.o];rfl);have bS:gy (a.done tk (gY l) n=match jG T' (gY l) n with|some _=>[]|none=>Dq a.T T'):=gj (by rw[bI.o];rfl);have Z:gy (∀(f:Nat×Nat) (e:Ending) (W W':Q0),Q8 (G (Q w)) w W->jG T' (gY l) n=N f->yW W A n l (Q6 E (O a.T) F) o (Q6 U 3 rc) g a (a.jZ f) e W'->Eh w A n l (Q6 E (O a.T) F) o (Q6 U 3 rc) g (.agg #[Rh b0,I Re (tk.V:Nat),I Re m2,Q6 s1 n1 c1,Q6 s2 n2 c2]) a tk (.returned (Q6 J 0 0)) W'):=gj (by rintro f e W W' hb hl ⟨-,o',g1,g2,g3,g4⟩;refine⟨_,rfl,?_,fun j e=>by simp[Value.ownBlock]at e,_,o',by rw[bR.o,hl];exact g1,g2,(gR.gO hb).trans g3,fun j e=>(g4 j e).imp id fun e=>au hb.size e,fun j e=>.inl e⟩;rw[bS.o,hl];exact gE.nil _ _ _ _);clear ba R bO i D x0 x1 x2 x3 x4 ct d1 cu;have e4:=gr 6 X.o.row;have c5:=gr 5 X.o.row;have c7:=gm X.o.row;have c8:=gj (fun W (h1:iD W (Q6 y (O T') lc) T') h2=>G0 (Q6 y (O T') lc) (Q6 U 3 rc) T' (gY l 0) (gY l 1) (gY l 2) (gY l) W h1 (by omega) h2 rfl rfl rfl);go_wp2_with fail;refine(c8.o wc am.o X.o.room).mono ?_;rintro e w2 ⟨rfl,bc⟩;have bi:=gj (ap.o.tn bc);have aa:=gj bc;clear e4 c5 c7 bc;cases B:pT T' (gY l) with
  | some k=>
   obtain⟨bX,eT⟩:=BB B;have av:gy (jG T' (gY l) n=N (10,k)):=gj (by unfold jG;rw[B]);rw[bX];have eV:(0:Int)<=(k:Int):=by omega
   clear B bX;go_wp2_with fail;refine(uh A n l (Q6 E (O a.T) F) o (Q6 U 3 rc) g a 10 k w2 (M.o.below bi.o) ho (by omega)).mono ?_;intro e w3 hp;obtain⟨rfl,-⟩:=hp.go;have HF:=gj (Z.o _ _ _ _ bi.o av.o hp);clear hp;go_wp2;go_ret;exact HF.o
  | none=>
   rw[Bz B];have av:gy (jG T' (gY l) n=if 16*(n-8)<jw T' then N (11,0)else J):=gj (by unfold jG;rw[B]);clear B;have b1:=gj (fun W (h1:iD W (Q6 y (O T') lc) T')=>G3 (Q6 y (O T') lc) T' W h1 (by omega) bD);have H2:=gj (X.o.below aa.o);have b2:=gj (am.o.below aa.o);have c4:=gr 5 H2.o.row;have aE:=gm H2.o.row;have a0:IntKind.i64.wrap (16*IntKind.i64.wrap ((n:Int)-8))=((16*(n-8):Nat):Int):=by rw[IntWalk.i64_in ((n:Int)-8) (by omega),IntWalk.i64_in _ (by omega)];omega
   by_cases a1:16*(n-8)<jw T'
   .have cd:IntKind.i64.wrap (16*IntKind.i64.wrap ((n:Int)-8))<(jw T':Int):=by rw[a0];omega
    have a2:gy (jG T' (gY l) n=N (11,0)):=gj (by rw[av.o,aw a1]);clear a0 a1;go_upto_region 8 with fail;go_region_law ((first|(go_simp;go_at_call 78;refine(b1.o _ (by exact b2.o)).mono ?_;rintro e ws ⟨rfl,q⟩;have S:=(q.cell (p:=⟨A,5,J⟩) aE).trans c4;have ak:=gK S)))
    all_goals
     have d:=bi.o.tn ((Below.rf w2).drew.tn q);clear S ak c4 aE;go_wp2_with fail;refine(uh A n l (Q6 E (O a.T) F) o (Q6 U 3 rc) g a 11 0 _ (M.o.below (by exact d)) ho (by omega)).mono ?_;intro e w3 hp;obtain⟨rfl,-⟩:=hp.go;have HF:=gj (Z.o _ _ _ _ (by exact d) a2.o hp);clear hp;go_wp2;go_ret;exact HF.o
   .have cd:¬IntKind.i64.wrap (16*IntKind.i64.wrap ((n:Int)-8))<(jw T':Int):=by rw[a0];omega
    have a2:gy (jG T' (gY l) n=J):=gj (by rw[av.o,af a1]);clear a0 a1 Z;go_upto_region 8 with fail;go_region_law ((first|(go_simp;go_at_call 78;refine(b1.o _ (by exact b2.o)).mono ?_;rintro e ws ⟨rfl,q⟩;have S:=(q.cell (p:=⟨A,5,J⟩) aE).trans c4;have ak:=gK S)))
    all_goals
     clear S ak c4 aE;have d:=aa.o.tn ((Below.rf w2).drew.tn q);have a3:=gj d;have b3:gy (∀j,(Q6 y (O T') lc).ownBlock=N j->j≠A/\Rl o≠N j):=gj (fun j e=>by
      rcases(bb.o j e).1 with m|m|m
      .rw[m]at e;exact⟨fun e3=>M.o.sepA.1 (by rw[e,e3]),fun e3=>(M.o.sep j e3).1 e⟩
      .rw[m]at e;have:=bH.o j ⟨_,_,_,_,_,rfl,e⟩;exact⟨this.1,this.2.1⟩
      .exact⟨by omega,fun e3=>by have:=gS.iA M.o.out.own j e3;omega⟩)
     go_upto_region 11 with fail;have H8:=gj (X.o.below d);have c1:=gr 1 H8.o.row;have da:=gm H8.o.row;clear d q;go_wp2_with fail;refine(GV (Q6 E (O a.T) F) (Q6 y (O T') lc) a.T T' _ (by exact H8.o.T) (by exact am.o.below a3.o) (by omega) (by omega) cs.o cr.o).mono ?_;rintro e w4 ⟨dv,rfl,bl,b4⟩;obtain⟨e5,e6,rfl⟩:=bl.own.shape;have C:Q8 (G (Q wc)) wc w4:=a3.o.tn (by exact b4);have b5:=gj (ap.o.tn C);have H4:=gj (X.o.below C);have dc:=C.size;have bo:=H4.o.QG (V:=tk.V) (T:=T') (am.o.below C) (fun j e=>⟨(b3.o j e).1,(b3.o j e).2,ae (bb.o j e).2 dc⟩) rfl;have u:=gj bo;have a4:=gj bl;have b6:=gC C (gm bP.o) bP.o;have dk:¬(G (Q w))=A:=by omega
     have z1:=gD 1 H4.o.row;have d1:=gr 1 H4.o.row;have dl:=gm H4.o.row;have br:=((gR.refl (fun j=>j=A) w4).setCell ⟨A,1,J⟩ (Q6 y (O T') lc) (.inl rfl)).at dk b6;have y1:=gr 1 br;have cg:=gm br;have a5:=QN _ _ 1 (Q6 y (O T') lc) H4.o.row;have z0:=gD 0 a5;have d0:=gr 0 a5;have ci:=gm a5;clear c1 da b4 C bl bo b6 br a5;go_upto_region 14 with fail;generalize (Rp w4 ⟨A,1,J⟩ (Q6 y (O T') lc)).setCell ⟨A,0,J⟩ (I Re (tk.V:Nat))=w5 at *
     have e0:=gr 0 u.o.1.row;have dn:=gm u.o.1.row;clear z1 d1 dl y1 cg z0 d0 ci;go_wp2_with fail;refine(mS tk.V w5 HV.o).mono ?_;rintro e w6 ⟨rfl,b8⟩;have bs:=gj b8;clear b8 e0 dn;go_wp2_with fail;refine(pr A n l (Q6 y (O T') lc) o (Q6 U 3 rc) g {a with V:=tk.V,T:=T'} 17 17 (nC tk.V) w6 (u.o.1.below bs.o) (by decide) (by rw[iB];decide) ho).mono ?_;rintro e w7 ⟨rfl,o',g1,g2,g3,g4⟩;have a6:gR (KE A o) w4 w7:=((u.o.2.mono fun j hj=>.inl hj).trans (gR.gO bs.o)).trans g3;have bt:Eh w A n l (Q6 E (O a.T) F) o (Q6 U 3 rc) g (.agg #[Rh b0,I Re (tk.V:Nat),I Re m2,Q6 s1 n1 c1,Q6 s2 n2 c2]) a tk (.returned (Q6 e5 (Dq a.T T').length e6)) w7:=by
      refine⟨_,rfl,?_,fun j e=>⟨au ap.o.size (au a3.o.size (a4.o.own.ie j e)),ae (a4.o.own.iA j e) a6.size⟩,_,o',by rw[bR.o,a2.o];exact g1,g2,(gR.gO b5.o).trans a6,fun j e=>(g4 j e).imp id fun e=>au b5.o.size (au u.o.2.size (au bs.o.size e)),fun j e=>?_⟩
      .rw[bS.o,a2.o];refine a4.o.own.sliceAt.frame fun b e hb=>a6.block b hb fun m=>?_;have h3:=a4.o.own.ie b e;have h4:=a3.o.size;have h5:=ap.o.size;rcases m with m|m
       .have h6:G (Q w)<=b:=au h5 (au h4 h3);omega
       .have h6:G (Q w)<=b:=au h5 (au h4 h3);have:=gS.iA M.o.out.own b m;omega
      .rcases(bb.o j e).1 with m|m|m
       .exact .inl (by rw[<-m];exact e)
       .exact .inr (.inl ⟨_,_,_,_,_,rfl,by rw[<-m];exact e⟩)
       .exact .inr (.inr m)
     have d3:=gj bt;clear bt a6 g1 g2 g3 g4;go_wp2;go_ret;exact d3.o
open Go.Shelf
def Kn(K:Nat->Prop)(w w':Q0)(k:Nat):Prop:=K k\/(G (Q w)<=k/\k<G (Q w'))
theorem pY.grow{w w':Q0}{K D:Nat->Prop}{X:Nat}{H:gA}{P:Option iM}(h:pY w K X H P)(b:gR D w w')(d:∀k,D k->K k/\2<=k):pY w' (Kn K w w') X H P:=by obtain⟨⟨M,h1,i⟩,j,l,m,o⟩:=h;exact⟨⟨_,h1.bound.frame b fun k hk e=>i k hk.1 (d k e).1,fun k hk e=>e.elim (i k hk.1) fun e=>by have:=hk.2;omega⟩,j.ext b fun k e=>(d k e).2,l.ext b fun k e=>(d k e).2,fun k hk=>.inl (m k hk),fun k hk=>hk.elim (fun hk=>ae (o k hk) b.size) fun hk=>hk.2⟩
def wH(w:Q0)(C:Nat->Prop)(n:Nat)(r:Q4)(A M:Nat)(m:Nat×List E):Prop:=(C M\/M=A)/\∃t d i l o q s b,w.heap[M]?=N (Q1 #[I Re (m.1:Nat),t,d,i,l,I Y n,r,o,q,s,b] 53 (0,0))/\iD w t m.2/\∀j,Rl t=N j->C j
theorem wH.self{w:Q0}{C:Nat->Prop}{A n:Nat}{l:List Int}{t o r g:Q4}{a:iy}(h:jW w A n l t o r g a)(b:∀j,Rl t=N j->C j):wH w C n r A A (a.V,a.T):=
 ⟨.inr rfl,t,_,_,_,_,_,_,_,h.row,h.T,b⟩
theorem wH.ext{w w':Q0}{C d D:Nat->Prop}{A x n M:Nat}{r:Q4}{m:Nat×List E}(h:wH w C n r A M m)(i:C M)(l:gR D w w')(o:∀k,C k->¬D k)(q:∀k,C k->d k):wH w' d n r x M m:=by obtain⟨-,t,y,B,F,R,S,U,s,V,W,u⟩:=h;exact⟨.inl (q M i),t,y,B,F,R,S,U,s,l.at (o M i) V,gE.frame W fun b e X=>l.block b X (o b (u b e)),fun j e=>q j (u j e)⟩
def BF(Ms:List Nat):Array Q4:=(Ms.map fun M=>Q5 (N ⟨M,0,J⟩)).toArray
structure nH(w:Q0)(b:Nat)(Z:Nat->Obj->Prop)(W X A:Nat)(K C:Nat->Prop)(t o r g ev:Q4)(mb:Nat)(Ms:List Nat)(n:Nat)(l:List Int)(H:gA)(P:Option iM)(a:iy)(maybe:List (Nat×List E))(ever:List E)(armed:Bool):Prop where
 row:w.heap[W]?=N (Q1 #[Q5 (N ⟨X,0,J⟩),Q5 (N ⟨A,0,J⟩),Q6 (N ⟨mb,0,J⟩) (O Ms) (O Ms),ev,Rh armed] 58 (0,0))
 mbr:w.heap[mb]?=N (Q1 (BF Ms) 55 (0,0))
 len:O Ms=O maybe
 two:O Ms<=2
 mem:∀(i M:Nat) m,Ms[i]?=N M->maybe[i]?=N m->wH w C n r A M m/\(M=A->m=(a.V,a.T))
 rg:jW w A n l t o r g a
 x:pY w K X H P
 evo:gS w b 3 ev (O ever) (gV ever)
 evT:gQ w ev 108
 kW:K W/\b<=W
 kA:K A/\b<=A
 ct:∀j,Rl t=N j->C j
 cr:∀j,Rl r=N j->C j
 cmb:C mb
 cg:∀j,Rl g=N j->K j/\j≠W/\Rl ev≠N j
 ko:∀j,Rl o=N j->K j/\b<=j
 kev:∀j,Rl ev=N j->K j
 c:∀j,C j->K j/\j≠A/\j≠W/\Rl o≠N j/\Rl ev≠N j
 kb:∀k,k<b->K k
 b2:2<=b
 z:∀j x,Z j x->C j/\w.heap[j]?=N x
section
variable {w w':Q0} {Z:Nat->Obj->Prop} {b W X A:Nat} {K K' C:Nat->Prop} {t o o' r g g' ev ev':Q4} {mb:Nat} {Ms:List Nat} {n:Nat} {l:List Int} {H H':gA} {P P':Option iM} {a a':iy} {maybe:List (Nat×List E)} {ever ever':List E} {armed armed':Bool}
theorem nH.ne(h:nH w b Z W X A K C t o r g ev mb Ms n l H P a maybe ever armed):W≠A/\(∀j,Rl o=N j->j≠W/\j≠A/\Rl ev≠N j)/\∀j,Rl ev=N j->j≠W/\j≠A:=by
 refine⟨fun e=>?_,fun j e=>⟨fun d=>?_,fun d=>?_,fun d=>?_⟩,fun j e=>⟨fun d=>?_,fun d=>?_⟩⟩
 .have h1:=h.row;rw[e,h.rg.row]at h1;simp at h1
 .exact h.rg.out.typ.ne h.row (by decide) (by rw[e,d])
 .exact h.rg.sepA.2.2.2 (by rw[e,d])
 .obtain⟨m,f,i⟩:=h.evT j d;exact h.rg.out.typ.ne i (by decide) e
 .exact h.evT.ne h.row (by decide) (by rw[e,d])
 .exact h.evT.ne h.rg.row (by decide) (by rw[e,d])
theorem nH.lt(h:nH w b Z W X A K C t o r g ev mb Ms n l H P a maybe ever armed):b<=G (Q w):=au h.kW.2 (Nat.le_of_lt (h.x.lt W h.kW.1))
theorem nH.oK(h:nH w b Z W X A K C t o r g ev mb Ms n l H P a maybe ever armed){D:Nat->Prop}(E:gR D w w')(F:∀j,C j->¬D j)(R:w'.heap[W]?=N (Q1 #[Q5 (N ⟨X,0,J⟩),Q5 (N ⟨A,0,J⟩),Q6 (N ⟨mb,0,J⟩) (O Ms) (O Ms),ev',Rh armed'] 58 (0,0)))(B:jW w' A n l t o' r g' a')(hV:a'.V=a.V)(hT:a'.T=a.T)(hX:pY w' K' X H' P')(hK:∀j,K j->K' j)(ak:gS w' b 3 ev' (O ever') (gV ever'))(S:gQ w' ev' 108)(ho:∀j,Rl o'=N j->Rl o=N j\/(G (Q w)<=j/\K' j))(hg:∀j,Rl g'=N j->Rl g=N j\/(G (Q w)<=j/\K' j/\ev'=ev))(he:∀j,Rl ev'=N j->Rl ev=N j\/(G (Q w)<=j/\K' j)):
  nH w' b Z W X A K' C t o' r g' ev' mb Ms n l H' P' a' maybe ever' armed':=by
 have s:=h.x.lt;have a2:=h.lt;refine⟨R,E.at (F mb h.cmb) h.mbr,h.len,h.two,fun i M m e1 d=>?_,B,hX,ak,S,⟨hK W h.kW.1,h.kW.2⟩,⟨hK A h.kA.1,h.kA.2⟩,h.ct,h.cr,h.cmb,fun j e=>?_,fun j e=>?_,fun j e=>?_,fun j hj=>?_,fun k hk=>hK k (h.kb k hk),h.b2,fun j x U=>⟨(h.z j x U).1,E.at (F j (h.z j x U).1) (h.z j x U).2⟩⟩
 .obtain⟨m1,m2⟩:=h.mem i M m e1 d;rcases m1.1 with y|y
  .exact⟨m1.ext y E F fun _ h=>h,fun e=>absurd e (h.c M y).2.1⟩
  .subst y;have hm:=m2 rfl;subst hm;have:=wH.self B h.ct;rw[hV,hT]at this;exact⟨this,fun _=>by rw[hV,hT]⟩
 .rcases hg j e with d|⟨d,q,e4⟩
  .refine⟨hK j (h.cg j d).1,(h.cg j d).2.1,fun u=>?_⟩;rcases he j u with e6|e6
   .exact(h.cg j d).2.2 e6
   .have:=s j (h.cg j d).1;omega
  .refine⟨q,fun u=>?_,fun u=>?_⟩
   .have:=s W h.kW.1;omega
   .rw[e4]at u;have:=s j (h.kev j u);omega
 .rcases ho j e with d|⟨d,q⟩
  .exact⟨hK j (h.ko j d).1,(h.ko j d).2⟩
  .exact⟨q,by omega⟩
 .rcases he j e with d|⟨d,q⟩
  .exact hK j (h.kev j d)
  .exact q
 .obtain⟨c1,c2,c3,c4,c5⟩:=h.c j hj;have:=s j c1;refine⟨hK j c1,c2,c3,fun e=>?_,fun e=>?_⟩
  .rcases ho j e with d|⟨d,q⟩
   .exact c4 d
   .omega
  .rcases he j e with d|⟨d,q⟩
   .exact c5 d
   .omega
theorem nH.kQ(h:nH w b Z W X A K C t o r g ev mb Ms n l H P a maybe ever armed)(hk:nA K w w')(m:pY w' K X H' P'):nH w' b Z W X A K C t o r g ev mb Ms n l H' P' a maybe ever armed:=
 h.oK hk (fun j d e=>e (h.c j d).1) (hk.at h.kW.1 h.row) (h.rg.ext hk (fun e=>e h.kA.1) fun j e i=>i (e.elim (fun e=>(h.c j (h.ct j e)).1) fun e=>e.elim (fun e=>(h.ko j e).1) fun e=>e.elim (fun e=>(h.c j (h.cr j e)).1) fun e=>(h.cg j e).1)) rfl rfl m (fun _ e=>e)
  (h.evo.frame hk.size fun j e d=>hk.block j d fun i=>i (h.kev j e)) (h.evT.frame fun j e d=>hk.block j d fun i=>i (h.kev j e)) (fun _=>.inl) (fun _=>.inl) fun _=>.inl
theorem nH.below(h:nH w b Z W X A K C t o r g ev mb Ms n l H P a maybe ever armed)(d:Q8 (G (Q w)) w w'):nH w' b Z W X A K C t o r g ev mb Ms n l H P a maybe ever armed:=h.kQ (gR.gO d) (h.x.below d)
theorem nH.grow(h:nH w b Z W X A K C t o r g ev mb Ms n l H P a maybe ever armed)(i:Q8 (G (Q w)) w w'):nH w' b Z W X A (Kn K w w') C t o r g ev mb Ms n l H P a maybe ever armed:=by have d:gR (fun _=>False) w w':=gR.gO i;exact h.oK d (fun _ _ e=>e) (d.at (fun e=>e) h.row) (h.rg.below i) rfl rfl (h.x.grow d fun _ e=>e.elim) (fun _=>.inl) (h.evo.below i) (h.evT.frame fun j e m=>d.block j m fun e=>e) (fun _=>.inl) (fun _=>.inl) fun _=>.inl
theorem nH.Nz(h:nH w b Z W X A K C t o r g ev mb Ms n l H P a maybe ever armed)(h1:jW w' A n l t o' r g' a')(d:gR (KE A o) w w')(B:∀j,Rl o'=N j->Rl o=N j\/G (Q w)<=j)(D:∀j,Rl g'=N j->Rl g=N j\/G (Q w)<=j)(E:a'.V=a.V)(F:a'.T=a.T):nH w' b Z W X A (Kn K w w') C t o' r g' ev mb Ms n l H P a' maybe ever armed/\Q8 b w w':=by obtain⟨n1,u,M⟩:=h.ne;have q:∀k,KE A o k->K k/\b<=k:=fun k e=>e.elim (fun e=>by rw[e];exact h.kA) fun e=>h.ko k e;have y:∀j,Rl ev=N j->¬KE A o j:=fun j e s=>s.elim (M j e).2 fun i=>(u j i).2.2 e;refine⟨h.oK d (fun j m s=>s.elim (h.c j m).2.1 (h.c j m).2.2.2.1) (d.at (fun e=>e.elim n1 fun e=>(u _ e).1 rfl) h.row) h1 E F (h.x.grow d fun k e=>⟨(q k e).1,au h.b2 (q k e).2⟩) (fun _=>.inl) (h.evo.frame d.size fun j e m=>d.block j m (y j e)) (h.evT.frame fun j e m=>d.block j m (y j e)) (fun j e=>(B j e).imp id fun i=>⟨i,.inr ⟨i,gS.iA h1.out.own j e⟩⟩) (fun j e=>(D j e).imp id fun i=>⟨i,.inr ⟨i,h1.lt j (.inr (.inr e))⟩,rfl⟩) fun _=>.inl,d.below h.lt fun k hk e=>by have:=(q k e).2;omega⟩
theorem nH.ref(h:nH w b Z W X A K C t o r g ev mb Ms n l H P a maybe ever armed)(d:mr w A n l t o r g a' w')(i:a'.V=a.V)(j:a'.T=a.T):∃o' g',nH w' b Z W X A (Kn K w w') C t o' r g' ev mb Ms n l H P a' maybe ever armed/\Q8 b w w':=by obtain⟨o',g',h1,m,q,s⟩:=d;exact⟨o',g',h.Nz h1 m q s i j⟩
theorem nH.arm(h:nH w b Z W X A K C t o r g ev mb Ms n l H P a maybe ever armed)(armed':Bool):nH (Rp w ⟨W,4,J⟩ (Rh armed')) b Z W X A K C t o r g ev mb Ms n l H P a maybe ever armed'/\Q8 b w (Rp w ⟨W,4,J⟩ (Rh armed')):=by
 have d:gR (fun j=>j=W) w (Rp w ⟨W,4,J⟩ (Rh armed')):=(gR.refl _ w).setCell ⟨W,4,J⟩ _ (.inl rfl);obtain⟨n1,s,q⟩:=h.ne;refine⟨h.oK d (fun j i e=>(h.c j i).2.2.1 e) (QN _ _ 4 _ h.row) (h.rg.ext d (fun e=>n1 e.symm) fun j e m=>?_) rfl rfl (h.x.other d (fun j e=>by rw[e];exact h.kW.1) fun j e=>by rw[e];exact au h.b2 h.kW.2) (fun _ e=>e) (h.evo.frame d.size fun j e i=>d.block j i (q j e).1) (h.evT.frame fun j e i=>d.block j i (q j e).1) (fun _=>.inl) (fun _=>.inl) fun _=>.inl,d.below h.lt fun k hk e=>by have:=h.kW.2;have u:k=W:=e;omega⟩;rcases e with e|e|e|e
 .exact(h.c j (h.ct j e)).2.2.1 m
 .exact(s j e).1 m
 .exact(h.c j (h.cr j e)).2.2.1 m
 .exact(h.cg j e).2.1 m
end
theorem nH.QB{w w':Q0}{Z:Nat->Obj->Prop}{b W X A:Nat}{K C B:Nat->Prop}{t o r g ev:Q4}{mb d:Nat}{Ms Ms':List Nat}{n:Nat}{l:List Int}{H:gA}{P:Option iM}{a:iy}{maybe maybe':List (Nat×List E)}{ever:List E}{armed:Bool}(h:nH w b Z W X A K C t o r g ev mb Ms n l H P a maybe ever armed)(q:gR (fun j=>j=W) w w')(U:w'.heap[W]?=N (Q1 #[Q5 (N ⟨X,0,J⟩),Q5 (N ⟨A,0,J⟩),Q6 (N ⟨d,0,J⟩) (O Ms') (O Ms'),ev,Rh armed] 58 (0,0)))(hr:w'.heap[d]?=N (Q1 (BF Ms') 55 (0,0)))(al:G (Q w)<=d)(hl:O Ms'=O maybe')(h2:O Ms'<=2)(hm:∀(i M:Nat) m,Ms'[i]?=N M->maybe'[i]?=N m->wH w B n r A M m/\(M=A->m=(a.V,a.T)))(D:∀j,C j->B j)(u:∀j,B j->K j/\j≠A/\j≠W/\Rl o≠N j/\Rl ev≠N j):
  nH w' b Z W X A (Kn K w w') (fun j=>B j\/j=d) t o r g ev d Ms' n l H P a maybe' ever armed/\Q8 b w w':=by
 obtain⟨n1,n4,n5⟩:=h.ne;have y:=h.x.lt;have ap:d≠W:=fun e=>by have:=y W h.kW.1;omega
 have aa:=gm hr;have S:jW w' A n l t o r g a:=h.rg.ext q (fun e=>n1 e.symm) fun j e F=>by
  rcases e with e|e|e|e
  .exact(h.c j (h.ct j e)).2.2.1 F
  .exact(n4 j e).1 F
  .exact(h.c j (h.cr j e)).2.2.1 F
  .exact(h.cg j e).2.1 F
 refine⟨⟨U,hr,hl,h2,fun i M m e1 e2=>?_,S,h.x.grow q fun k e=>by rw[e];exact⟨h.kW.1,au h.b2 h.kW.2⟩,h.evo.frame q.size fun j e s=>q.block j s (n5 j e).1,h.evT.frame fun j e s=>q.block j s (n5 j e).1,⟨.inl h.kW.1,h.kW.2⟩,⟨.inl h.kA.1,h.kA.2⟩,fun j e=>.inl (D j (h.ct j e)),fun j e=>.inl (D j (h.cr j e)),.inr rfl,fun j e=>⟨.inl (h.cg j e).1,(h.cg j e).2⟩,fun j e=>⟨.inl (h.ko j e).1,(h.ko j e).2⟩,fun j e=>.inl (h.kev j e),fun j s=>?_,fun k hk=>.inl (h.kb k hk),h.b2,fun j x hz=>⟨.inl (D j (h.z j x hz).1),q.at (fun e=>(h.c j (h.z j x hz).1).2.2.1 e) (h.z j x hz).2⟩⟩,q.below h.lt fun k hk e=>by have:=h.kW.2;have e2:k=W:=e;omega⟩
 .obtain⟨m1,m2⟩:=hm i M m e1 e2;rcases m1.1 with R|R
  .exact⟨m1.ext R q (fun k hk e=>(u k hk).2.2.1 e) fun _=>.inl,fun e=>absurd e (u M R).2.1⟩
  .subst R;have aE:=m2 rfl;subst aE;exact⟨wH.self S fun j e=>.inl (D j (h.ct j e)),fun _=>rfl⟩
 .rcases s with s|rfl
  .exact⟨.inl (u j s).1,(u j s).2⟩
  .refine⟨.inr ⟨al,aa⟩,fun e=>?_,ap,fun e=>?_,fun e=>?_⟩
   .have:=y A h.kA.1;omega
   .have:=y j (h.ko j e).1;omega
   .have:=y j (h.kev j e);omega
theorem yx{p:iM}(d:∀f,p.a.l4=N f->1<=f.1/\f.1<=14/\p.nQ<=100000/\(f.1=12↔1<=p.nQ)):∃s,xy p=((oP p.a).1,(oP p.a).2,s)/\((oP p.a).1=12↔1<=s):=by
 unfold xy oP;cases h:p.a.l4 with
 | none=>exact⟨0,rfl,by simp⟩
 | some f=>
  obtain⟨h1,j,l,i⟩:=d f h;refine⟨_,rfl,?_⟩;simp only;by_cases b:f.1=12
  .rw[aw b];exact i
  .rw[af b];exact⟨fun e=>absurd e b,fun e=>by omega⟩
theorem nH.cells{w:Q0}{Z:Nat->Obj->Prop}{b W X A:Nat}{K C:Nat->Prop}{t o r g ev:Q4}{mb:Nat}{Ms:List Nat}{n:Nat}{l:List Int}{H:gA}{P:Option iM}{a:iy}{maybe:List (Nat×List E)}{ever:List E}{armed:Bool}(h:nH w b Z W X A K C t o r g ev mb Ms n l H P a maybe ever armed):
  Rn w ⟨W,0,J⟩=N (Q5 (N ⟨X,0,J⟩))/\Rn w ⟨W,1,J⟩=N (Q5 (N ⟨A,0,J⟩))/\Rn w ⟨W,2,J⟩=N (Q6 (N ⟨mb,0,J⟩) (O Ms) (O Ms))/\Rn w ⟨W,3,J⟩=N ev/\Rn w ⟨W,4,J⟩=N (Rh armed)/\W<G (Q w):=
 ⟨gr 0 h.row,gr 1 h.row,gr 2 h.row,gr 3 h.row,gr 4 h.row,gm h.row⟩
section
variable {w:Q0} {Z:Nat->Obj->Prop} {b W X A:Nat} {K C:Nat->Prop} {t o r g ev:Q4} {mb:Nat} {Ms:List Nat} {n:Nat} {l:List Int} {H:gA} {P:Option iM} {p:iM} {a:iy} {maybe:List (Nat×List E)} {ever:List E} {armed:Bool}
theorem qz(h:nH w b Z W X A K C t o r g ev mb Ms n l H (N p) a maybe ever armed)(V:p.a=a)(u:∀f,a.l4=N f->1<=f.1/\f.1<=14/\p.nQ<=100000/\(f.1=12↔1<=p.nQ)):
  Calls prog 32 #[Q5 (N ⟨W,0,J⟩)] w fun e w'=>e=.returned (Rh true)/\Q8 (G (Q w)) w w':=by
 subst V;obtain⟨s,M,d⟩:=yx u;have y:=gj (sO K X H p w h.x (fun f e=>⟨(u f e).1,(u f e).2.1,(u f e).2.2.1⟩));rw[M]at y;obtain⟨c0,-,-,-,-,i⟩:=h.cells;have HH:=gj h;obtain⟨k,hk⟩:∃k,k=(oP p.a).1:=⟨_,rfl⟩;obtain⟨q,hq⟩:∃q,q=(oP p.a).2:=⟨_,rfl⟩;have HK:=gj hk;have HQ:=gj hq;rw[<-hk]at d y;rw[<-hq]at y;clear h u M hk hq;unfold sH at y;have aa:(((k:Int)==12)=true/\(0:Int)<s)\/(((k:Int)==12)=false/\¬(0:Int)<s):=by
  by_cases e:k=12
  .exact .inl ⟨by simp;omega,by have:=d.1 e;omega⟩
  .exact .inr ⟨by simp;omega,by have:=fun x=>e (d.2 x);omega⟩
 clear d;go_enter func32,ntmps32;go_wp2_with fail;refine y.o.mono ?_;rintro e w2 ⟨rfl,R⟩;have B:Q8 (G (Q w)) w (Ro w2 (Q1 #[I Y (k:Int),I Y (q:Int),I Y (s:Int)] 34)):=R.al _;have U:=gB w2 (Q1 #[I Y (k:Int),I Y (q:Int),I Y (s:Int)] 34);clear c0 i R;go_upto_region 2 with fail;generalize Ro w2 (Q1 #[I Y (k:Int),I Y (q:Int),I Y (s:Int)] 34)=w3 at *
 have D:=gj (HH.o.below B);obtain⟨c0,c1,-,-,-,i⟩:=D.o.cells;have a3:=gr 3 D.o.rg.row;have a4:=gr 4 D.o.rg.row;have S:=gm D.o.rg.row;rw[<-HK.o]at a3;rw[<-HQ.o]at a4;have j:Q8 (G (Q w3)) w3 (Ro w3 (Q1 #[I Y (k:Int),I Y (q:Int)] 31)):=(Below.rf w3).al _;have G4:=gB w3 (Q1 #[I Y (k:Int),I Y (q:Int)] 31);have E:=gC j (gm U) U;have F:=gj (D.o.below j);have ak:=gj (B.tn j);clear U B j;go_upto_region 3 with fail;clear c0 c1 i a3 a4 S;generalize Ro w3 (Q1 #[I Y (k:Int),I Y (q:Int)] 31)=w4 at *
 obtain⟨c0,c1,-,-,-,i⟩:=F.o.cells;have a0:=gr 0 F.o.rg.row;have S:=gm F.o.rg.row;have f0:=gr 0 E;have f1:=gr 1 E;have f2:=gr 2 E;have a1:=gm E;obtain⟨g0,g1,a2⟩:=xc G4;have HV:=gj (fun m=>ym K X H p (w4.drewN m) (F.o.x.below ((Below.rf w4).drewN m)));clear E G4;go_quiet ((first|(go_at_call 40;exact Calls.quiet_of_same (HV.o _))));rcases aa with ⟨h1,h2⟩|⟨h1,h2⟩
 all_goals
  go_wp2;go_ret;refine⟨by simp[];omega,ak.o.drewN _⟩
end
end Go.Proofs.YtkkfmkhbdoeglabGreatDoor
