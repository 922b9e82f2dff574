/- Lemmas. No condition. -/
import Derived.Test.YtkkfmkhbdoeglabGreatDoorG32
set_option maxRecDepth 100000
namespace Go.Proofs.YtkkfmkhbdoeglabGreatDoor
open Go.IntKind renaming i64->Y
open Go.Obj renaming cells->Q1
open Go.Value renaming int->I,slice->Q6,string->Q7
open Go.World renaming heap->Q,alloc->Ro
open List renaming length->O,toArray->Rm
open _root_.Array renaming size->G
open Go.Proofs.Tryz
open Go.RowKit Go.Shelf
theorem Vx(br:Ad)(m:Int)(l:List Int)(rv v:Value)(r:List yo)(ap:List Value)(w:World)(hr:gE w rv 1 (O l) (l.map fun i=>I Y i))(hl:O l<=im)(av:gZ w)(aE:kM w)(hv:JY w v r ap):
  Calls prog 9 #[I Y m,rv,v] w fun e w'=>e=.returned (.bool true)/\Below (G (Q w)) w w':=by
 have HP:=gj (fun(k:Nat) (M:Value) (wr:World) (h:Vn w k M wr)=>Vs br m 12 l rv hr hl av aE h);obtain⟨a8,⟨a,c,rfl,hc,hx⟩,hq⟩:=hv;have HX:=gj hx;have HQ:=gj hq;obtain⟨-,ra,rc,rfl,-,-⟩:=hr;clear hx hq av aE a8;go_enter func9,ntmps9;go_wp2_with fail;go_loopw [7,8] (fun M i wr=>∃(cu:Value) (k:Nat),cu=M/\k<=O r/\k<=300/\i=I Y (k:Int)/\Vn w k M wr) (fun _ i _=>O r-(intOf i).toNat)
 case atStart=>exact⟨_,0,rfl,aJ _,by omega,rfl,Vn.start w⟩
 case round=>
  obtain⟨M,k,rfl,hk,b0,rfl,hw⟩:=hrel;have HW:=gj hw;have s:Below (G (Q w)) w wr:=by obtain⟨ls,-,-,-,-,h⟩:=hw;exact h
  obtain⟨D,V,E,rfl⟩:∃D V E,M=Q6 D V E:=by obtain⟨ls,-,h,-⟩:=hw;obtain⟨D,E,e⟩:=h.shape;exact⟨D,_,E,e⟩
  clear hw;by_cases a0:k<O r/\k<300
  .obtain⟨a1,bL⟩:=a0;have bM:(k:Int)<(O r:Int):=by omega
   have bA:(k:Int)<300:=by omega
   obtain⟨R,U,rfl,x0,x1,x2,x3,x4,x5⟩:=HX.o k a1;obtain⟨a2,a3⟩:=HQ.o k a1;have d0:=(s.cell (p:=⟨R,U+k*6,none⟩) (gK x0)).trans x0;have d1:=(s.cell (p:=⟨R,U+k*6+1,none⟩) (gK x1)).trans x1;have d2:=(s.cell (p:=⟨R,U+k*6+2,none⟩) (gK x2)).trans x2;have d3:=(s.cell (p:=⟨R,U+k*6+3,none⟩) (gK x3)).trans x3;have d4:=(s.cell (p:=⟨R,U+k*6+4,none⟩) (gK x4)).trans x4;have d5:=(s.cell (p:=⟨R,U+k*6+5,none⟩) (gK x5)).trans x5;have a4:=gK d0;have b:=gj a2;have a5:=gj a3;obtain⟨-,d,j,bv,-,-⟩:=a3;clear x0 x1 x2 x3 x4 x5 a2 s;generalize ap.getD k (.bool false)=sv at *
   generalize r[k]=q at *
   subst bv;have F:∀x y:Int,(x==y)=decide (x=y):=fun _ _=>rfl;have g1:=F q.kind 10;have g2:=F q.kind 11;clear F;by_cases k1:q.kind=10
   .rw[bh k1]at g1;rw[aF (by omega)]at g2;have HF:gy (yo.mN ⟨q.kind,-1,q.B,q.C,q.S,q.iS⟩/\jE w (Q6 d (O q.iS) j) q.iS):=gj ⟨⟨b.o.kind,Vy,b.o.B,b.o.C,b.o.S,b.o.iS,b.o.len⟩,a5.o⟩;clear k1;have W:=gB wr (Q1 #[I Y q.kind,I Y (-1),I Y q.B,I Y q.C,Q7 ⟨Rm q.S⟩,Q6 d (O q.iS) j] 88);have u:=(gJ wr).alloc gH (Q1 #[I Y q.kind,I Y (-1),I Y q.B,I Y q.C,Q7 ⟨Rm q.S⟩,Q6 d (O q.iS) j] 88);go_upto_region 9 with fail;generalize Ro wr (Q1 #[I Y q.kind,I Y (-1),I Y q.B,I Y q.C,Q7 ⟨Rm q.S⟩,Q6 d (O q.iS) j] 88)=w9 at *
    have X:=gj (HW.o.below u);obtain⟨e0,e1,e2,e3,e4,e5,bw⟩:=CY W;clear W u d0 d1 d2 d3 d4 d5 a4;go_wp2_with (at_builtin;refine Vo rfl (.tmp 31) (.tmp 33) rfl (Q6 D V E) rfl (X.o.below ((gJ w9).alloc gH _)) (by omega) (⟨q.kind,-1,q.B,q.C,q.S,q.iS⟩,Q6 d (O q.iS) j) (by exact Vw (gB _ _)) rfl HF.o ?_;intro v' w' Z;have HN:=gj Z;clear Z);go_roundw
    case rel=>exact⟨_,k+1,rfl,by omega,by omega,by go_num,HN.o⟩
    case measure=>simp[intOf];omega
   .rw[aF k1]at g1;clear k1;by_cases k2:q.kind=11
    .rw[bh k2]at g2;clear k2;have u:=(gJ wr).alloc gH (Q1 #[I Y q.kind,I Y q.A,I Y q.B,I Y q.C,Q7 ⟨Rm q.S⟩,Q6 d (O q.iS) j] 88);have HN:=gj ((HW.o.below u).mono (dS k));clear u;go_wp2_with fail;go_roundw
     case rel=>exact⟨_,k+1,rfl,by omega,by omega,by go_num,HN.o⟩
     case measure=>simp[intOf];omega
    .rw[aF k2]at g2;have HF:gy (yo.mN ⟨q.kind,q.A,q.B,q.C,q.S,q.iS⟩/\jE w (Q6 d (O q.iS) j) q.iS):=gj ⟨⟨b.o.kind,b.o.A,b.o.B,b.o.C,b.o.S,b.o.iS,b.o.len⟩,a5.o⟩;clear k2;have W:=gB wr (Q1 #[I Y q.kind,I Y q.A,I Y q.B,I Y q.C,Q7 ⟨Rm q.S⟩,Q6 d (O q.iS) j] 88);have u:=(gJ wr).alloc gH (Q1 #[I Y q.kind,I Y q.A,I Y q.B,I Y q.C,Q7 ⟨Rm q.S⟩,Q6 d (O q.iS) j] 88);go_upto_region 9 with fail;generalize Ro wr (Q1 #[I Y q.kind,I Y q.A,I Y q.B,I Y q.C,Q7 ⟨Rm q.S⟩,Q6 d (O q.iS) j] 88)=w9 at *
     have X:=gj (HW.o.below u);obtain⟨e0,e1,e2,e3,e4,e5,bw⟩:=CY W;clear W u d0 d1 d2 d3 d4 d5 a4;go_wp2_with (at_builtin;refine Vo rfl (.tmp 31) (.tmp 33) rfl (Q6 D V E) rfl (X.o.below ((gJ w9).alloc gH _)) (by omega) (⟨q.kind,q.A,q.B,q.C,q.S,q.iS⟩,Q6 d (O q.iS) j) (by exact Vw (gB _ _)) rfl HF.o ?_;intro v' w' Z;have HN:=gj Z;clear Z);go_roundw
     case rel=>exact⟨_,k+1,rfl,by omega,by omega,by go_num,HN.o⟩
     case measure=>simp[intOf];omega
  .have bo:(¬(k:Int)<(O r:Int))\/((k:Int)<(O r:Int)/\¬(k:Int)<300):=by omega
   have bx:=gj (HP.o k (Q6 D V E) wr HW.o);clear a0 s;rcases bo with h0|⟨h0,h9⟩
   all_goals
    go_wp2_with fail;refine bx.o.mono ?_;rintro e w2 ⟨rfl,a6⟩;have bz:=gj a6;clear a6;go_wp2;go_ret;exact⟨rfl,bz.o⟩
end Go.Proofs.YtkkfmkhbdoeglabGreatDoor
