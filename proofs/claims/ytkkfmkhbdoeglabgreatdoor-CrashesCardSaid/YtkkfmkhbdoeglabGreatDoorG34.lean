/- Lemmas of the proof. No condition. -/
import Derived.Test.YtkkfmkhbdoeglabGreatDoorG32
set_option maxHeartbeats 1000000
set_option maxRecDepth 100000
namespace Go.Proofs.YtkkfmkhbdoeglabGreatDoor
open Go.IntKind renaming i64->Y
open Go.Obj renaming cells->Q1
open Go.Value renaming int->I,slice->Q6,string->Q7
open Go.World renaming heap->Q,alloc->Ro
open List renaming length->O,toArray->Rm
open _root_.Array renaming size->G
open Go.Proofs.Tryz
open Go.RowKit Go.Shelf
theorem Vv(bo:Ad)(m:Int)(l:List Int)(rv v:Value)(r:List yo)(ak:List Value)(w:World)(hr:gE w rv 1 (O l) (l.map fun i=>I Y i))(hl:O l<=im)(al:gZ w)(am:kM w)(hv:JY w v r ak):
  Calls prog 8 #[I Y m,rv,v] w fun e w'=>e=.returned (.bool true)/\Below (G (Q w)) w w':=by
 have HP:=gj (fun(k:Nat) (E:Value) (wr:World) (h:Vn w k E wr)=>Vs bo m 11 l rv hr hl al am h);obtain⟨a5,⟨a,c,rfl,hc,hx⟩,hq⟩:=hv;have HX:=gj hx;have HQ:=gj hq;obtain⟨-,ra,rc,rfl,-,-⟩:=hr;clear hx hq al am a5;go_enter func8,ntmps8;go_wp2_with fail;go_loopw [7,8] (fun E i wr=>∃(cu:Value) (k:Nat),cu=E/\k<=O r/\k<=300/\i=I Y (k:Int)/\Vn w k E wr) (fun _ i _=>O r-(intOf i).toNat)
 case atStart=>exact⟨_,0,rfl,aJ _,by omega,rfl,Vn.start w⟩
 case round=>
  obtain⟨E,k,rfl,hk,bX,rfl,hw⟩:=hrel;have HW:=gj hw;have s:Below (G (Q w)) w wr:=by obtain⟨ls,-,-,-,-,h⟩:=hw;exact h
  obtain⟨u,R,D,rfl⟩:∃u R D,E=Q6 u R D:=by obtain⟨ls,-,h,-⟩:=hw;obtain⟨u,D,e⟩:=h.shape;exact⟨u,_,D,e⟩
  clear hw;by_cases ap:k<O r/\k<300
  .obtain⟨av,bI⟩:=ap;have bL:(k:Int)<(O r:Int):=by omega
   have bz:(k:Int)<300:=by omega
   obtain⟨F,M,rfl,x0,x1,x2,x3,x4,x5⟩:=HX.o k av;obtain⟨aE,a0⟩:=HQ.o k av;have d0:=(s.cell (p:=⟨F,M+k*6,none⟩) (gK x0)).trans x0;have d1:=(s.cell (p:=⟨F,M+k*6+1,none⟩) (gK x1)).trans x1;have d2:=(s.cell (p:=⟨F,M+k*6+2,none⟩) (gK x2)).trans x2;have d3:=(s.cell (p:=⟨F,M+k*6+3,none⟩) (gK x3)).trans x3;have d4:=(s.cell (p:=⟨F,M+k*6+4,none⟩) (gK x4)).trans x4;have d5:=(s.cell (p:=⟨F,M+k*6+5,none⟩) (gK x5)).trans x5;have a1:=gK d0;have b:=gj aE;have a2:=gj a0;obtain⟨-,d,j,bt,-,-⟩:=a0;clear x0 x1 x2 x3 x4 x5 aE s;generalize ak.getD k (.bool false)=sv at *
   generalize r[k]=q at *
   subst bt;have U:∀x y:Int,(x==y)=decide (x=y):=fun _ _=>rfl;have g1:=U q.kind 10;clear U;by_cases k1:q.kind=10
   .rw[bh k1]at g1;have HF:gy (yo.mN ⟨q.kind,q.A,-1,q.C,q.S,q.iS⟩/\jE w (Q6 d (O q.iS) j) q.iS):=gj ⟨⟨b.o.kind,b.o.A,Vy,b.o.C,b.o.S,b.o.iS,b.o.len⟩,a2.o⟩;clear k1;have V:=gB wr (Q1 #[I Y q.kind,I Y q.A,I Y (-1),I Y q.C,Q7 ⟨Rm q.S⟩,Q6 d (O q.iS) j] 88);have W:=(gJ wr).alloc gH (Q1 #[I Y q.kind,I Y q.A,I Y (-1),I Y q.C,Q7 ⟨Rm q.S⟩,Q6 d (O q.iS) j] 88);go_upto_region 8 with fail;generalize Ro wr (Q1 #[I Y q.kind,I Y q.A,I Y (-1),I Y q.C,Q7 ⟨Rm q.S⟩,Q6 d (O q.iS) j] 88)=w9 at *
    have X:=gj (HW.o.below W);obtain⟨e0,e1,e2,e3,e4,e5,bv⟩:=CY V;clear V W d0 d1 d2 d3 d4 d5 a1;go_wp2_with (at_builtin;refine Vo rfl (.tmp 28) (.tmp 30) rfl (Q6 u R D) rfl (X.o.below ((gJ w9).alloc gH _)) (by omega) (⟨q.kind,q.A,-1,q.C,q.S,q.iS⟩,Q6 d (O q.iS) j) (by exact Vw (gB _ _)) rfl HF.o ?_;intro v' w' Z;have HN:=gj Z;clear Z);go_roundw
    case rel=>exact⟨_,k+1,rfl,by omega,by omega,by go_num,HN.o⟩
    case measure=>simp[intOf];omega
   .rw[aF k1]at g1;have HF:gy (yo.mN ⟨q.kind,q.A,q.B,q.C,q.S,q.iS⟩/\jE w (Q6 d (O q.iS) j) q.iS):=gj ⟨⟨b.o.kind,b.o.A,b.o.B,b.o.C,b.o.S,b.o.iS,b.o.len⟩,a2.o⟩;clear k1;have V:=gB wr (Q1 #[I Y q.kind,I Y q.A,I Y q.B,I Y q.C,Q7 ⟨Rm q.S⟩,Q6 d (O q.iS) j] 88);have W:=(gJ wr).alloc gH (Q1 #[I Y q.kind,I Y q.A,I Y q.B,I Y q.C,Q7 ⟨Rm q.S⟩,Q6 d (O q.iS) j] 88);go_upto_region 8 with fail;generalize Ro wr (Q1 #[I Y q.kind,I Y q.A,I Y q.B,I Y q.C,Q7 ⟨Rm q.S⟩,Q6 d (O q.iS) j] 88)=w9 at *
    have X:=gj (HW.o.below W);obtain⟨e0,e1,e2,e3,e4,e5,bv⟩:=CY V;clear V W d0 d1 d2 d3 d4 d5 a1;go_wp2_with (at_builtin;refine Vo rfl (.tmp 28) (.tmp 30) rfl (Q6 u R D) rfl (X.o.below ((gJ w9).alloc gH _)) (by omega) (⟨q.kind,q.A,q.B,q.C,q.S,q.iS⟩,Q6 d (O q.iS) j) (by exact Vw (gB _ _)) rfl HF.o ?_;intro v' w' Z;have HN:=gj Z;clear Z);go_roundw
    case rel=>exact⟨_,k+1,rfl,by omega,by omega,by go_num,HN.o⟩
    case measure=>simp[intOf];omega
  .have bn:(¬(k:Int)<(O r:Int))\/((k:Int)<(O r:Int)/\¬(k:Int)<300):=by omega
   have bw:=gj (HP.o k (Q6 u R D) wr HW.o);clear ap s;rcases bn with h0|⟨h0,h9⟩
   all_goals
    go_wp2_with fail;refine bw.o.mono ?_;rintro e w2 ⟨rfl,a3⟩;have bx:=gj a3;clear a3;go_wp2;go_ret;exact⟨rfl,bx.o⟩
end Go.Proofs.YtkkfmkhbdoeglabGreatDoor
