/- Lemmas of the proof. No condition. -/
import Derived.Test.YtkkfmkhbdoeglabGreatDoorV10
set_option maxHeartbeats 4000000
set_option maxRecDepth 100000
namespace Go.Proofs.YtkkfmkhbdoeglabGreatDoor
open Go renaming World->Q0,Value->Q4,TypeId->Ri
open Go.Obj renaming cells->Q1
open Go.Value renaming int->I,pointer->Q5,slice->Q6,string->Q7,ownBlock->Rl
open Go.World renaming heap->Q,cell?->Rn,alloc->Ro,setCell->Rp
open List renaming length->O,toArray->Rm
open Option renaming none->J,some->N
open _root_.Array renaming size->G
open Go.Proofs.Tryz
open Go.RowKit
variable{S:List E}{a:Act}{b:Exit->Act->Q0->Prop}{cs:Array Q4}{d:Nat×Nat}{j nF:Nat}{rest:List Oper}{t':Ri}{u:Q4}{w:Q0}
theorem wV{o:kv}{d:List K}(h:iZ o d=0):(lI o).length<=12/\O o.key<=6/\O o.val<=4:=by
 obtain⟨h1,i,j,l,q,b⟩:=ue h;have hk:=mj l;have m:gL o.table<=6:=by unfold gL;split<;>(try split)<;>omega
 have r:O o.val<=4:=by
  unfold yg at b;split at b
  .have:o.val=[]:=by simpa using b
   rw[this];simp
  .rw[lD i j b];unfold iu;split<;>(try split)<;>omega
 rw[uY];omega
theorem mR:∀(os:List kv) (i:Nat) (b:List K) (_:jA i b os=J) (k:Nat) (hk:k<O os),∃d,iZ os[k] d=0
 | o::os,i,b,h,0,hk=>by
  unfold jA at h;split at h
  .rename_i j;exact⟨b,j⟩
  .cases h
 | o::os,i,b,h,k+1,hk=>by
  unfold jA at h;split at h
  .exact mR os _ _ h k (by simpa using hk)
  .cases h
theorem Dw(os:List kv)(k:Nat)(h:k<O os):(os.take (k+1)).flatMap lI=(os.take k).flatMap lI++lI os[k]:=by rw[aC h,eO];simp
theorem OA(os:List kv)(k:Nat)(h:∀o∈os,(lI o).length<=12):((os.take k).flatMap lI).length<=12*k:=by
 induction k with
 | zero=>simp
 | succ k ih=>
  by_cases hk:k<O os
  .rw[Dw os k hk,ab];have:=h os[k] (bq hk);omega
  .rw[aW (by omega)]at ih⊢;omega
def uA(v:Nat)(os:List kv)(k:Nat):gw:=nC v++[UInt8.ofNat (O os)]++(os.take k).flatMap lI
theorem Iw(v:Nat)(os:List kv):uA v os 0=nC v++[UInt8.ofNat (O os)]:=by simp[uA]
theorem Ds(v:Nat)(os:List kv):uA v os (O os)=tS v os:=by simp[uA,tS]
theorem Iv(v:Nat)(os:List kv)(k:Nat)(h:k<O os):uA v os (k+1)=uA v os k++lI os[k]:=by unfold uA;rw[Dw os k h,<-bJ]
theorem F8(v:Nat)(os:List kv)(k:Nat)(h:∀o∈os,(lI o).length<=12):(uA v os k).length<=9+12*k:=by unfold uA;have:=OA os k h;rw[ab,ab,iB,dw];omega
theorem vV{F:Fence}(hF:∀f,F.fn f){iS:Array Oper}{o:Oper}(m:o.guard=J)(s x:Operand)(y:o.op=.call {callee:=.builtin .append,args:=#[s,x],argTypes:=#[112,112]})(base:Nat)(v:Q4)(n:Nat)(l:gw)(B:a.eval s=v)(i:gS w base 1 v n (l6 l))(C:gQ w v 5)(mm:gw)(D:gI w (a.eval x) mm)(E:n+O mm<=140737488355328)(d:base<=G (Q w))(h:∀v' w',gS w' base 1 v' (n+O mm) (l6 (l++mm))->w.grownBy w' (Rl v)->gQ w' v' 5->Below base w w'->
    wpListIn F nF prog iS b rest (a.put o.dst v') w'):wpListIn F nF prog iS b (o::rest) a w:=by
 obtain⟨i0,M,q,j,r⟩:=dE wN;have hmx:maxLen=9223372036854775807:=rfl;refine oV hF m s x _ _ y base 1 5 i0 (I .u8 0) underlying112 M q j (by rw[j];rfl) (by omega) v n (l6 l) B i C (O mm) (l6 mm) (gE.src underlying112 D (sw mm)) (by omega) (by rw[r];omega) d (fun v' w' h1 u R=>?_);rw[<-oC]at h1;exact h v' w' h1 u R (jF i u d)
theorem qK{F:Fence}(hF:∀f,F.fn f){iS:Array Oper}{o:Oper}(m:o.guard=J)(s x:Operand)(y:o.op=.call {callee:=.builtin .append,args:=#[s,x],argTypes:=#[112,9]})(base:Nat)(v:Q4)(n:Nat)(l:gw)(B:a.eval s=v)(i:gS w base 1 v n (l6 l))(C:gQ w v 5)(mm:gw)(D:a.eval x=Q7 ⟨Rm mm⟩)(E:n+O mm<=140737488355328)(d:base<=G (Q w))(h:∀v' w',gS w' base 1 v' (n+O mm) (l6 (l++mm))->w.grownBy w' (Rl v)->gQ w' v' 5->Below base w w'->
    wpListIn F nF prog iS b rest (a.put o.dst v') w'):wpListIn F nF prog iS b (o::rest) a w:=by
 obtain⟨i0,M,q,j,r⟩:=dE wN;have hmx:maxLen=9223372036854775807:=rfl;refine oV hF m s x _ _ y base 1 5 i0 (I .u8 0) underlying112 M q j (by rw[j];rfl) (by omega) v n (l6 l) B i C (O mm) (l6 mm) (by rw[D];exact OX mm) (by omega) (by rw[r];omega) d (fun v' w' h1 u R=>?_);rw[<-oC]at h1;exact h v' w' h1 u R (jF i u d)
theorem gQ.kept{w':Q0}{v:Q4}{e:Ri}{row:Option Nat}(h:gQ w v e)(j:w.grownBy w' row)(l:∀b,Rl v=N b->row≠N b):gQ w' v e:=fun b d=>by obtain⟨C,m,i⟩:=h b d;exact⟨C,m,(j.block b (gm i) (fun e=>l b d e.symm)).trans i⟩
structure l7(base B:Nat)(l:gw)(v:Q4)(W:Q0):Prop where
 box:Boxed W B 112 v
 own:gS W base 1 v (O l) (l6 l)
 typ:gQ W v 5
 lo:base<=B
section
variable {base B:Nat} {l mm:gw} {v v':Q4} {W w1:Q0}
theorem l7.pV(h:l7 base B l v W)(i:W.heap[j]?=N (Q1 cs t' d))(m:t'≠5):Rl v≠N j:=fun e=>by obtain⟨C,o,b⟩:=h.typ j e;rw[i]at b;cases b;exact m rfl
theorem l7.PL(h:l7 base B l v W):Rl v≠N B:=h.pV h.box (by decide)
theorem l7.kept{row:Option Nat}(h:l7 base B l v W)(i:W.grownBy w1 row)(j:∀r,row=N r->∃o:Obj,W.heap[r]?=N o/\o.isCells=false):l7 base B l v w1:=
 have h1:∀b,Rl v=N b->row≠N b:=fun b m e=>by obtain⟨C,s,q⟩:=h.typ b m;obtain⟨o,d,hc⟩:=j b e;rw[q]at d;cases d;cases hc
 ⟨h.box.kept i (fun e=>by obtain⟨o,d,hc⟩:=j B e.symm;rw[show W.heap[B]?=_ from h.box]at d;cases d;cases hc),h.own.grown i h1,h.typ.kept i h1,h.lo⟩
theorem l7.alloc(h:l7 base B l v W)(o:Obj):l7 base B l v (Ro W o):=h.kept (ek W o J) (fun r e=>by cases e)
theorem l7.still(h:l7 base B l v W)(b:W.grownBy w1 (Rl v)):Boxed w1 B 112 v:=h.box.kept b (fun e=>h.PL e.symm)
theorem l7.stored(h:l7 base B l v W)(o:W.grownBy w1 (Rl v)){n:Nat}(i:gS w1 base 1 v' n (l6 mm))(q:n=O mm)(j:gQ w1 v' 5):l7 base B mm v' (Rp w1 ⟨B,0,J⟩ v'):=by
 subst q;have h1:=h.still o;have d:∀b,Rl v'=N b->(N B:Option Nat)≠N b:=fun b r e=>by cases e;obtain⟨C,s,m⟩:=j B r;rw[show w1.heap[B]?=_ from h1]at m;cases m
 exact⟨h1.set v',i.grown (grownBy_setCell' w1 B v') d,j.kept (grownBy_setCell' w1 B v') d,h.lo⟩
theorem l7.others(h:l7 base B l v W)(d:W.grownBy w1 (Rl v)):KeepsOthers W (Rp w1 ⟨B,0,J⟩ v'):=
 (KeepsOthers.of_grownBy d (fun j o i m=>by obtain⟨C,q,b⟩:=h.typ j i;rw[m]at b;cases b;rfl)).trans (KeepsOthers.setCell _ _ _)
theorem l7.rD(h:l7 base B l v W)(m:W.grownBy w1 (Rl v))(b:W.heap[j]?=N (Q1 cs t' d))(o:t'≠5)(i:t'≠112):(Rp w1 ⟨B,0,J⟩ v').heap[j]?=N (Q1 cs t' d):=by
 have q:j≠B:=by rintro rfl;have:=(show W.heap[j]?=_ from h.box).symm.trans b;cases this;exact i rfl
 rw[Below.heap_setCell _ ⟨B,0,J⟩ _ j q];exact(m.block j (gm b) (fun e=>h.pV b o e.symm)).trans b
theorem l7.lower(h:l7 base B l v W)(b:W.grownBy w1 (Rl v))(d:base<=G (Q W)):Below base W (Rp w1 ⟨B,0,J⟩ v'):=
 (jF h.own b d).setCell (p:=⟨B,0,J⟩) h.lo v'
theorem l7.gX{n:Nat}(b:gS W base 1 v n (l6 l))(d:n=O l)(i:gQ W v 5)(j:base<=G (Q W)):l7 base (G (Q W)) l v (Ro W (Q1 #[v] 112)):=by subst d;exact⟨Boxed.new W _ _,b.below ((gJ W).alloc gH _),i.alloc _,j⟩
theorem l7.put{n:Nat}(i:Boxed W B 112 u)(o:gS W base 1 v n (l6 l))(q:n=O l)(j:gQ W v 5)(r:base<=B):l7 base B l v (Rp W ⟨B,0,J⟩ v):=by
 subst q;have d:∀b,Rl v=N b->(N B:Option Nat)≠N b:=fun b h e=>by cases e;obtain⟨C,s,m⟩:=j B h;rw[show W.heap[B]?=_ from i]at m;cases m
 exact⟨i.set v,o.grown (grownBy_setCell' W B v) d,j.kept (grownBy_setCell' W B v) d,r⟩
theorem l7.IT(h:l7 base B l v W)(b:W.grownBy w1 (Rl v))(j:base<=G (Q W)){x y z:Nat}{d:Ri}(m:Boxed W x d u)(o:d≠5)(i:d≠112)(q:y<base)(r:z<base):jq x y z W (Rp w1 ⟨B,0,J⟩ v'):=by
 refine⟨by rw[QO];exact b.size,fun k hk=>?_,fun k cs s hk=>h.rD b hk (by decide) (by decide)⟩;rcases hk with rfl|rfl|rfl
 .exact(h.rD b m o i).trans (show W.heap[k]?=_ from m).symm
 .exact(h.lower b j).block k q
 .exact(h.lower b j).block k r
end
open Go.Shelf
attribute [local go_sem] Oper.semAt_some
def mu(x:E):gw:=UInt8.ofNat x.1.1.toNat::(x.1.2++x.2)
def ma(l:List E):gw:=l.flatMap mu
def kh(v:Nat)(S:List E):gw:=nC v++[UInt8.ofNat (O S / 256),UInt8.ofNat (O S)]++ma S
theorem AY(l:List E)(x:E):ma (l++[x])=ma l++mu x:=by simp[ma]
theorem iE.len{r:Nat}(h:iE w r S)(ty:Ri):(Builtin.len_ #[162] ty #[.map (N r)]).run prog w=.ok (I .i64 (O S:Int)) w:=by
 obtain⟨-,L,⟨es,b,d,he,-⟩,i⟩:=h;have j:es.size=O S:=by have h1:=bm List.length he;have l:=i.length_eq;simp at h1 l;omega
 rw[<-j];simp[Builtin.len_,aO underlying162,aL d,goInt,Result.andThen]
theorem Hp(n:Nat):IntKind.u8.wrap (n:Int)=((UInt8.ofNat n).toNat:Int):=by simp[IntKind.wrap,IntKind.bits,IntKind.signed]
theorem DZ(w:Q0)(n:Nat):gI (Ro w (Q1 #[I .u8 (IntKind.u8.wrap ((n:Int) / 256)),I .u8 (IntKind.u8.wrap (n:Int))] 5)) (Q6 (N ⟨G (Q w),0,J⟩) 2 2) [UInt8.ofNat (n / 256),UInt8.ofNat n]:=by
 rw[show(n:Int) / 256=((n / 256:Nat):Int) by omega,Hp,Hp];refine⟨rfl,_,2,rfl,aq _,fun i b=>⟨G (Q w),0,rfl,?_⟩⟩;rw[bY,pK];have d:i<2:=b;have:i=0\/i=1:=by omega
 rcases this with rfl|rfl<;>rfl
theorem uZ{W:Q0}{base n:Nat}{v:Q4}{l:gw}(h:gS W base 1 v n (l6 l))(hl:2<=O l){B:Nat}{uu:Q4}{t:Ri}(b:W.heap[B]?=N (Q1 #[uu] t (0,0))):Rl v≠N B:=by
 obtain⟨d,⟨rfl,-⟩|⟨g,off,cap,rfl,-,-,-,-,hc,-⟩⟩:=h
 .simp[Value.ownBlock]
 .intro e;obtain rfl:g=B:=by simpa [Value.ownBlock]using e
  have h1:=hc 1 (by rw[lJ];omega);rw[aP _ _ _ _ _ _ b]at h1;have i:(#[uu]:Array Q4)[off+1]?=J:=by simp
  rw[i]at h1;cases h1
section
variable {w2 w3:Q0} {base n:Nat} {bv:Q4} {l:gw} {uu:Q4} {t:Ri}
theorem KP(h:gS w2 base 1 bv n (l6 l))(hl:2<=O l){b:Obj}(i:((Ro w2 (Q1 #[uu] t (0,0))).alloc b).grownBy w3 (Rl bv)):w3.heap[G (Q w2)]?=N (Q1 #[uu] t (0,0)):=by have d:=gP (Ro w2 (Q1 #[uu] t (0,0))) b (gB w2 (Q1 #[uu] t (0,0)));have j:Below (G (Q w2)) w2 ((Ro w2 (Q1 #[uu] t (0,0))).alloc b):=((gJ w2).alloc gH _).alloc (by simp) _;exact(i.block (G (Q w2)) (gm d) (uZ (h.below j) hl d).symm).trans d
theorem Ii(h:gS w2 base 1 bv n (l6 l))(hl:2<=O l){d:Obj}(i:((Ro w2 d).alloc (Q1 #[uu] t (0,0))).grownBy w3 (Rl bv)):w3.heap[G (Q w2)+1]?=N (Q1 #[uu] t (0,0)):=by have b:=gB (Ro w2 d) (Q1 #[uu] t (0,0));rw[aj]at b;have j:Below (G (Q w2)) w2 ((Ro w2 d).alloc (Q1 #[uu] t (0,0))):=((gJ w2).alloc gH _).alloc (by simp) _;exact(i.block (G (Q w2)+1) (gm b) (uZ (h.below j) hl b).symm).trans b
theorem KO(h:gS w2 base 1 bv n (l6 l))(hl:2<=O l){B:Nat}(i:w2.heap[B]?=N (Q1 #[uu] t (0,0))){b:Obj}(j:(Ro w2 b).grownBy w3 (Rl bv)):w3.heap[B]?=N (Q1 #[uu] t (0,0)):=by have d:=gP w2 b i;have m:Below (G (Q w2)) w2 (Ro w2 b):=(gJ w2).alloc gH _;exact(j.block B (gm d) (uZ (h.below m) hl d).symm).trans d
end
theorem Dv(h:∀x∈S,0<=x.1.1/\x.1.1<256/\O x.1.2<=100/\O x.2<=100):∀pre:List {x:E // x∈S},(ma (pre.map Subtype.val)).length<=201*O pre
 | []=>aJ _
 | x::pre=>by
  have h1:=Dv h pre;obtain⟨-,-,b,d⟩:=h x.1 x.2;have e:(ma ((x::pre).map Subtype.val)).length=1+O x.1.1.2+O x.1.2+(ma (pre.map Subtype.val)).length:=by simp[ma,mu];omega
  rw[e,ao];omega
theorem Dn(k:Int)(b:0<=k)(h1:k<256)(w:Q0):(Go.convert 3 5 (I .i64 k)).run prog w=.ok (I .u8 k) w:=by simp[go_sem];exact IntWalk.u8_in k (by omega)
theorem GJ(k:Int)(b:0<=k)(h1:k<256)(w:Q0):gI (Ro w (Q1 #[I .u8 k] 5)) (Q6 (N ⟨G (Q w),0,J⟩) 1 1) [UInt8.ofNat k.toNat]:=by
 have h:=ow w (UInt8.ofNat k.toNat);have e:((UInt8.ofNat k.toNat).toNat:Int)=k:=by simp;omega
 rw[e]at h;exact h
def Pb{S:List E}(base Bb b q off:Nat)(w:Q0)(l:gw)(pre:List {x:E // x∈S})(W:Q0):Prop:=
 (∃bv,l7 base Bb (l++ma (pre.map Subtype.val)) bv W)/\Boxed W b 219 (Q5 (N ⟨q,off,J⟩))/\Below base w W
theorem Mc{base Bb q off B:Nat}{l:gw}(m:base<=B)(o:base<=G (Q w)):OwnFrom B (Pb (S:=S) base Bb j q off w l):=by rintro pre X b row ⟨⟨bv,s⟩,h1,u⟩ d i;refine⟨⟨bv,s.kept d fun r e=>(i r e).2⟩,?_,(ownFrom_below (β:=Unit) o m) () X b row u d i⟩;exact(Own.from (boxed_own (β:=Unit) _ _ (fun _=>_)) B) () X b row h1 d i
theorem NV(q off r v:Nat)(S:List E)(w:Q0)(he:jt w q off r S)(hS:O S<65536)(hv:v<18446744073709551616)(hb:∀x∈S,0<=x.1.1/\x.1.1<256/\O x.1.2<=100/\O x.2<=100):
  Calls prog 206 #[I .u64 v,Q5 (N ⟨q,off,J⟩)] w fun e w'=>∃bv,e=.returned bv/\gS w' (G (Q w)) 1 bv (kh v S).length (l6 (kh v S))/\Below (G (Q w)) w w':=by
 have hc:=he.cell;have cr:=he.jh.len (ty:=3);have HL:=gj (fun(W:Q0) (hW:Below (G (Q w)) w W)=>(he.below hW).jh.len (ty:=3));have hq:=he.lt;have hr:=he.jh.lt;refine(callsIn_wide (n:=9)).1 ?_;refine callsIn_of_wp_marks func206 rfl cK ?_ rfl
 try simp only[ntmps206,dG,ao,aI,Nat.reduceAdd,Nat.reduceSub,bd,bf,bK,cY,aQ,aV]
 gi_wp2_with fail
 have bz:∀W,Below (G (Q w)) w W->Rn W ⟨q,off,J⟩=N (.map (N r)):=fun W hW=>(hW.cell (p:=⟨q,off,J⟩) hq).trans hc;have m:=gj bz;clear bz;have a7:=fun W=>DZ W (O S);refine wpIn_wide.2 ?_;go_upto_region 1 with fail;go_cut [5]from 8 to 42 (fun b wx=>∃Bb bv,b=Q5 (N ⟨Bb,0,J⟩)/\l7 (G (Q w)) Bb (nC v++[UInt8.ofNat (O S / 256),UInt8.ofNat (O S)]) bv wx/\Below (G (Q w)) w wx)
 case first=>
  go_region_held3 (fun w'=>Below (G (Q w)) w w'/\Rn w' ⟨q,off,J⟩=N (.map (N r))/\(Builtin.len_ #[162] 3 #[.map (N r)]).run prog w'=.ok (I .i64 (O S:Int)) w')
   (first|exact⟨(kz).drew,m.o _ (kz).drew,HL.o _ (kz).drew⟩|exact⟨((Below.refl (G (Q w)) w).drew.alloc gH _),m.o _ ((Below.refl (G (Q w)) w).drew.alloc gH _),HL.o _ ((Below.refl (G (Q w)) w).drew.alloc gH _)⟩|exact⟨(((Below.refl (G (Q w)) w).alloc gH _).drew),m.o _ (((Below.refl (G (Q w)) w).alloc gH _).drew),HL.o _ (((Below.refl (G (Q w)) w).alloc gH _).drew)⟩|exact⟨b2,m.o _ b2,HL.o _ b2⟩|exact⟨(b2.alloc b2.size _),m.o _ (b2.alloc b2.size _),HL.o _ (b2.alloc b2.size _)⟩|exact⟨((b2.alloc b2.size _).alloc (by have:=b2.size;simp;omega) _),m.o _ ((b2.alloc b2.size _).alloc (by have:=b2.size;simp;omega) _),HL.o _ ((b2.alloc b2.size _).alloc (by have:=b2.size;simp;omega) _)⟩|exact⟨i,m.o _ i,HL.o _ i⟩|exact⟨(i.alloc i.size _),m.o _ (i.alloc i.size _),HL.o _ (i.alloc i.size _)⟩|exact⟨(i.setCell (p:=⟨G (Q w),0,J⟩) gH _),m.o _ (i.setCell (p:=⟨G (Q w),0,J⟩) gH _),HL.o _ (i.setCell (p:=⟨G (Q w),0,J⟩) gH _)⟩|exact⟨(i.setCell (p:=⟨G (Q w2),0,J⟩) b2.size _),m.o _ (i.setCell (p:=⟨G (Q w2),0,J⟩) b2.size _),HL.o _ (i.setCell (p:=⟨G (Q w2),0,J⟩) b2.size _)⟩|exact⟨(i.setCell (p:=⟨G (Q w2)+1,0,J⟩) (by have:=b2.size;simp;omega) _),m.o _ (i.setCell (p:=⟨G (Q w2)+1,0,J⟩) (by have:=b2.size;simp;omega) _),HL.o _ (i.setCell (p:=⟨G (Q w2)+1,0,J⟩) (by have:=b2.size;simp;omega) _)⟩)
   ((first
     | (go_at_call 160;refine(zw _ (Q6 J 0 0) [] v _ (gS.nil _ _ _) (gQ.nil _ _) gH (by simp[im]) hv).mono ?_;rintro e w2 ⟨bv,rfl,ba,bb,a2⟩;have bA:=gj bb;clear bb;simp only[aI,bY,aQ]at ba;
         have b2:Below (G (Q w)) w w2:=(by first|exact(Below.refl (G (Q w)) w).drew.trans a2|exact(((Below.refl (G (Q w)) w).alloc gH _).drew).trans (a2.mono (by simp))|exact((Below.refl (G (Q w)) w).drew.alloc gH _).trans (a2.mono (by simp)));have s:gS w2 (G (Q w)) 1 bv 8 (l6 (nC v)):=ba.mono (by simp);
         (first
           | (have hA:Below w.drew.heap.size w.drew w2:=by with_reducible exact a2)
           | (have Q2:gy (w2.heap[G (Q w)]?=N (Q1 #[Q6 J 0 0] 112 (0,0))):=gj (gC a2 (by simp) (by first|exact gB w _|exact gB w.drew _)))))
     | (refine pa rfl (.tmp 9) (.tmp 23) rfl (G (Q w)) bv 8 (nC v) rfl (by first|exact s.below ((gJ w2).alloc gH _)|exact s.below (((gJ w2).alloc gH _).alloc (by simp) _)) (by first|exact bA.o.alloc _|exact(bA.o.alloc _).alloc _) [UInt8.ofNat (O S / 256),UInt8.ofNat (O S)] (by first|exact a7 _|(have h9:=a7 (Ro w2 (Q1 #[Q6 J 0 0] 112 (0,0)));rw[aj]at h9;exact h9)|exact gI.below (a7 w2) ((kz).alloc gH _)) (by simp) (by have h9:=b2.size;simp at h9⊢;omega) ?_;intro v3 w3 U u bc bi;have aE:=gj bc;clear bc;
         have i:Below (G (Q w)) w w3:=(by first|exact(b2.alloc b2.size _).trans bi|exact((b2.alloc b2.size _).alloc (by have:=b2.size;simp;omega) _).trans bi);obtain⟨va,bk,rfl⟩:=U.shape;
         (first
           | (have V:gy (w3.heap[G (Q w)]?=N (Q1 #[Q6 J 0 0] 112 (0,0))):=gj (KO s (by rw[iB];omega) Q2.o u);have x0:=gr 0 V.o;have y0:=gD 0 V.o;have l0:=gm V.o)
           | (have V:gy (w3.heap[G (Q w2)]?=N (Q1 #[Q6 J 0 0] 112 (0,0))):=gj (KP s (by rw[iB];omega) u);have x0:=gr 0 V.o;have y0:=gD 0 V.o;have l0:=gm V.o)
           | (have V:gy (w3.heap[G (Q w2)+1]?=N (Q1 #[Q6 J 0 0] 112 (0,0))):=gj (Ii s (by rw[iB];omega) u);have x0:=gr 0 V.o;have y0:=gD 0 V.o;have l0:=gm V.o)
           | skip))))
  all_goals go_wp2_with fail
  all_goals go_meet
  .exact⟨G (Q w3),_,rfl,l7.gX U (by simp[iB]) aE.o i.size,i.alloc i.size _⟩
  .exact⟨G (Q w2)+1,_,rfl,l7.put V.o U (by simp[iB]) aE.o (by have:=b2.size;omega),i.setCell (p:=⟨G (Q w2)+1,0,J⟩) (ft b2.size) _⟩
  .exact⟨G (Q w2),_,rfl,l7.put V.o U (by simp[iB]) aE.o b2.size,i.setCell (p:=⟨G (Q w2),0,J⟩) b2.size _⟩
  .exact⟨G (Q w),_,rfl,l7.put V.o U (by simp[iB]) aE.o gH,i.setCell (p:=⟨G (Q w),0,J⟩) gH _⟩
 case rest=>
  obtain⟨Bb,bv,rfl,hI,hB⟩:=hcut;have cb:=he.below hB
  gi_wp2_with (refine⟨cK,(callsIn_wide.2 (tV q off _)).mono ?_⟩;rintro e w5 ⟨rfl,rfl⟩)
  have d8:=Boxed.new wc 219 (Q5 (N ⟨q,off,J⟩));have bB:=hI.alloc (Q1 #[Q5 (N ⟨q,off,J⟩)] 219);have a3:=hB.alloc hB.size (Q1 #[Q5 (N ⟨q,off,J⟩)] 219);have hM:G (Q wc)<(Ro wc (Q1 #[Q5 (N ⟨q,off,J⟩)] 219)).heap.size:=by simp
  have cc:G (Q w)<=G (Q wc):=hB.size;obtain⟨Bm,bD⟩:∃Bm,Bm=G (Q wc):=⟨_,rfl⟩;obtain⟨W5,bE⟩:∃W5,W5=Ro wc (Q1 #[Q5 (N ⟨q,off,J⟩)] 219):=⟨_,rfl⟩;rw[<-bE]at d8 bB a3 hM⊢;rw[<-bD]at d8 hM cc⊢;clear bE bD hI hB cb;have cd:=he.below a3;have hmx:maxLen=9223372036854775807:=rfl
  refine wpIn_rangeFunc_ownH rfl (by omega) (gf:=135) (lb:=#[Q5 (N ⟨Bm,0,J⟩)]) rfl cK (enters_of func135 (by kernel_rfl) rfl)
   (pN (β:={x:E // x∈S}) Subtype.val S.attach (9-1) Bm q off r S (dx S) W5 hM d8.cell cd (by omega)) (fun h k=>jq.trans h k)
   (fun W l o o' hl ho hc _=>⟨by simp,(fun k hk=>World.putObj_heap_other (by have:=a3.size;rcases hk with rfl|rfl|rfl<;>omega)),(fun k cs fz hk=>(World.putObj_heap_other (fun e=>by subst e;rw[hk]at ho;cases ho;cases hc)).trans hk)⟩) (kz) (fun _=>rfl)
   (Pb (G (Q w)) Bb Bm q off w (nC v++[UInt8.ofNat (O S / 256),UInt8.ofNat (O S)]))
   (fun _ _ _=>False)
   (Mc (by have:=a3.size;omega) gH)
   (fun _ _ _ _ _ hs _ _=>hs)
   ⟨⟨bv,by simpa [ma]using bB⟩,d8,a3⟩
   (fun x a' W=>∃Bx,Bm<Bx/\W.heap[Bx]?=N (Q1 #[I .i64 x.1.1.1,Q7 ⟨Rm x.1.1.2⟩] 103 (0,0))/\a'={tmps:=#[I .u64 v,Q5 (N ⟨q,off,J⟩),undef,undef,Q6 J 0 0,Q5 (N ⟨Bb,0,J⟩),Q5 (N ⟨Bx,0,J⟩),Q7 ⟨Rm x.1.2⟩,u8,u9,u10,u11,u12,u13,u14,u15,u16,u17,u18,u19,u20,u21,u22,u23,u24,Q5 (N ⟨q,off,J⟩),.func (.func 135) #[] #[Q5 (N ⟨Bm,0,J⟩)],.agg #[I .i64 x.1.1.1,Q7 ⟨Rm x.1.1.2⟩],Q7 ⟨Rm x.1.2⟩,u29,u30,u31,u32,u33,u34,u35,u36,u37,u38,u39,u40,u41,u42],defers:=[]})
   (fun x a' _ X d row hs hg hr=>by obtain⟨Bx,h1,M,h3⟩:=hs;exact⟨Bx,h1,(hg.block Bx (gm M) (fun e=>by obtain⟨-,o,ho,hc⟩:=hr Bx e.symm;rw[M]at ho;cases ho;cases hc)).trans M,h3⟩)
   ?assign ?body ?done ?stop
  case assign=>
   rintro l pre x W K ⟨⟨bw,h0⟩,h1,M⟩ hK;unfold kV nd
   gi_wp2
   exact hK _ _ ((KeepsOthers.alloc _ _).from _) (jq.iN ((gJ W).alloc gH _) h1.lt (by have:=M.size;omega) (by have:=M.size;omega)) ⟨⟨bw,h0.alloc _⟩,h1.alloc _,M.alloc M.size _⟩ ⟨G (Q W),h1.lt,gB W _,rfl⟩
  case body=>
   rintro l pre ⟨⟨⟨R,kb⟩,vb⟩,bH⟩ a' W hl ⟨rr,c9⟩ ⟨⟨bw,h0⟩,h1,M⟩ ⟨Bx,da,bX,rfl⟩ dc;obtain⟨g0,g1,g2,g3⟩:=hb _ bH;simp only at g0 g1 g2 g3;have gl:=Dv hb pre;have HB:=gj hb;clear hb;obtain⟨va,bk,rfl⟩:=h0.own.shape;obtain⟨L,hL⟩:∃L,L=nC v++[UInt8.ofNat (O S / 256),UInt8.ofNat (O S)]++ma (pre.map Subtype.val):=⟨_,rfl⟩;have dk:O L<=20000000:=by rw[hL];simp only[ab,iB,ao,aI];omega
   have HL:=gj hL;rw[<-hL]at h0;clear hL gl;have x0:=gr 0 bX;have x1:=gr 1 bX;have hcv:=Dn R g0 g1;have cB:=h0.box.cell;have sW:=M.size;have b3:=GJ R g0 g1 W;have hA:=h0.alloc (Q1 #[I .u8 R] 5);have bo:G (Q w)<=(Ro W (Q1 #[I .u8 R] 5)).heap.size:=by simp;omega
   have ce:=gP W (Q1 #[I .u8 R] 5) bX;have KA:jq Bm q r W (Ro W (Q1 #[I .u8 R] 5)):=jq.iN ((gJ W).alloc gH _) h1.lt (by omega) (by omega);have bI:=h1.alloc (Q1 #[I .u8 R] 5);have cg:=M.alloc M.size (Q1 #[I .u8 R] 5)
   gi_wp2_with (first
    | (gi_at_builtin;refine vV (fun _=>cK) rfl (.tmp 29) (.tmp 33) rfl (G (Q w)) (Q6 va (O L) bk) (O L) L rfl hA.own hA.typ [UInt8.ofNat R.toNat] b3 (by simp only[ao,aI];omega) bo ?_;intro v1 w1 br Z ci dl;simp only[ao,aI,bY]at br;obtain⟨ap,j,rfl⟩:=br.shape;have c1:=(hA.still Z).cell;have f1:=(hA.still Z).frozen;have C:=hA.stored Z br (by simp) ci;have cl:=hA.rD (v':=Q6 ap (O L+1) j) Z ce (by decide) (by decide);have y1:=gr 1 cl;have dn:=C.box.cell;have a8:G (Q w)<=(Rp w1 ⟨Bb,0,none⟩ (Q6 ap (O L+1) j)).heap.size:=(by rw[QO];have:=Z.size;omega))
    | (gi_at_builtin;refine qK (fun _=>cK) rfl (.tmp 35) (.tmp 37) rfl (G (Q w)) (Q6 ap (O L+1) j) (O L+1) (L++[UInt8.ofNat R.toNat]) rfl (by have h9:=C.own;rw[ab]at h9;exact h9) C.typ kb rfl (by omega) a8 ?_;intro v2 w2 bL ak cm dp;obtain⟨a0,B,rfl⟩:=bL.shape;have c2:=(C.still ak).cell;have f2:=(C.still ak).frozen;have F:=C.stored ak bL (by simp;omega) cm;have ds:=F.box.cell;have a9:G (Q w)<=(Rp w2 ⟨Bb,0,none⟩ (Q6 a0 (O L+1+O kb) B)).heap.size:=(by rw[QO];have:=ak.size;omega))
    | (gi_at_builtin;refine qK (fun _=>cK) rfl (.tmp 39) (.tmp 40) rfl (G (Q w)) (Q6 a0 (O L+1+O kb) B) (O L+1+O kb) (L++[UInt8.ofNat R.toNat]++kb) rfl (by have h9:=F.own;rw[show(L++[UInt8.ofNat R.toNat]++kb).length=O L+1+O kb by simp;omega]at h9;exact h9) F.typ vb rfl (by omega) a9 ?_;intro v3 w3 bM u aE bi;obtain⟨a6,aa,rfl⟩:=bM.shape;have c3:=(F.still u).cell;have f3:=(F.still u).frozen;have cn:=F.stored u bM (by simp;omega) aE))
   have bN:=hA.rD (v':=Q6 ap (O L+1) j) Z bI (by decide) (by decide);have bO:=C.rD (v':=Q6 a0 (O L+1+O kb) B) ak bN (by decide) (by decide);have co:=F.rD (v':=Q6 a6 (O L+1+O kb+O vb) aa) u bO (by decide) (by decide);have e:nC v++[UInt8.ofNat (O S / 256),UInt8.ofNat (O S)]++ma ((pre++[(⟨((R,kb),vb),bH⟩:{x:E // x∈S})]).map Subtype.val)=L++[UInt8.ofNat R.toNat]++kb++vb:=by rw[bj,List.map_singleton,AY,HL.o];simp[mu]
   have kO:=((KeepsOthers.alloc W (Q1 #[I .u8 R] 5)).trans (hA.others (v':=Q6 ap (O L+1) j) Z)).trans ((C.others (v':=Q6 a0 (O L+1+O kb) B) ak).trans (F.others (v':=Q6 a6 (O L+1+O kb+O vb) aa) u));have kE:=KA.trans ((hA.IT (x:=Bm) (y:=q) (z:=r) (v':=Q6 ap (O L+1) j) Z bo bI (by decide) (by decide) (by omega) (by omega)).trans ((C.IT (x:=Bm) (y:=q) (z:=r) (v':=Q6 a0 (O L+1+O kb) B) ak a8 bN (by decide) (by decide) (by omega) (by omega)).trans (F.IT (x:=Bm) (y:=q) (z:=r) (v':=Q6 a6 (O L+1+O kb+O vb) aa) u a9 bO (by decide) (by decide) (by omega) (by omega))));have kB:=cg.trans ((hA.lower (v':=Q6 ap (O L+1) j) Z bo).trans ((C.lower (v':=Q6 a0 (O L+1+O kb) B) ak a8).trans (F.lower (v':=Q6 a6 (O L+1+O kb+O vb) aa) u a9)));refine⟨kO.from _,kE,⟨Q6 a6 (O L+1+O kb+O vb) aa,?_⟩,co,kB⟩;rw[e];exact cn
  case done=>
   rintro D ys W hD rfl ⟨⟨bw,h0⟩,h1,M⟩ hK;have cB:=h0.box.cell;have dv:=M.size
   gi_wp2_with fail
   refine⟨by simp,.inl ⟨_,_,rfl,run_takeDeferred hK,?_⟩⟩;have hP:=h0.kept (grownBy_putObj' W D (.deferred J)) (fun r e=>by cases e;exact⟨_,hK,rfl⟩);have e:nC v++[UInt8.ofNat (O S / 256),UInt8.ofNat (O S)]++ma (S.attach.map Subtype.val)=kh v S:=by rw[dx];rfl
   rw[e]at hP;exact⟨_,results_tmp rfl _ _ _,bw,rfl,hP.own,M.trans (belowK_b (w:=w) gH W D _ _ (by omega) hK rfl rfl)⟩
  case stop=>rintro D c pre W _ _ h _;exact h.elim
end Go.Proofs.YtkkfmkhbdoeglabGreatDoor
namespace Go.Proofs.YtkkfmkhbdoeglabGreatDoor
open Go renaming World->Q0,Value->Q4,TypeId->Ri
open Go.Obj renaming cells->Q1
open Go.Value renaming int->I,pointer->Q5,slice->Q6,string->Q7,ownBlock->Rl
open Go.World renaming heap->Q,cell?->Rn,alloc->Ro,setCell->Rp
open List renaming length->O,toArray->Rm
open Option renaming none->J,some->N
open _root_.Array renaming size->G
open Go.Proofs.Tryz
open Go.RowKit
def JX(w:Q0)(g off k:Nat)(os:List kv):Prop:=∀j (h:j<O os),k<=j->
 Rn w ⟨g,off+j*4,J⟩=N (I .i64 os[j].kind)/\Rn w ⟨g,off+j*4+1,J⟩=N (I .i64 os[j].table)/\Rn w ⟨g,off+j*4+2,J⟩=N (Q7 ⟨os[j].key.toArray⟩)/\Rn w ⟨g,off+j*4+3,J⟩=N (Q7 ⟨os[j].val.toArray⟩)
def Dg(w1:Q0)(g off n:Nat)(os:List kv)(i:Q4)(wr:Q0):Prop:=
 ∃k:Nat,k<=n/\i=I .i64 k/\JX wr g off k os/\(∀i,i<n*4->wr.frozen? ⟨g,off+i,J⟩=false)/\g<G (Q wr)/\gR (fun b=>b=g) w1 wr
def vq(w:Q0)(g o:Nat):Q0:=(((Rp w ⟨g,o,J⟩ (I .i64 0)).setCell ⟨g,o+1,J⟩ (I .i64 0)).setCell ⟨g,o+2,J⟩ (Q7 ⟨#[]⟩)).setCell ⟨g,o+3,J⟩ (Q7 ⟨#[]⟩)
theorem sr(w:Q0)(g o i:Nat)(h:i<o\/o+4<=i):(vq w g o).cell? ⟨g,i,J⟩=Rn w ⟨g,i,J⟩:=by unfold vq;rw[cW (h:=by simp<;>omega),cW (h:=by simp<;>omega),cW (h:=by simp<;>omega),cW (h:=by simp<;>omega)]
theorem Da(w:Q0)(g o i:Nat):(vq w g o).frozen? ⟨g,i,J⟩=w.frozen? ⟨g,i,J⟩:=by unfold vq;simp only[fq]
theorem Hj(w:Q0)(g o:Nat):(vq w g o).heap.size=G (Q w):=by unfold vq;simp only[QO]
theorem JG{S:Nat->Prop}{d w:Q0}(h:gR S d w)(g o:Nat)(b:S g):gR S d (vq w g o):=
 (((h.setCell _ _ (.inl b)).setCell _ _ (.inl b)).setCell _ _ (.inl b)).setCell _ _ (.inl b)
theorem Dg.step{w1 wr:Q0}{g off n k:Nat}{os:List kv}(hk:k<n)(h1:JX wr g off k os)(d:∀i,i<n*4->wr.frozen? ⟨g,off+i,J⟩=false)(l:g<G (Q wr))(m:gR (fun b=>b=g) w1 wr):
  Dg w1 g off n os (I .i64 ((k+1:Nat):Int)) (vq wr g (off+k*4)):=by
 refine⟨k+1,hk,rfl,fun j o r=>?_,fun i q=>?_,by rw[Hj];exact l,JG m g _ rfl⟩
 .obtain⟨c0,c1,c2,c3⟩:=h1 j o (by omega);exact⟨(sr wr g _ _ (by omega)).trans c0,(sr wr g _ _ (by omega)).trans c1,(sr wr g _ _ (by omega)).trans c2,(sr wr g _ _ (by omega)).trans c3⟩
 .rw[Da];exact d i q
def Od(S:List E):Prop:=∀x∈S,0<=x.1.1/\x.1.1<256/\O x.1.2<=100/\O x.2<=100
end Go.Proofs.YtkkfmkhbdoeglabGreatDoor
