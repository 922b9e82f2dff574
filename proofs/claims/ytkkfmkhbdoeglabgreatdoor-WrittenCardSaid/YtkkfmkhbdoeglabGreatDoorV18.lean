/- Lemmas of the proof. No condition. -/
import Derived.Test.YtkkfmkhbdoeglabGreatDoorV17
set_option maxHeartbeats 4000000
set_option maxRecDepth 100000
namespace Go.Proofs.YtkkfmkhbdoeglabGreatDoor
open Go renaming World->Q0,Value->Q4,Calls->Rg
open Go.Ending renaming returned->Ra
open Go.IntKind renaming i64->Y,u64->Re
open Go.Obj renaming cells->Q1
open Go.RowKit renaming Below->Q8
open Go.Value renaming int->I,slice->Q6,string->Q7,agg->Q9,tuple->Rc
open Go.World renaming heap->Q,cell?->Rn,alloc->Ro,setCell->Rp
open List renaming length->O,toArray->Rm
open Option renaming none->J,some->N
open _root_.Array renaming size->G
open Go.Proofs.Tryz
open Go.RowKit
variable{A B b d k n p v:Nat}{e:Ending}{os:List kv}{s:gw}{w w' wr:Q0}
theorem CQ(s:gw)(at':Nat)(d:Q4)(us:List kv)(w:Q0)(l:O s<=im)(ha:at'<=O s)(j:jE w d us)(hl:O us<=100):
  Rg prog 161 #[Q7 ⟨Rm s⟩,I Y at',d] w fun e w'=>(∃v,e=Ra v/\qu s at' (iY us) v)/\Q8 (G (Q w)) w w':=by
 have b:O s<=9223372036854770000:=by unfold im at l;omega
 cases i:s.drop at' with
 | nil=>exact uC s at' d (iY us) w b ha (by have:=bm List.length i;simp at this;omega)
 | cons x t=>
  cases t with
  | nil=>exact uC s at' d (iY us) w b ha (by have:=bm List.length i;simp at this;omega)
  | cons y r=>
   by_cases m:x.toNat<1\/2<x.toNat\/2<y.toNat
   .exact BI s at' x y r d us w b i m
   .by_cases hk:O r<gL y.toNat
    .exact wY s at' x y r d (iY us) w b i (by omega) (by omega) (by omega) hk
    .exact CR s at' x y r d us w b i (by omega) (by omega) (by omega) hk j hl
def kS(s:gw)(w:Q0)(e:Ending)(w':Q0):Prop:=
 Q8 (G (Q w)) w w'/\match lO s with
  | .inl (n,os)=>∃b,e=Ra (Rc #[Q9 #[I Re n,b],Q9 #[I Y 0,I Y 0]])/\gS w' (G (Q w)) 4 b (O os) (iP os)
  | .inr (k,p)=>e=Ra (Rc #[Q9 #[I Re 0,Q6 J 0 0],Q9 #[I Y k,I Y p]])
theorem kS.pW(b:Q8 (G (Q w)) w w')(h:lO s=.inr (k,p))(he:e=Ra (Rc #[Q9 #[I Re 0,Q6 J 0 0],Q9 #[I Y k,I Y p]])):kS s w e w':=by refine⟨b,?_⟩;rw[h];exact he
theorem kS.mH(d:Q8 (G (Q w)) w w')(h:lO s=.inl (n,os)){b:Q4}(he:e=Ra (Rc #[Q9 #[I Re n,b],Q9 #[I Y 0,I Y 0]]))(i:gS w' (G (Q w)) 4 b (O os) (iP os)):kS s w e w':=by refine⟨d,?_⟩;rw[h];exact⟨b,he,i⟩
def qI(wr:Q0)(A b:Nat)(u0 u1 d i:Q4):Q0:=
 (((Rp wr ⟨A,0,J⟩ u0).setCell ⟨A,1,J⟩ u1).setCell ⟨b,0,J⟩ d).setCell ⟨b,1,J⟩ i
theorem tj(h:A≠b){r a1 b0 m:Q4}{j l:TypeId}(s:wr.heap[A]?=N (Q1 #[r,a1] j (0,0)))(u:wr.heap[b]?=N (Q1 #[b0,m] l (0,0)))(u0 u1 d i:Q4):
  (qI wr A b u0 u1 d i).cell? ⟨A,0,J⟩=N u0/\(qI wr A b u0 u1 d i).cell? ⟨A,1,J⟩=N u1/\(qI wr A b u0 u1 d i).cell? ⟨b,0,J⟩=N d/\(qI wr A b u0 u1 d i).cell? ⟨b,1,J⟩=N i:=by
 have x:((Rp wr ⟨A,0,J⟩ u0).setCell ⟨A,1,J⟩ u1).heap[A]?=N (Q1 #[u0,u1] j (0,0)):=QN _ _ 1 _ (QN _ _ 0 _ s);have y:((Rp wr ⟨A,0,J⟩ u0).setCell ⟨A,1,J⟩ u1).heap[b]?=N (Q1 #[b0,m] l (0,0)):=by rw[Below.heap_setCell _ ⟨A,1,J⟩ _ b (dW h),Below.heap_setCell _ ⟨A,0,J⟩ _ b (dW h)];exact u
 have o:(qI wr A b u0 u1 d i).heap[b]?=N (Q1 #[d,i] l (0,0)):=QN _ _ 1 _ (QN _ _ 0 _ y);have q:(qI wr A b u0 u1 d i).heap[A]?=N (Q1 #[u0,u1] j (0,0)):=by unfold qI;rw[Below.heap_setCell _ ⟨b,1,J⟩ _ A h,Below.heap_setCell _ ⟨b,0,J⟩ _ A h];exact x
 exact⟨gr 0 q,gr 1 q,gr 0 o,gr 1 o⟩
theorem pC{d:Q0}(h:Q8 B d wr)(i:B<=A)(j:B<=b)(u0 u1 l m:Q4):Q8 B d (qI wr A b u0 u1 l m):=
 (((h.setCell (p:=⟨A,0,J⟩) i _).setCell (p:=⟨A,1,J⟩) i _).setCell (p:=⟨b,0,J⟩) j _).setCell (p:=⟨b,1,J⟩) j _
theorem LN{base:Nat}{v:Q4}{i:List Q4}(h:gS wr base k v n i)(l:A<base)(m:d<base)(u0 u1 q r:Q4):gS (qI wr A d u0 u1 q r) base k v n i:=by
 have j:∀{W:Q0} (p:Addr) (u:Q4),p.block<base->gS W base k v n i->gS (Rp W p u) base k v n i:=fun {W} p u s o=>
  o.frame (by rw[QO];exact aq _) (fun b x _=>Below.heap_setCell W p u b (fun e=>o.pV s (by rw[x,e])))
 exact j ⟨d,1,J⟩ _ m (j ⟨d,0,J⟩ _ m (j ⟨A,1,J⟩ _ l (j ⟨A,0,J⟩ _ l h)))
theorem zQ(s:gw)(w:Q0)(hl:O s<8):
  Rg prog 116 #[Q7 ⟨Rm s⟩] w (kS s w):=by
 have b:gy (lO s=.inr (1,0)):=gj (by unfold lO;rw[aw hl]);have d:(O s:Int)<8:=by omega
 clear hl;go_enter func116,ntmps116;go_wp2;refine ai (v:=Rc #[Q9 #[I Re 0,Q6 J 0 0],Q9 #[I Y 1,I Y 0]]) (by simp[results,results116,go_sem]) rfl (kS.pW ?_ b.o rfl)
 (repeat refine Below.setCell (p:=⟨_,_,J⟩) ?_ (by simp<;>omega) _)
 exact(((gJ w).alloc gH _).alloc (by simp) _).alloc (by simp<;>omega) _
def sU(w:Q0)(B:Nat)(s:gw)(i:Q4)(wr:Q0):Prop:=
 ∃k:Nat,k<=8/\i=I Y (k:Int)/\wr.heap[B]?=N (Q1 #[I Re 0,Q6 J 0 0] 51 (0,0))/\wr.heap[B+1]?=N (Q1 #[I Y 0,I Y 0] 31 (0,0))/\
  wr.heap[B+1+1]?=N (Q1 #[I Re 0,Q6 J 0 0] 51 (0,0))/\wr.heap[B+1+1+1]?=N (Q1 #[I Re (j6 (s.take k):Nat),Q6 J 0 0] 51 (0,0))/\Q8 B w wr
theorem sU.step{x:Nat}(hk:k<8)(_q:B<=G (Q w))(b:wr.heap[B]?=N (Q1 #[I Re 0,Q6 J 0 0] 51 (0,0)))(h1:wr.heap[B+1]?=N (Q1 #[I Y 0,I Y 0] 31 (0,0)))(d:wr.heap[B+1+1]?=N (Q1 #[I Re 0,Q6 J 0 0] 51 (0,0)))(i:wr.heap[B+1+1+1]?=N (Q1 #[I Re (v:Nat),Q6 J 0 0] 51 (0,0)))(l:Q8 B w wr)(m:j6 (s.take (k+1))=v*256+x)(u:Int)(r:u=256*(v:Int)+x):
  sU w B s (I Y ((k+1:Nat):Int)) (Rp wr ⟨B+1+1+1,0,J⟩ (I Re u)).drew:=by
 have e:∀j,j≠B+1+1+1->(Rp wr ⟨B+1+1+1,0,J⟩ (I Re u)).drew.heap[j]?=wr.heap[j]?:=fun j o=>Below.heap_setCell _ ⟨B+1+1+1,0,J⟩ _ j o;refine⟨k+1,hk,rfl,(e _ (by omega)).trans b,(e _ (by omega)).trans h1,(e _ (by omega)).trans d,?_,(l.setCell (p:=⟨B+1+1+1,0,J⟩) (by simp<;>omega) _).drew⟩;have:=QN wr (B+1+1+1) 0 (I Re u) i;rw[m,show((v*256+x:Nat):Int)=u by omega];exact this
def sS(w:Q0)(B n v:Nat)(s:gw)(at' i:Q4)(wr:Q0):Prop:=
 ∃(k p:Nat) (os:List kv) (b:Q4),k<=n/\i=I Y (k:Int)/\at'=I Y (p:Int)/\p<=O s/\O os=k/\l9 s n 9 [] []=l9 s (n-k) p (iY os) os/\
  wr.heap[B]?=N (Q1 #[I Re 0,Q6 J 0 0] 51 (0,0))/\wr.heap[B+1]?=N (Q1 #[I Y 0,I Y 0] 31 (0,0))/\
  wr.heap[B+1+1]?=N (Q1 #[I Re 0,Q6 J 0 0] 51 (0,0))/\wr.heap[B+1+1+1]?=N (Q1 #[I Re (v:Nat),b] 51 (0,0))/\gS wr (B+4) 4 b (O os) (iP os)/\Q8 B w wr
theorem sS.step{w8:Q0}{m:Nat}{o:kv}{y:Q4}{l:Option Addr}(hk:k<n)(r:m<=O s)(u:O os=k)(x:l9 s n 9 [] []=l9 s (n-k) p (iY os) os)(hc:jK s p (iY os)=.inl (o,m))(C:w8.heap[B]?=N (Q1 #[I Re 0,Q6 J 0 0] 51 (0,0)))(h1:w8.heap[B+1]?=N (Q1 #[I Y 0,I Y 0] 31 (0,0)))(D:w8.heap[B+1+1]?=N (Q1 #[I Re 0,Q6 J 0 0] 51 (0,0)))(E:w8.heap[B+1+1+1]?=N (Q1 #[I Re (v:Nat),y] 51 (0,0)))(i:gS w8 (B+4) 4 (Q6 l (os++[o]).length d) (os++[o]).length (iP (os++[o])))(q:Q8 B w w8):
  sS w B n v s (I Y (m:Int)) (I Y ((k+1:Nat):Int)) (Rp w8 ⟨B+1+1+1,1,J⟩ (Q6 l (O os+1) d)):=by
 have e:(os++[o]).length=O os+1:=by simp
 rw[e]at i;have f:∀j,j≠B+1+1+1->(Rp w8 ⟨B+1+1+1,1,J⟩ (Q6 l (O os+1) d)).heap[j]?=w8.heap[j]?:=fun j F=>Below.heap_setCell _ ⟨B+1+1+1,1,J⟩ _ j F;refine⟨k+1,m,os++[o],Q6 l (O os+1) d,hk,rfl,rfl,r,by rw[e,u],?_,(f _ (by omega)).trans C,(f _ (by omega)).trans h1,(f _ (by omega)).trans D,QN w8 _ 1 _ E,?_,q.setCell (p:=⟨B+1+1+1,1,J⟩) (by simp<;>omega) _⟩
 .rw[x,show n-k=(n-(k+1))+1 by omega,l9,hc];simp[iY]
 .rw[e];exact i.frame (by rw[QO];exact aq _) (fun b q _=>f b (fun e=>i.pV (show B+1+1+1<B+4 by omega) (by rw[q,e])))
theorem BK(s:gw)(w:Q0)(hl:O s<=im)(h8:8<=O s):
  Rg prog 116 #[Q7 ⟨Rm s⟩] w (kS s w):=by
 have b8:=hl;unfold im at b8;have dk:¬(O s:Int)<8:=by omega
 have HC:gy (lO s=if ij (j6 (s.take 8))=false then .inr (4,0)
  else if(O s)<9 then .inr (1,8)
  else if((s.drop 8).headD 0).toNat<1\/8<((s.drop 8).headD 0).toNat then .inr (5,8)
  else match l9 s ((s.drop 8).headD 0).toNat 9 [] [] with
   | .inr f=>.inr f
   | .inl (at',os)=>if at'<O s then .inr (2,at')else .inl (j6 (s.take 8),os)):=gj (by unfold lO;rw[af (by omega)];rfl)
 have h0:sU w (G (Q w)) s (I Y 0) ((((Ro w (Q1 #[I Re 0,Q6 J 0 0] 51)).alloc (Q1 #[I Y 0,I Y 0] 31)).alloc (Q1 #[I Re 0,Q6 J 0 0] 51)).alloc (Q1 #[I Re 0,Q6 J 0 0] 51)):=by have X0:=gB w (Q1 #[I Re 0,Q6 J 0 0] 51);have X1:=gB (Ro w (Q1 #[I Re 0,Q6 J 0 0] 51)) (Q1 #[I Y 0,I Y 0] 31);have X2:=gB ((Ro w (Q1 #[I Re 0,Q6 J 0 0] 51)).alloc (Q1 #[I Y 0,I Y 0] 31)) (Q1 #[I Re 0,Q6 J 0 0] 51);have X3:=gB (((Ro w (Q1 #[I Re 0,Q6 J 0 0] 51)).alloc (Q1 #[I Y 0,I Y 0] 31)).alloc (Q1 #[I Re 0,Q6 J 0 0] 51)) (Q1 #[I Re 0,Q6 J 0 0] 51);simp only[aj]at X1 X2 X3;exact⟨0,by omega,rfl,gP _ _ (gP _ _ (gP _ _ X0)),gP _ _ (gP _ _ X1),gP _ _ X2,X3,(((((gJ w).alloc gH _).alloc (by simp) _).alloc (by simp<;>omega) _).alloc (by simp<;>omega) _)⟩
 go_enter func116,ntmps116;go_wp2;go_loopw [6] (fun i wr=>sU w (G (Q w)) s i wr) (fun i _=>8-(intOf i).toNat)
 case atStart=>exact h0
 case round=>
  clear h0;obtain⟨k,hk,rfl,R0,F0,N0,D0,m⟩:=hrel;have d0:=gr 0 D0;have cd:=gD 0 D0;have a8:=gm D0;have b:=gj R0;have d:=gj F0;have Z:=gj N0;have HD:=gj D0;clear R0 F0 N0 D0;by_cases bw:k<8
  .have c2:(k:Int)<8:=by omega
   have bx:=pR k s (by omega);have bz:j6 (s.take k)<256^7:=ae bx (dU (by decide) (by omega));have H:=gj (rB s k (by omega));obtain⟨x,hx⟩:∃x,s[k]'(by omega)=x:=⟨_,rfl⟩;have i0:∀w,(Instr.index 9 (Q7 ⟨Rm s⟩) (I Y (k:Int))).run prog w=.ok (I .u8 x.toNat) w:=fun w=>gW underlying9 _ _ _ x (by omega) (by rw[cj,ah (by omega),hx]) w;rw[hx]at H;have bA:=x.toNat_lt;clear hx bx;generalize j6 (s.take k)=v at *
   have hv:v<72057594037927936:=bz;clear bz;go_wp2;go_region;go_wp2;refine⟨sU.step bw gH b.o d.o Z.o HD.o m H.o _ (by omega),?_⟩;simp[intOf];omega
  .obtain rfl:k=8:=by omega
   clear hk bw;have a0:=pR 8 s (by omega);obtain⟨v,hv⟩:∃v,j6 (s.take 8)=v:=⟨_,rfl⟩;have a9:v<18446744073709551616:=by rw[hv]at a0;exact a0
   rw[hv]at HC HD d0;clear hv a0;have n0:=gr 0 Z.o;have n1:=gr 1 Z.o;have r0:=gr 0 b.o;have r1:=gr 1 b.o;have f0:=gr 0 d.o;have f1:=gr 1 d.o;have ba:=gD 0 b.o;have bb:=gD 1 b.o;have bc:=gD 0 d.o;have bi:=gD 1 d.o;have bk:=gm b.o;have bl:=gm d.o;have bn:=gm Z.o;have HV:=gj (fun W=>jU v W a9);clear a9;cases B:ij v with
   | false=>have U:gy (lO s=.inr (4,0)):=gj (by rw[HC.o,aw B]);have x:=tj (show(G (Q w))≠G (Q w)+1 by omega) b.o d.o (I Re 0) (Q6 J 0 0) (I Y 4) (I Y 0);have l:=pC m (show(G (Q w))<=G (Q w) by omega) (show(G (Q w))<=G (Q w)+1 by omega) (I Re 0) (Q6 J 0 0) (I Y 4) (I Y 0);unfold qI at x l;obtain⟨C,D,E,F⟩:=x;rw[B]at HV;clear B HC;go_wp2_with (go_at_call 98;refine(HV.o _).mono ?_;rintro e w4 ⟨rfl,rfl⟩);refine ai (v:=Rc #[Q9 #[I Re 0,Q6 J 0 0],Q9 #[I Y 4,I Y 0]]) (by simp[results,results116,go_sem,C,D,E,F]) rfl (kS.pW l U.o rfl)
   | true=>
    have r:=HC.o;rw[af (by rw[B];decide)]at r;rw[B]at HV;clear B HC;by_cases h9:O s<9
    .have U:gy (lO s=.inr (1,8)):=gj (by rw[r,aw h9]);have ce:(O s:Int)<9:=by omega
     have x:=tj (show(G (Q w))≠G (Q w)+1 by omega) b.o d.o (I Re 0) (Q6 J 0 0) (I Y 1) (I Y 8);have l:=pC m (show(G (Q w))<=G (Q w) by omega) (show(G (Q w))<=G (Q w)+1 by omega) (I Re 0) (Q6 J 0 0) (I Y 1) (I Y 8);unfold qI at x l;obtain⟨C,D,E,F⟩:=x;clear r;go_wp2_with (go_at_call 98;refine(HV.o _).mono ?_;rintro e w4 ⟨rfl,rfl⟩);refine ai (v:=Rc #[Q9 #[I Re 0,Q6 J 0 0],Q9 #[I Y 1,I Y 8]]) (by simp[results,results116,go_sem,C,D,E,F]) rfl (kS.pW l U.o rfl)
    .rw[af h9]at r;have ce:¬(O s:Int)<9:=by omega
     obtain⟨x,hx⟩:∃x,s[8]'(by omega)=x:=⟨_,rfl⟩;have i0:∀w,(Instr.index 9 (Q7 ⟨Rm s⟩) (I Y 8)).run prog w=.ok (I .u8 x.toNat) w:=fun w=>gW underlying9 _ _ _ x (by omega) (by rw[show(8:Int).toNat=8 from rfl,ah (by omega),hx]) w;have bB:(s.drop 8).headD 0=x:=by rw[cD (by omega)];exact hx
     rw[bB]at r;have bA:=x.toNat_lt;clear hx bB;generalize x.toNat=n at *
     by_cases hn:n<1\/8<n
     .have U:gy (lO s=.inr (5,8)):=gj (by rw[r,aw hn]);have y:=tj (show(G (Q w))≠G (Q w)+1 by omega) b.o d.o (I Re 0) (Q6 J 0 0) (I Y 5) (I Y 8);have l:=pC m (show(G (Q w))<=G (Q w) by omega) (show(G (Q w))<=G (Q w)+1 by omega) (I Re 0) (Q6 J 0 0) (I Y 5) (I Y 8);unfold qI at y l;obtain⟨C,D,E,F⟩:=y;clear r;have cg:(n:Int)<1\/((¬(n:Int)<1)/\(8:Int)<n):=by omega
      clear hn;rcases cg with hn|⟨ci,hn⟩
      all_goals
       go_wp2_with (go_at_call 98;refine(HV.o _).mono ?_;rintro e w4 ⟨rfl,rfl⟩);refine ai (v:=Rc #[Q9 #[I Re 0,Q6 J 0 0],Q9 #[I Y 5,I Y 8]]) (by simp[results,results116,go_sem,C,D,E,F]) rfl (kS.pW l U.o rfl)
     .rw[af hn]at r;have bD:=gj r;have ci:¬(n:Int)<1:=by omega
      have dl:¬(8:Int)<n:=by omega
      have dn:n<=8:=by omega
      clear r hn bA;go_wp2_with (go_at_call 98;refine(HV.o _).mono ?_;rintro e w4 ⟨rfl,rfl⟩);have h1:sS w (G (Q w)) n v s (I Y 9) (I Y 0) wr:=⟨0,9,[],_,aJ _,rfl,rfl,by omega,rfl,rfl,b.o,d.o,Z.o,HD.o,gS.nil _ _ _,m⟩;clear i0 d0 cd n0 n1 r0 r1 f0 f1 ba bb bc bi bk bl bn a8 b d Z HD m HV h9;go_loopw [9,10] (fun at' i wr=>sS w (G (Q w)) n v s at' i wr) (fun _ i _=>n-(intOf i).toNat)
      case atStart=>exact h1
      case round=>
       clear h1;obtain⟨k,p,os,sv,hk,rfl,rfl,hp,bE,bH,R0,F0,N0,D0,a1,m⟩:=hrel;obtain⟨sa,q,rfl⟩:=a1.shape;have dp:O os<=8:=by omega
       have cm:=gj bE;have bo:=gj bH;have HO:=gj a1;have b:=gj R0;have d:=gj F0;have Z:=gj N0;have HD:=gj D0;have bk:=gm R0;have bl:=gm F0;have bn:=gm N0;have a8:=gm D0;have cn:=m.size;clear bE bH a1 R0 F0 N0 D0;by_cases co:k<n
       .have b4:(k:Int)<n:=by omega
        have d1:=gr 1 HD.o;go_wp2_with fail;refine(CQ s p (Q6 sa (O os) q) os _ hl hp HO.o.iS (by omega)).mono ?_;rintro e w1 ⟨⟨ec,rfl,hcv⟩,V⟩;clear d1;have R1:=gj (gC V bk b.o);have F1:=gj (gC V bl d.o);have N1:=gj (gC V bn Z.o);have D1:=gj (gC V a8 HD.o);have cp:=gj (HO.o.below V);have b1:Q8 (G (Q w)) w w1:=m.trans (V.mono cn);have ds:=V.size;unfold qu at hcv;cases hc:jK s p (iY os) with
        | inr f=>
         obtain⟨fk,fp⟩:=f;rw[hc]at hcv;obtain⟨⟨M,T,R,S⟩,rfl⟩:=hcv;have bI:=(AK hc hp).1;simp only at bI;have U:gy (lO s=.inr (fk,fp)):=gj (by rw[bD.o,bo.o,show n-k=(n-(k+1))+1 by omega,l9,hc]);have dv:((fk:Int) != 0)=true:=by rw[eB];omega
         have n0:=gr 0 N1.o;have n1:=gr 1 N1.o;have ba:=gD 0 R1.o;have bb:=gD 1 R1.o;have bc:=gD 0 F1.o;have bi:=gD 1 F1.o;have r0:=gr 0 R1.o;have r1:=gr 1 R1.o;have f0:=gr 0 F1.o;have f1:=gr 1 F1.o;have cr:=gm R1.o;have cs:=gm F1.o;have ct:=gm N1.o;have x:=tj (show(G (Q w))≠G (Q w)+1 by omega) R1.o F1.o (I Re 0) (Q6 J 0 0) (I Y fk) (I Y fp);have l:=pC b1 (show(G (Q w))<=G (Q w) by omega) (show(G (Q w))<=G (Q w)+1 by omega) (I Re 0) (Q6 J 0 0) (I Y fk) (I Y fp);obtain⟨bL,bM,bN,bO⟩:=x;have al:∀{a:Addr} {u:Q4},(qI w1 (G (Q w)) (G (Q w)+1) (I Re 0) (Q6 J 0 0) (I Y fk) (I Y fp)).cell? a=N u->(((qI w1 (G (Q w)) (G (Q w)+1) (I Re 0) (Q6 J 0 0) (I Y fk) (I Y fp)).alloc (Q1 #[I Y M,I Y T,Q7 ⟨Rm R⟩,Q7 ⟨Rm S⟩] 105)).alloc (Q1 #[I Y fk,I Y fp] 31)).cell? a=N u:=fun h=>iK _ (iK _ h);have C:=al bL;have D:=al bM;have E:=al bN;have F:=al bO;have bP:=(l.alloc (l.size) (Q1 #[I Y M,I Y T,Q7 ⟨Rm R⟩,Q7 ⟨Rm S⟩] 105)).alloc (by have:=l.size;simp;omega) (Q1 #[I Y fk,I Y fp] 31);clear bL bM bN bO al l;unfold qI at C D E F bP;unfold ud;clear hc bI;go_wp2;go_region;go_wp2;refine ai (v:=Rc #[Q9 #[I Re 0,Q6 J 0 0],Q9 #[I Y fk,I Y fp]]) (by simp[results,results116,go_sem,C,D,E,F]) rfl (kS.pW bP.drew U.o rfl)
        | inl x=>
         obtain⟨⟨M,T,R,S⟩,tq⟩:=x;rw[hc]at hcv;obtain rfl:=hcv;have cu:tq<=O s:=by obtain⟨-,h1,h2⟩:=uL hc;have h3:=bm List.length h1;simp only[bu,ab]at h3;omega
         have cv:=gj hc;clear hc;have d1:=gr 1 D1.o;have dT:=gm D1.o;have ct:=gm N1.o;have cs:=gm F1.o;have cr:=gm R1.o;have cB:gy (gS (((Ro w1 (Q1 #[I Y M,I Y T,Q7 ⟨Rm R⟩,Q7 ⟨Rm S⟩] 105)).alloc (Q1 #[I Y 0,I Y 0] 31)).alloc (Q1 #[I Y M,I Y T,Q7 ⟨Rm R⟩,Q7 ⟨Rm S⟩] 105)) (G (Q w)+4) 4 (Q6 sa (O os) q) (O os) (iP os)):=gj (cp.o.below ((((gJ w1).alloc gH _).alloc (by simp) _).alloc (by simp<;>omega) _));have bs:=gj (GI ((Ro w1 (Q1 #[I Y M,I Y T,Q7 ⟨Rm R⟩,Q7 ⟨Rm S⟩] 105)).alloc (Q1 #[I Y 0,I Y 0] 31)) ⟨M,T,R,S⟩);simp only[aj]at bs;have c0:Q8 (G (Q w)) w (((Ro w1 (Q1 #[I Y M,I Y T,Q7 ⟨Rm R⟩,Q7 ⟨Rm S⟩] 105)).alloc (Q1 #[I Y 0,I Y 0] 31)).alloc (Q1 #[I Y M,I Y T,Q7 ⟨Rm R⟩,Q7 ⟨Rm S⟩] 105)):=((b1.alloc (by omega) _).alloc (by simp<;>omega) _).alloc (by simp<;>omega) _;have up:∀{j:Nat} {X:Obj},w1.heap[j]?=N X->(((Ro w1 (Q1 #[I Y M,I Y T,Q7 ⟨Rm R⟩,Q7 ⟨Rm S⟩] 105)).alloc (Q1 #[I Y 0,I Y 0] 31)).alloc (Q1 #[I Y M,I Y T,Q7 ⟨Rm R⟩,Q7 ⟨Rm S⟩] 105)).heap[j]?=N X:=fun h=>gP _ _ (gP _ _ (gP _ _ h));have R2:=gj (up R1.o);have F2:=gj (up F1.o);have N2:=gj (up N1.o);have D2:=gj (up D1.o);clear up;unfold ud;go_wp2_with (at_builtin;refine yj rfl (.tmp 76) (.tmp 78) rfl (G (Q w)+4) (Q6 sa (O os) q) os rfl (by exact cB.o) [⟨M,T,R,S⟩] (by exact bs.o) (by simp;omega) (by simp;omega) ?_;intro v8 w8 a2 d2 av c9;obtain⟨d3,da,rfl⟩:=a2.shape;have D8:=gj (gC av (by omega) D2.o);have y1:Rn w8 ⟨G (Q w)+1+1+1,1,J⟩=N (Q6 sa (O os) q):=gr 1 D8.o;have z1:=gD 1 D8.o;have dc:=gm D8.o);refine⟨sS.step co cu cm.o bo.o cv.o (gC av (by omega) R2.o) (gC av (by omega) F2.o) (gC av (by omega) N2.o) D8.o a2 (c0.trans (av.mono (by omega))),?_⟩;simp[intOf];omega
       .obtain rfl:k=n:=by omega
        have b4:¬(k:Int)<k:=by omega
        have bR:gy (lO s=if p<O s then .inr (2,p)else .inl (v,os)):=gj (by rw[bD.o,bo.o,ee];rfl);have n0:=gr 0 Z.o;have n1:=gr 1 Z.o;have d0:=gr 0 HD.o;have d1:=gr 1 HD.o;have ba:=gD 0 b.o;have bb:=gD 1 b.o;have bc:=gD 0 d.o;have bi:=gD 1 d.o;have r0:=gr 0 b.o;have r1:=gr 1 b.o;have f0:=gr 0 d.o;have f1:=gr 1 d.o;by_cases bS:p<O s
        .have b6:(p:Int)<O s:=by omega
         have U:gy (lO s=.inr (2,p)):=gj (by rw[bR.o,aw bS]);have x:=tj (show(G (Q w))≠G (Q w)+1 by omega) b.o d.o (I Re 0) (Q6 J 0 0) (I Y 2) (I Y p);have l:=pC m (show(G (Q w))<=G (Q w) by omega) (show(G (Q w))<=G (Q w)+1 by omega) (I Re 0) (Q6 J 0 0) (I Y 2) (I Y p);unfold qI at x l;obtain⟨C,D,E,F⟩:=x;go_wp2;refine ai (v:=Rc #[Q9 #[I Re 0,Q6 J 0 0],Q9 #[I Y 2,I Y p]]) (by simp[results,results116,go_sem,C,D,E,F]) rfl (kS.pW l U.o rfl)
        .have b6:¬(p:Int)<O s:=by omega
         have U:gy (lO s=.inl (v,os)):=gj (by rw[bR.o,af bS]);have x:=tj (show(G (Q w))≠G (Q w)+1 by omega) b.o d.o (I Re v) (Q6 sa (O os) q) (I Y 0) (I Y 0);have l:=pC m (show(G (Q w))<=G (Q w) by omega) (show(G (Q w))<=G (Q w)+1 by omega) (I Re v) (Q6 sa (O os) q) (I Y 0) (I Y 0);have bX:=(LN HO.o (show(G (Q w))<G (Q w)+4 by omega) (show(G (Q w))+1<G (Q w)+4 by omega) (I Re v) (Q6 sa (O os) q) (I Y 0) (I Y 0)).mono (show(G (Q w))<=G (Q w)+4 by omega);unfold qI at x l bX;obtain⟨C,D,E,F⟩:=x;go_wp2;refine ai (v:=Rc #[Q9 #[I Re v,Q6 sa (O os) q],Q9 #[I Y 0,I Y 0]]) (by simp[results,results116,go_sem,C,D,E,F]) rfl (kS.mH l U.o rfl bX)
theorem CS(s:gw)(w:Q0)(hl:O s<=im):
  Rg prog 116 #[Q7 ⟨Rm s⟩] w (kS s w):=by
 by_cases b:O s<8
 .exact zQ s w b
 .exact BK s w hl (by omega)
def sQ(w1:Q0)(g n:Nat)(i:Q4)(wr:Q0):Prop:=
 ∃k:Nat,k<=n/\i=I Y k/\(∀i,i<n->(Rn wr ⟨g,i,J⟩).isSome=true/\wr.frozen? ⟨g,i,J⟩=false)/\g<G (Q wr)/\gR (fun b=>b=g) w1 wr
theorem sQ.step{w1:Q0}{g:Nat}{v:Q4}(hk:k<n)(h1:∀i,i<n->(Rn wr ⟨g,i,J⟩).isSome=true/\wr.frozen? ⟨g,i,J⟩=false)(l:g<G (Q wr))(m:gR (fun b=>b=g) w1 wr):
  sQ w1 g n (I Y ((k+1:Nat):Int)) (Rp wr ⟨g,k,J⟩ v):=by
 refine⟨k+1,hk,rfl,fun i o=>?_,by rw[QO];exact l,m.setCell _ _ (.inl rfl)⟩;obtain⟨d,q⟩:=h1 i o;refine⟨?_,by rw[fq];exact q⟩;by_cases j:i=k
 .subst j;obtain⟨x,r⟩:=cR.1 d;rw[World.cell?_setCell_same (h:=r)];rfl
 .rw[cW (h:=by simp<;>omega)];exact d
theorem jE.take{a:Option Addr}{cap:Nat}(h:jE w (Q6 a n cap) os)(k:Nat)(hk:k<=O os):jE w (Q6 a k cap) (os.take k):=by
 obtain⟨hl,a',cap',he,hc,q⟩:=h;cases he;have m:(os.take k).length=k:=by rw[ax];omega
 have j:iP os=iP (os.take k)++iP (os.drop k):=by rw[<-rK,cw]
 refine⟨oy _,a,cap,by rw[m],by omega,fun i o=>?_⟩;have l:i<(iP os).length:=by rw[j,ab];omega
 obtain⟨b,off,rfl,d⟩:=q i l;refine⟨b,off,rfl,?_⟩;rw[d];congr 1;have:(iP os)[i]?=(iP (os.take k))[i]?:=by rw[j,cV o]
 rw[ah l,ah o]at this;exact Option.some.inj this
def qi(f:Option (Nat×Nat)):Q4:=match f with
 | none=>Q9 #[I Y 0,I Y 0]
 | some (k,n)=>Q9 #[I Y k,I Y n]
theorem E4(v:Nat)(m:Q4)(os:List kv)(w:Q0)(o:jE w m os)(b:v<18446744073709551616)(d:ij v=false\/O os<1\/8<O os):
  Rg prog 53 #[Q9 #[I Re v,m]] w fun e w'=>e=Ra (qi (lF v os))/\Q8 (G (Q w)) w w':=by
 obtain⟨a,cap,rfl,r,-⟩:=o.gU;clear o;cases i:ij v with
 | false=>
  have j:lF v os=N (4,0):=by unfold lF;rw[aw i]
  rw[j];clear j d;go_enter func53,ntmps53;go_wp2_with (go_at_call 98;refine(jU v _ b).mono ?_;rintro e w' ⟨rfl,rfl⟩;rw[i]);exact ai (v:=Q9 #[I Y 4,I Y 0]) (by simp[results,results53,go_sem]) rfl ⟨rfl,((gJ w).alloc gH _).alloc (by simp) _⟩
 | true=>
  have l:O os<1\/8<O os:=d.resolve_left (by rw[i];decide);have j:lF v os=N (5,0):=by unfold lF;rw[af (by rw[i];decide),aw l]
  rw[j];clear j d;generalize (O os)=n at *
  rcases l with l|l
  .have q:(n:Int)<1:=by omega
   go_enter func53,ntmps53;go_wp2_with (go_at_call 98;refine(jU v _ b).mono ?_;rintro e w' ⟨rfl,rfl⟩;rw[i]);exact ai (v:=Q9 #[I Y 5,I Y 0]) (by simp[results,results53,go_sem]) rfl ⟨rfl,((gJ w).alloc gH _).alloc (by simp) _⟩
  .have q:(8:Int)<n:=by omega
   have s:¬(n:Int)<1:=by omega
   go_enter func53,ntmps53;go_wp2_with (go_at_call 98;refine(jU v _ b).mono ?_;rintro e w' ⟨rfl,rfl⟩;rw[i]);exact ai (v:=Q9 #[I Y 5,I Y 0]) (by simp[results,results53,go_sem]) rfl ⟨rfl,((gJ w).alloc gH _).alloc (by simp) _⟩
theorem CX(v:Nat)(sv:Q4)(os:List kv)(w:Q0)(V:jE w sv os)(X:uJ os)(Z:ij v=true)(h1:1<=O os)(h8:O os<=8):
  Rg prog 53 #[Q9 #[I Re v,sv]] w fun e w'=>e=Ra (qi (jA 0 [] os))/\Q8 (G (Q w)) w w':=by
 have HS:=gj V;obtain⟨a,cap,rfl,a8,-⟩:=V.gU;clear V;have aa:=nK Z;have HV:=gj Z;clear Z;have bl:¬(O os:Int)<1:=by omega
 have bn:¬ 8<(O os:Int):=by omega
 go_enter func53,ntmps53;go_wp2_with (go_at_call 98;refine(jU v _ aa).mono ?_;rintro e w' ⟨rfl,rfl⟩;rw[HV.o]);generalize j:(Ro w (Q1 #[I Re (v:Int),Q6 a (O os) cap] 51)).alloc (Q1 #[I Y 0,I Y 0] 31)=w1;have s1:G (Q w1)=G (Q w)+1+1:=by rw[<-j];simp
 have b1:Q8 (G (Q w)) w w1:=by rw[<-j];exact((gJ w).alloc gH _).alloc (by simp) _
 have B1:gy (w1.heap[G (Q w)]?=N (Q1 #[I Re (v:Int),Q6 a (O os) cap] 51 (0,0))):=gj (by rw[<-j];exact gP _ _ (gB w _));have R1:gy (w1.heap[G (Q w)+1]?=N (Q1 #[I Y 0,I Y 0] 31 (0,0))):=gj (by rw[<-j];have:=gB (Ro w (Q1 #[I Re (v:Int),Q6 a (O os) cap] 51)) (Q1 #[I Y 0,I Y 0] 31);simpa using this);clear j;have S1:=gj s1;clear s1;go_loopw [4] (fun i wr=>∃k:Nat,k<=O os/\i=I Y k/\jA 0 [] os=jA k (iY (os.take k)) (os.drop k)/\Q8 (G (Q w1)) w1 wr) (fun i _=>O os-(intOf i).toNat)
 case atStart=>exact⟨0,by omega,rfl,rfl,kz⟩
 case round=>
  obtain⟨k,bo,rfl,l,m⟩:=hrel;have U:=S1.o;have hb:=b1.trans (m.mono (by omega));have aE:=m.size;have BR:=gj (gC m (by omega) B1.o);have y:=gj (gC m (by omega) R1.o);have q1:Rn wr ⟨G (Q w),1,J⟩=N (Q6 a (O os) cap):=gr 1 BR.o;have a2:=gm BR.o;have a3:=gm y.o;by_cases B:k<O os
  .have a4:=gj ((HS.o.below hb).take k (by omega));obtain⟨a',cap',he,a5,hx⟩:=(HS.o.below hb).gU;cases he;obtain⟨b,off,rfl,c0,c1,c2,c3⟩:=hx k B;clear hx a5;have C:=X os[k] (bq B);rw[Co os k B]at l;have D:=gj l;clear l;have bb:(k:Int)<O os:=by omega
   have u:=gK c0;have br:k<=cap:=by omega
   clear U;have E:=fun W hW=>DS os[k] (Q6 (N ⟨b,off,J⟩) k cap) (os.take k) W hW (by rw[ax];omega) C.1 C.2;obtain⟨q,T,r,s,ho⟩:∃q T r s,os[k]=⟨q,T,r,s⟩:=⟨_,_,_,_,rfl⟩;rw[ho]at E D c0 c1 c2 c3;have a7:=gj E;clear E C;go_wp2
   go_region_held3 (fun w'=>Rn w' ⟨G (Q w),1,J⟩=N (Q6 (N ⟨b,off,J⟩) (O os) cap)/\Rn w' ⟨b,off+k*4,J⟩=N (I Y q)/\Rn w' ⟨b,off+k*4+1,J⟩=N (I Y T)/\Rn w' ⟨b,off+k*4+2,J⟩=N (Q7 ⟨Rm r⟩)/\Rn w' ⟨b,off+k*4+3,J⟩=N (Q7 ⟨Rm s⟩))
    (first|go_keep|exact⟨d0,d1,d2,d3,d4⟩)
    ((go_at_call 99;refine(a7.o _ (by exact a4.o)).mono ?_;rintro e w2 ⟨rfl,d⟩;
      have d0:Rn w2 ⟨G (Q w),1,J⟩=N (Q6 (N ⟨b,off,J⟩) (O os) cap):=(d.cell (p:=⟨G (Q w),1,J⟩) (by exact a2)).trans q1;have d1:Rn w2 ⟨b,off+k*4,J⟩=N (I Y q):=(d.cell (p:=⟨b,off+k*4,J⟩) (by exact u)).trans c0;have d2:Rn w2 ⟨b,off+k*4+1,J⟩=N (I Y T):=(d.cell (p:=⟨b,off+k*4+1,J⟩) (by exact u)).trans c1;have d3:Rn w2 ⟨b,off+k*4+2,J⟩=N (Q7 ⟨Rm r⟩):=(d.cell (p:=⟨b,off+k*4+2,J⟩) (by exact u)).trans c2;have d4:Rn w2 ⟨b,off+k*4+3,J⟩=N (Q7 ⟨Rm s⟩):=(d.cell (p:=⟨b,off+k*4+3,J⟩) (by exact u)).trans c3))
   have F:=gj (gC (w:=wr.drew) d a3 y.o);have ak:Q8 (G (Q wr)) wr w2:=⟨d.os,d.tape,d.output,d.size,d.block⟩;clear d0 d1 d2 d3 d4 q1;have M:Q8 (G (Q w1)) w1 w2:=m.trans (ak.mono aE);have bs:=M.size;by_cases R:iZ ⟨q,T,r,s⟩ (iY (os.take k))=0
   .have S:gy (jA 0 [] os=jA (k+1) (iY (os.take (k+1))) (os.drop (k+1))):=gj (by rw[D.o,aw R]);rw[R];clear R;go_wp2;go_roundw
    case rel=>exact⟨k+1,by omega,by go_num,S.o,M⟩
    case measure=>simp[intOf];omega
   .have S:gy (jA 0 [] os=N (iZ ⟨q,T,r,s⟩ (iY (os.take k)),k)):=gj (by rw[D.o,af R]);have bt:((iZ ⟨q,T,r,s⟩ (iY (os.take k)):Int) != 0)=true:=by rw[eB];omega
    clear R;generalize iZ ⟨q,T,r,s⟩ (iY (os.take k))=x at *
    have r0:Rn w2 ⟨G (Q w)+1,0,J⟩=N (I Y 0):=gr 0 F.o;have r1:Rn w2 ⟨G (Q w)+1,1,J⟩=N (I Y 0):=gr 1 F.o;have e0:=gD 0 F.o;have e1:=gD 1 F.o;have bv:=gm F.o;go_wp2;refine ai (v:=Q9 #[I Y x,I Y k]) (by simp[results,results53,go_sem,r0,r1]) rfl ⟨by rw[S.o];rfl,?_⟩;exact((b1.trans (M.mono (by have:=S1.o;omega))).setCell (p:=⟨G (Q w)+1,0,J⟩) (by simp) _).setCell (p:=⟨G (Q w)+1,1,J⟩) (by simp) _
  .obtain rfl:k=O os:=by omega
   have S:gy (jA 0 [] os=J):=gj (by rw[l,List.drop_length];rfl);have bw:¬(O os:Int)<O os:=by omega
   have r0:Rn wr ⟨G (Q w)+1,0,J⟩=N (I Y 0):=gr 0 y.o;have r1:Rn wr ⟨G (Q w)+1,1,J⟩=N (I Y 0):=gr 1 y.o;have e0:=gD 0 y.o;have e1:=gD 1 y.o;clear l U;go_wp2;refine ai (v:=Q9 #[I Y 0,I Y 0]) (by simp[results,results53,go_sem,r0,r1]) rfl ⟨by rw[S.o];rfl,?_⟩;exact(hb.setCell (p:=⟨G (Q w)+1,0,J⟩) (by simp) _).setCell (p:=⟨G (Q w)+1,1,J⟩) (by simp) _
theorem ui(v:Nat)(d:Q4)(os:List kv)(w:Q0)(l:jE w d os)(i:uJ os)(j:v<18446744073709551616):
  Rg prog 53 #[Q9 #[I Re v,d]] w fun e w'=>e=Ra (qi (lF v os))/\Q8 (G (Q w)) w w':=by
 by_cases b:ij v=false\/O os<1\/8<O os
 .exact E4 v d os w l j b
 .have m:ij v=true:=by cases h:ij v with|true=>rfl|false=>exact absurd (.inl h) b
  have h1:1<=O os:=by omega
  have o:O os<=8:=by omega
  have e:lF v os=jA 0 [] os:=by unfold lF;rw[af (by rw[m];decide),af (by omega)]
  rw[e];exact CX v d os w l i m h1 o
end Go.Proofs.YtkkfmkhbdoeglabGreatDoor
