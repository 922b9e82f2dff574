/- Lemmas of the proof. No condition. -/
import Derived.BigRegionIn
import Derived.Test.YtkkfmkhbdoeglabGreatDoorV07
set_option maxHeartbeats 2000000
set_option maxRecDepth 100000
namespace Go.Proofs.YtkkfmkhbdoeglabGreatDoor
open Go renaming World->Q0,Value->Q4,Calls->Rg
open Go.Ending renaming returned->Ra
open Go.IntKind renaming i64->Y
open Go.Obj renaming cells->Q1
open Go.Value renaming int->I,pointer->Q5,string->Q7,agg->Q9,bool->Rh
open Go.World renaming heap->Q,cell?->Rn,alloc->Ro
open List renaming length->O,toArray->Rm
open Option renaming none->J,some->N
open _root_.Array renaming size->G
open Go.Proofs.Tryz
open Go.RowKit
variable{X:Q0}{b base:Nat}{l:List E}{t:TypeId}{u:Q4}
theorem Kc(a c:Int)(b d:gw)(w:Q0):(binOp .eql 103 (Q9 #[I Y a,Q7 ⟨Rm b⟩]) (Q9 #[I Y c,Q7 ⟨Rm d⟩])).run prog w=.ok (Rh ((a,b)==(c,d))) w:=by have h:=yD (a,b) (c,d) w;unfold kV nd at h;simp only[binOp];simp[h]
theorem LF(b T:Int)(i j:gw)(r:Q4)(l:List K)(w:Q0)(d:b<1\/2<b\/T<0\/2<T):
  Rg prog 99 #[ud ⟨b,T,i,j⟩,r] w fun e w'=>e=Ra (I Y (iZ ⟨b,T,i,j⟩ l))/\Below (G (Q w)) w w':=by
 have s:gy (iZ ⟨b,T,i,j⟩ l=6):=gj (by rw[iZ,aw d]);have m:b<1\/(1<=b/\2<b)\/(1<=b/\b<=2/\T<0)\/(1<=b/\b<=2/\0<=T/\3<=T):=by omega
 clear d;unfold ud;rcases m with h1|⟨h1,q⟩|⟨h1,q,u⟩|⟨h1,q,u,x⟩
 all_goals
  go_enter func99,ntmps99;go_wp2;go_ret;exact⟨by rw[s.o];rfl,(gJ w).alloc gH _⟩
theorem Jv(l T:Int)(d j:gw)(sv:Q4)(us:List kv)(w:Q0)(hs:jE w sv us)(hl:O us<=100)(hk:O d<=im)(hv:O j<=im)(h1:1<=l)(h2:l<=2)(V:0<=T)(X:T<3):
  Rg prog 99 #[ud ⟨l,T,d,j⟩,sv] w fun e w'=>e=Ra (I Y (iZ ⟨l,T,d,j⟩ (iY us)))/\Below (G (Q w)) w w':=by
 have Z:¬(l<1\/2<l\/T<0\/2<T):=by omega
 have y:=gj Z;clear Z;have HS:=gj hs;obtain⟨a,cap,rfl,a2,-⟩:=hs.gU;clear hs;unfold ud;go_enter func99,ntmps99;go_wp2_with fail;refine(xU T d _ V X hk).mono ?_;rintro e w1 ⟨rfl,m,rfl⟩;cases B:js T d with
 | false=>have q:gy (iZ ⟨l,T,d,j⟩ (iY us)=7):=gj (zy y.o B);clear B;go_wp2;go_ret;exact⟨by rw[q.o];rfl,((gJ w).alloc gH _).drewN _⟩
 | true=>
  have u:=gj B;clear B;generalize C:(Ro w (Q1 #[I Y l,I Y T,Q7 ⟨Rm d⟩,Q7 ⟨Rm j⟩] 105)).drewN m=w1;have s1:G (Q w)+1<=G (Q w1):=by rw[<-C];simp
  have b1:Below (G (Q w)) w w1:=by rw[<-C];exact((gJ w).alloc gH _).drewN _
  have B1:gy (w1.heap[G (Q w)]?=N (Q1 #[I Y l,I Y T,Q7 ⟨Rm d⟩,Q7 ⟨Rm j⟩] 105 (0,0))):=gj (by rw[<-C];exact gB w _);clear C;go_wp2;go_loopw [6] (fun i wr=>∃k:Nat,k<=O us/\i=I Y k/\(iY (us.take k)).contains (T,d)=false/\Below (G (Q w1)) w1 wr) (fun i _=>O us-(intOf i).toNat)
  case atStart=>exact⟨0,by omega,rfl,rfl,kz⟩
  case round=>
   obtain⟨k,a8,rfl,x,D⟩:=hrel;have F:=b1.trans (D.mono (by omega));have a9:=D.size;have R:=gj (gC D (by omega) B1.o);have q1:Rn wr ⟨G (Q w),1,J⟩=N (I Y T):=gr 1 R.o;have q2:Rn wr ⟨G (Q w),2,J⟩=N (Q7 ⟨Rm d⟩):=gr 2 R.o;have ba:=gm R.o;by_cases S:k<O us
   .obtain⟨a',cap',he,al,hx⟩:=(HS.o.below F).gU;cases he;obtain⟨b,off,rfl,c0,c1,c2,c3⟩:=hx k S;clear hx al c0 c3;have a5:(k:Int)<O us:=by omega
    have bb:=gK c1;have ap:=gj (zq us k S);have M:=gj x;clear x;have U:(us[k].table,us[k].key)∈iY us:=aA.2 ⟨us[k],bq S,rfl⟩;have HM:=gj U;clear U;cases hq:((us[k].table,us[k].key)==(T,d)) with
    | true=>
     have q:gy (iZ ⟨l,T,d,j⟩ (iY us)=8):=gj (wm y.o u.o (by rw[aT]at hq;rw[fm,<-hq];exact HM.o));have av:∀w,(binOp .eql 103 (Q9 #[I Y us[k].table,Q7 ⟨us[k].key.toArray⟩]) (Q9 #[I Y T,Q7 ⟨Rm d⟩])).run prog w=.ok (Rh true) w:=fun w=>by rw[Kc,hq]
     clear hq;go_wp2;go_quiet (fail);go_wp2;go_ret;exact⟨by rw[q.o];rfl,F.drewN _⟩
    | false=>
     have av:∀w,(binOp .eql 103 (Q9 #[I Y us[k].table,Q7 ⟨us[k].key.toArray⟩]) (Q9 #[I Y T,Q7 ⟨Rm d⟩])).run prog w=.ok (Rh false) w:=fun w=>by rw[Kc,hq]
     have HQ:=gj hq;clear hq;go_wp2;go_quiet (fail);go_wp2;go_roundw
     case rel=>refine⟨k+1,by omega,by go_num,?_,D.drewN _⟩;rw[ap.o,List.contains_append,M.o];simp only[Bool.false_or,List.contains_cons,List.contains_nil,Bool.or_false];have:=HQ.o;rw[ar]at this⊢;exact fun e=>this e.symm
     case measure=>simp[intOf];omega
   .obtain rfl:k=O us:=by omega
    rw[aM]at x;have M:=gj x;clear x;have q0:Rn wr ⟨G (Q w),0,J⟩=N (I Y l):=gr 0 R.o;have q3:Rn wr ⟨G (Q w),3,J⟩=N (Q7 ⟨Rm j⟩):=gr 3 R.o;have bc:¬(O us:Int)<O us:=by omega
    have aE:l=1\/l=2:=by omega
    have r:=gj (fun W=>rO T j W V X hv);rcases aE with rfl|rfl
    .cases s:jb T j with
     | true=>rw[s]at r;have q:gy (iZ ⟨1,T,d,j⟩ (iY us)=0):=gj (rL (o:=⟨1,T,d,j⟩) (.inl rfl) V X u.o M.o s);clear s;go_wp2_with (go_at_call 140;refine(r.o _).mono ?_;rintro e w4 ⟨rfl,rfl⟩);go_ret;exact⟨by rw[q.o];rfl,F⟩
     | false=>rw[s]at r;have q:gy (iZ ⟨1,T,d,j⟩ (iY us)=9):=gj (zz y.o u.o M.o (show yg ⟨1,T,d,j⟩=false from s));clear s;go_wp2_with (go_at_call 140;refine(r.o _).mono ?_;rintro e w4 ⟨rfl,rfl⟩);go_ret;exact⟨by rw[q.o];rfl,F⟩
    .by_cases E:j=[]
     .subst E;have q:gy (iZ ⟨2,T,d,[]⟩ (iY us)=0):=gj (rL (o:=⟨2,T,d,[]⟩) (.inr rfl) V X u.o M.o rfl);go_wp2_with (go_at_call 140;refine(r.o _).mono ?_;rintro e w4 ⟨rfl,rfl⟩);go_ret;exact⟨by rw[q.o];rfl,F⟩
     .have q:gy (iZ ⟨2,T,d,j⟩ (iY us)=9):=gj (zz y.o u.o M.o (by simpa [yg]using E));obtain⟨vx,vs,rfl⟩:=List.exists_cons_of_ne_nil E;clear E;go_wp2_with (go_at_call 140;refine(r.o _).mono ?_;rintro e w4 ⟨rfl,rfl⟩);go_ret;exact⟨by rw[q.o];rfl,F⟩
theorem DS(o:kv)(b:Q4)(us:List kv)(w:Q0)(m:jE w b us)(hl:O us<=100)(hk:O o.key<=im)(q:O o.val<=im):
  Rg prog 99 #[ud o,b] w fun e w'=>e=Ra (I Y (iZ o (iY us)))/\Below (G (Q w)) w w':=by
 obtain⟨d,T,j,l⟩:=o;by_cases i:d<1\/2<d\/T<0\/2<T
 .exact LF d T j l b (iY us) w i
 .exact Jv d T j l b us w m hl hk q (by omega) (by omega) (by omega) (by omega)
def gV(l:List E):List Q4:=l.flatMap fun x=>[I Y x.1.1,Q7 ⟨Rm x.1.2⟩,Q7 ⟨Rm x.2⟩]
theorem nD(l:List E):(gV l).length=O l*3:=by
 induction l with
 | nil=>rfl
 | cons k l ih=>simp[gV]at ih⊢;omega
theorem zg:∀(l:List E) (i:Nat) (h:i<O l),(gV l)[i*3]?=N (I Y l[i].1.1)/\(gV l)[i*3+1]?=N (Q7 ⟨l[i].1.2.toArray⟩)/\(gV l)[i*3+2]?=N (Q7 ⟨l[i].2.toArray⟩)
 | k::l,0,_=>⟨rfl,rfl,rfl⟩
 | k::l,i+1,h=>by have ih:=zg l i (by simpa using h);have e:gV (k::l)=I Y k.1.1::Q7 ⟨Rm k.1.2⟩::Q7 ⟨Rm k.2⟩::gV l:=rfl;rw[e,show(i+1)*3=i*3+1+1+1 by omega,show i*3+1+1+1+1=(i*3+1)+1+1+1 by omega,show i*3+1+1+1+2=(i*3+2)+1+1+1 by omega];simpa using ih
def iD(w:Q0)(v:Q4)(l:List E):Prop:=gE w v 3 (O l) (gV l)
theorem iD.gU{w:Q0}{v:Q4}(h:iD w v l):
  ∃a cap,v=.slice a (O l) cap/\O l<=cap/\∀i (h:i<O l),∃b off,a=N ⟨b,off,J⟩/\Rn w ⟨b,off+i*3,J⟩=N (I Y l[i].1.1)/\Rn w ⟨b,off+i*3+1,J⟩=N (Q7 ⟨l[i].1.2.toArray⟩)/\Rn w ⟨b,off+i*3+2,J⟩=N (Q7 ⟨l[i].2.toArray⟩):=by
 obtain⟨_,a,cap,rfl,hc,d⟩:=h;refine⟨a,cap,rfl,hc,fun i o=>?_⟩;have hl:=nD l;obtain⟨j,h1,m⟩:=zg l i o;obtain⟨b,off,rfl,c0⟩:=d (i*3) (by omega);obtain⟨s,u,q,c1⟩:=d (i*3+1) (by omega);cases q;obtain⟨b2,x,r,c2⟩:=d (i*3+2) (by omega);cases r;rw[ah (by omega)]at j h1 m;exact⟨b,off,rfl,c0.trans j,(by rw[bT];exact c1.trans h1),(by rw[bT];exact c2.trans m)⟩
theorem oY(l m:List E):gV (l++m)=gV l++gV m:=by simp[gV]
theorem tT(l:List E):∀u∈gV l,u.oneCell'=true:=by intro u d;obtain⟨x,-,b⟩:=List.mem_flatMap.1 d;simp at b;rcases b with rfl|rfl|rfl<;>rfl
theorem iD.below{w w':Q0}{v:Q4}(h:iD w v l)(b:Below (G (Q w)) w w'):iD w' v l:=gE.below h b
theorem gS.IA{w:Q0}{v:Q4}(h:gS w base 3 v (O l) (gV l)):iD w v l:=h.sliceAt
theorem K0(a:Int)(c d:gw)(w:Q0):(binOp .eql 101 (Q9 #[I Y a,Q7 ⟨Rm c⟩,Q7 ⟨Rm d⟩]) (Q9 #[I Y a,Q7 ⟨Rm c⟩,Q7 ⟨Rm d⟩])).run prog w=.ok (Rh true) w:=by
 have h1:(part 3 #[I Y a,Q7 ⟨Rm c⟩,Q7 ⟨Rm d⟩] 0).run prog w=.ok (I Y a) w:=eh w (by kernel_rfl) rfl;have j:(part 9 #[I Y a,Q7 ⟨Rm c⟩,Q7 ⟨Rm d⟩] 1).run prog w=.ok (Q7 ⟨Rm c⟩) w:=eh w (by kernel_rfl) rfl;have l:(part 9 #[I Y a,Q7 ⟨Rm c⟩,Q7 ⟨Rm d⟩] 2).run prog w=.ok (Q7 ⟨Rm d⟩) w:=eh w (by kernel_rfl) rfl;have b:prog.underlying 101=N (.struct (prog.fieldsOf 101)):=by kernel_rfl
 have o:prog.stoodInHeld 101=false:=by kernel_rfl
 have q:=TypeDesc.struct.inj (Option.some.inj (b.symm.trans underlying101));have r:∀m (x y:Int),(Op.equalIn (m+1) 3 (I Y x) (I Y y)).run prog w=.ok (x==y) w:=fun m x y=>by simp[Op.equalIn,aO underlying3]
 have s:∀m (x y:ByteArray),(Op.equalIn (m+1) 9 (Q7 x) (Q7 y)).run prog w=.ok (x==y) w:=fun m x y=>by simp[Op.equalIn,aO underlying9]
 have u:∀n,(Op.equalIn (n+2) 101 (Q9 #[I Y a,Q7 ⟨Rm c⟩,Q7 ⟨Rm d⟩]) (Q9 #[I Y a,Q7 ⟨Rm c⟩,Q7 ⟨Rm d⟩])).run prog w=.ok true w:=by intro n;rw[run_equalIn_agg w (n+1) 101 _ _ b o,q];simp only[Op.eqFields];rw[aw (by decide),aw (by decide),aw (by decide)];have B:((⟨Rm c⟩:ByteArray)==⟨Rm c⟩)=true:=(dH _ _).2 rfl;have i:((⟨Rm d⟩:ByteArray)==⟨Rm d⟩)=true:=(dH _ _).2 rfl;simp[h1,j,l,r,s,B,i]
 have C:=u 9998;simp only[binOp];simp[Op.equal,Op.maxDepth,C]
def vI(d:Q0)(bo bi bn k:Nat)(b:Bool):Q0:=((d.drew.setCell ⟨bo,0,J⟩ (Rh true)).setCell ⟨bi,0,J⟩ (I Y ((k+1:Nat):Int))).setCell ⟨bn,0,J⟩ (Rh b)
theorem Gw(bo bn bi bl k:Nat)(v:Q4)(l:List E)(w:Q0)(B:Rn w ⟨bo,0,J⟩=N (Rh true))(C:Rn w ⟨bn,0,J⟩=N (Rh false))(D:Rn w ⟨bi,0,J⟩=N (I Y (k:Int)))(r:Rn w ⟨bl,0,J⟩=N v)(fo:w.frozen? ⟨bo,0,J⟩=false)(fn:w.frozen? ⟨bn,0,J⟩=false)(F:w.frozen? ⟨bi,0,J⟩=false)(he:iD w v l)(hk:k<O l)(hl:O l<=1000000000)(h1:bo≠bn)(h2:bo≠bi)(h3:bo≠bl)(h4:bn≠bi)(h5:bn≠bl)(h6:bi≠bl):
  Rg prog 134 #[Q9 #[I Y l[k].1.1,Q7 ⟨l[k].1.2.toArray⟩],Q7 ⟨l[k].2.toArray⟩,Q5 (N ⟨bo,0,J⟩),Q5 (N ⟨bn,0,J⟩),Q5 (N ⟨bi,0,J⟩),Q5 (N ⟨bl,0,J⟩)] w fun e w'=>
   e=Ra (Rh (!decide (O l / 2<k+1)))/\
   ∃m,gy (m=Ro w (Q1 #[I Y l[k].1.1,Q7 ⟨l[k].1.2.toArray⟩] 103))/\w'=vI m bo bi bn k (decide (O l / 2<k+1)):=by
 obtain⟨a,cap,rfl,-,M⟩:=he.gU;obtain⟨b,o,rfl,c0,c1,c2⟩:=M k hk;generalize l[k]=x at *
 obtain⟨⟨T,i⟩,U⟩:=x;simp only at c0 c1 c2⊢;clear M he;go_enter func134,ntmps134;go_wp2;have g1:(k:Int)<O l:=by omega
 have g0:(0:Int)<=k:=by omega
 have d:Below (G (Q w)) w (Ro w (Q1 #[I Y T,Q7 ⟨Rm i⟩] 103)):=(gJ w).alloc gH _;have j:=gB w (Q1 #[I Y T,Q7 ⟨Rm i⟩] 103);have lo:=gK B;have R:=gK C;have li:=gK D;have ll:=gK r;have lb:=gK c0;have V:=(d.cell (p:=⟨bo,0,J⟩) lo).trans B;have W:=(d.cell (p:=⟨bn,0,J⟩) R).trans C;have X:=(d.cell (p:=⟨bi,0,J⟩) li).trans D;have Z:=(d.cell (p:=⟨bl,0,J⟩) ll).trans r;have d0:=(d.cell (p:=⟨b,o+k*3,J⟩) lb).trans c0;have d1:=(d.cell (p:=⟨b,o+k*3+1,J⟩) lb).trans c1;have d2:=(d.cell (p:=⟨b,o+k*3+2,J⟩) lb).trans c2;have aa:(Ro w (Q1 #[I Y T,Q7 ⟨Rm i⟩] 103)).frozen? ⟨bo,0,J⟩=false:=by rw[<-fo];exact dj (a:=⟨bo,0,J⟩) (d.block bo lo)
 have ag:(Ro w (Q1 #[I Y T,Q7 ⟨Rm i⟩] 103)).frozen? ⟨bn,0,J⟩=false:=by rw[<-fn];exact dj (a:=⟨bn,0,J⟩) (d.block bn R)
 have ak:(Ro w (Q1 #[I Y T,Q7 ⟨Rm i⟩] 103)).frozen? ⟨bi,0,J⟩=false:=by rw[<-F];exact dj (a:=⟨bi,0,J⟩) (d.block bi li)
 have k0:=gr 0 j;have k1:=gr 1 j;generalize u:Ro w (Q1 #[I Y T,Q7 ⟨Rm i⟩] 103)=m at *
 have y:gy (m=Ro w (Q1 #[I Y T,Q7 ⟨Rm i⟩] 103)):=gj u.symm;clear u;clear d j B C D r c0 c1 c2 fo fn F;have hq:=fun w=>K0 T i U w;refine wp_region_still_tail 24 (by kernel_rfl) (by kernel_rfl) ?_;simp only[aN,bp,cN,bC]
 repeat still_step
 refine wpStill_nil ?_;have al:wrap64 ((k:Int)+1)=(k:Int)+1:=IntWalk.wrap64_in _ (by omega);cases q:decide (O l / 2<k+1) with
 | true=>
  have S:(O l:Int) / 2<(k:Int)+1:=by have:=dh q;omega
  have s:=gj q;clear q;go_wp2;go_ret;exact⟨by rw[s.o];rfl,m,y,by rw[s.o];rfl⟩
 | false=>
  have S:¬(O l:Int) / 2<(k:Int)+1:=by have:=ff q;omega
  have s:=gj q;clear q;go_wp2;go_ret;exact⟨by rw[s.o];rfl,m,y,by rw[s.o];rfl⟩
open Go.Shelf
theorem qR{a:Nat}{t':TypeId}{d:Q4}(h:Boxed X a t u)(k:Boxed X b t' d)(i:t≠t'):a≠b:=by rintro rfl;have:=(show X.heap[a]?=_ from h).symm.trans k;cases this;exact i rfl
structure kR(w:Q0)(bo bn bi bl D:Nat)(v:Q4)(S:List E)(vo vn vi:Q4)(X:Q0):Prop where
 ok:Boxed X bo 4 vo
 no:Boxed X bn 4 vn
 n:Boxed X bi 3 vi
 l:Boxed X bl 23 v
 row:X.ownsRow (G (Q w)) 101 3 v (O S) (gV S)
 defer:X.heap[D]?=N (.deferred (N []))
 below:Below (G (Q w)) w X
 ne:bo≠bn
 lo:G (Q w)<=bo/\G (Q w)<=bn/\G (Q w)<=bi
section
variable {w:Q0} {bo bn bi bl D:Nat} {v:Q4} {S:List E} {vo vn vi:Q4} {A B:Q0}
theorem kR.grown(h:kR w bo bn bi bl D v S vo vn vi A)(b:A.grownBy B J):kR w bo bn bi bl D v S vo vn vi B:=
 ⟨h.ok.kept b (by simp),h.no.kept b (by simp),h.n.kept b (by simp),h.l.kept b (by simp),h.row.kept b (by
   rcases h.row.2 with ⟨rfl,_⟩|⟨g,cap,cur,rfl,_⟩
   .exact .inl rfl
   .exact .inr (by simp[Value.ownBlock])),(b.block D (gm h.defer) (by simp)).trans h.defer,h.below.grown b h.below.size (fun k e=>by cases e),h.ne,h.lo⟩
theorem kR.PK(h:kR w bo bn bi bl D v S vo vn vi A)(d:Boxed A b t u):D≠b:=by rintro rfl;have:=h.defer.symm.trans d;cases this
theorem kR.QF(h:kR w bo bn bi bl D v S vo vn vi A)(u:Q4):kR w bo bn bi bl D v S u vn vi (A.setCell ⟨bo,0,J⟩ u):=by
 have b:=grownBy_setCell' A bo u
 exact⟨h.ok.set u,h.no.kept b (by simpa using h.ne.symm),h.n.kept b (by simpa using qR h.n h.ok (by decide)),h.l.kept b (by simpa using qR h.l h.ok (by decide)),
  h.row.kept b (.inr (h.ok.not_row (by decide) h.row).symm),(Below.heap_setCell _ _ _ D (h.PK h.ok)).trans h.defer,h.below.setCell (p:=⟨bo,0,J⟩) h.lo.1 u,h.ne,h.lo⟩
theorem kR.QE(h:kR w bo bn bi bl D v S vo vn vi A)(u:Q4):kR w bo bn bi bl D v S vo u vi (A.setCell ⟨bn,0,J⟩ u):=by
 have b:=grownBy_setCell' A bn u
 exact⟨h.ok.kept b (by simpa using h.ne),h.no.set u,h.n.kept b (by simpa using qR h.n h.no (by decide)),h.l.kept b (by simpa using qR h.l h.no (by decide)),
  h.row.kept b (.inr (h.no.not_row (by decide) h.row).symm),(Below.heap_setCell _ _ _ D (h.PK h.no)).trans h.defer,h.below.setCell (p:=⟨bn,0,J⟩) h.lo.2.1 u,h.ne,h.lo⟩
theorem kR.PW(h:kR w bo bn bi bl D v S vo vn vi A)(u:Q4):kR w bo bn bi bl D v S vo vn u (A.setCell ⟨bi,0,J⟩ u):=by
 have b:=grownBy_setCell' A bi u
 exact⟨h.ok.kept b (by simpa using qR h.ok h.n (by decide)),h.no.kept b (by simpa using qR h.no h.n (by decide)),h.n.set u,h.l.kept b (by simpa using qR h.l h.n (by decide)),
  h.row.kept b (.inr (h.n.not_row (by decide) h.row).symm),(Below.heap_setCell _ _ _ D (h.PK h.n)).trans h.defer,h.below.setCell (p:=⟨bi,0,J⟩) h.lo.2.2 u,h.ne,h.lo⟩
end
theorem zh{v:Q4}{S:List E}(h:X.ownsRow base 101 3 v (O S) (gV S)):iD X v S:=by
 obtain⟨hl,⟨rfl,m⟩|⟨g,cap,cur,rfl,r,d,o,hc,q,j⟩⟩:=h
 .obtain rfl:S=[]:=ch m;exact gE.nil X J 3 0
 .refine⟨hl,_,cap,rfl,o,fun i b=>⟨g,0,rfl,?_⟩⟩;have l:i<O S*3:=by rw[hl]at b;exact b
  rw[bY,aP X g i cur _ _ d,<-Array.getElem?_toList,<-ah b,<-j,bF l]
theorem xN(X:Q0)(o:Obj)(bo bi bn k:Nat)(b:Bool)(j:Nat)(d:j<G (Q X))(h1:j≠bo)(i:j≠bi)(l:j≠bn):(vI (X.alloc o) bo bi bn k b).heap[j]?=X.heap[j]?:=by unfold vI;rw[Below.heap_setCell _ _ _ j l,Below.heap_setCell _ _ _ j i,Below.heap_setCell _ _ _ j h1];exact((Below.refl (G (Q X)) X).alloc gH o).block j d
theorem EO(X:Q0)(o:Obj)(bo bi bn k:Nat)(b:Bool):(vI (X.alloc o) bo bi bn k b).heap.size=G (Q X)+1:=by unfold vI;rw[QO,QO,QO];exact aj X o
theorem kR.call{w:Q0}{bo bn bi bl D:Nat}{v:Q4}{S pre:List E}{x:E}{i q r:Nat}(h:kR w bo bn bi bl D v S (Rh true) (Rh false) (I Y (O pre:Int)) X)(o:pre++[x] <+: S)(s:O S<=1000000000)(h1:i<G (Q w))(F:q<G (Q w))(M:r<G (Q w)):
  Rg prog 134 (#[kV x.1,Q7 ⟨Rm x.2⟩]++#[Q5 (N ⟨bo,0,J⟩),Q5 (N ⟨bn,0,J⟩),Q5 (N ⟨bi,0,J⟩),Q5 (N ⟨bl,0,J⟩)]) X fun e W'=>
   (e=Ra (Rh true)/\kR w bo bn bi bl D v S (Rh true) (Rh false) (I Y ((pre++[x]).length:Int)) W'/\jq i q r X W')\/
   (e=Ra (Rh false)/\∃vn vi,kR w bo bn bi bl D v S (Rh true) vn vi W'):=by
 have hk:O pre<O S:=by have:=o.length_le;simp at this;omega
 have u:S[O pre]=x:=by obtain⟨t,rfl⟩:=o;simp
 have H:=Gw bo bn bi bl (O pre) v S X h.ok.cell h.no.cell h.n.cell h.l.cell h.ok.frozen h.no.frozen h.n.frozen (zh h.row) hk s h.ne (qR h.ok h.n (by decide)) (qR h.ok h.l (by decide)) (qR h.no h.n (by decide)) (qR h.no h.l (by decide)) (qR h.n h.l (by decide));rw[u]at H;refine H.mono ?_;rintro e W' ⟨rfl,R,⟨rfl⟩,rfl⟩;have hl:=((h.grown (ek X (Q1 #[I Y x.1.1,Q7 ⟨Rm x.1.2⟩] 103) J)).grown (B:=(X.alloc (Q1 #[I Y x.1.1,Q7 ⟨Rm x.1.2⟩] 103)).drew) ⟨rfl,rfl,rfl,aq _,fun _ _ _=>rfl⟩);have hl:=((hl.QF (Rh true)).PW (I Y ((O pre+1:Nat):Int))).QE (Rh (decide (O S / 2<O pre+1)));have y:=h.lo;have C:=h.below.size;have d:jq i q r X (vI (X.alloc (Q1 #[I Y x.1.1,Q7 ⟨Rm x.1.2⟩] 103)) bo bi bn (O pre) (decide (O S / 2<O pre+1))):=by
  refine⟨au (dS _) (Nat.le_of_eq (EO X _ bo bi bn _ _).symm),fun j b=>?_,fun j cs U b=>?_⟩
  .exact xN X _ bo bi bn _ _ j (by rcases b with rfl|rfl|rfl<;>omega) (by rcases b with rfl|rfl|rfl<;>omega) (by rcases b with rfl|rfl|rfl<;>omega) (by rcases b with rfl|rfl|rfl<;>omega)
  .refine(xN X _ bo bi bn _ _ j (gm b) ?_ ?_ ?_).trans b
   .rintro rfl;have:=b.symm.trans h.ok;cases this
   .rintro rfl;have:=b.symm.trans h.n;cases this
   .rintro rfl;have:=b.symm.trans h.no;cases this
 cases m:decide (O S / 2<O pre+1) with
 | true=>exact .inr ⟨rfl,_,_,by rw[m]at hl;exact hl⟩
 | false=>exact .inl ⟨rfl,by rw[m]at hl;rw[ab];exact hl,by rw[m]at d;exact d⟩
attribute [local go_sem] Oper.semAt_some
end Go.Proofs.YtkkfmkhbdoeglabGreatDoor
