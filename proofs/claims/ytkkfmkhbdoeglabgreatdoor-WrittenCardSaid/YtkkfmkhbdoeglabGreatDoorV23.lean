/- Lemmas of the proof. No condition. -/
import Derived.Test.YtkkfmkhbdoeglabGreatDoorV22
set_option maxHeartbeats 4000000
set_option maxRecDepth 100000
namespace Go.Proofs.YtkkfmkhbdoeglabGreatDoor
open Go renaming World->Q0,Value->Q4,Calls->Rg,TypeId->Ri
open Go.Ending renaming returned->Ra
open Go.IntKind renaming i64->Y,u64->Re
open Go.Obj renaming cells->Q1
open Go.RowKit renaming Below->Q8
open Go.Value renaming int->I,pointer->Q5,agg->Q9,iface->Rb,tuple->Rc,bool->Rh
open Go.World renaming heap->Q,cell?->Rn,alloc->Ro,setCell->Rp
open List renaming length->O
open Option renaming none->J,some->N
open _root_.Array renaming size->G
open Go.Proofs.Tryz
open Go.RowKit Go.Extern.Stop Go.Stop Go.Extern
theorem IB(x y:Q4)(w:Q0):(binOp .eql 128 (Rb 188 x) (Rb 184 y)).run prog w=.ok (Rh false) w:=
 run_eql_iface_types _ _ _ _ underlying128 (by decide) w
theorem Qm(v:Q4)(b:Ri)(w:Q0):(Instr.typeAssert (Rb 188 v) b 297 true).run prog w=.ok (Rc #[.nilIface,Rh false]) w:=run_typeAssert_lacksB underlying297 (by kernel_rfl) (by kernel_rfl) v b w
theorem Qn(v:Q4)(b:Ri)(w:Q0):(Instr.typeAssert (Rb 188 v) b 293 true).run prog w=.ok (Rc #[.nilIface,Rh false]) w:=run_typeAssert_lacksB underlying293 (by kernel_rfl) (by kernel_rfl) v b w
theorem Qo(v:Q4)(b:Ri)(w:Q0):(Instr.typeAssert (Rb 188 v) b 294 true).run prog w=.ok (Rc #[.nilIface,Rh false]) w:=run_typeAssert_lacksB underlying294 (by kernel_rfl) (by kernel_rfl) v b w
theorem Qf(v:Q4)(m:Int)(w:Q0):
  Rg prog 146 #[Rb 188 v,Rb 184 (I Y m),Rh true] w fun e w'=>e=Ra (Rh false)/\w'=w:=by
 have a1:=Qm;have a2:=Qn;have a3:=Qo;have he:=IB;go_enter func146,ntmps146;go_wp2;refine wp_loop_rounds 1 ?_;rw[rounds_succ];go_wp2;go_ret;exact⟨rfl,rfl⟩
def qY(w:Q0)(b c:Nat)(k n:Int):Prop:=w.heap[b]?=N (Q1 #[I Y k,I Y n,Rb 188 (Q5 (N ⟨c,0,J⟩))] 186 (0,0))
theorem Di(b c:Nat)(k n:Int)(w:Q0)(d:qY w b c k n):
  Rg prog 246 #[Q5 (N ⟨b,0,J⟩)] w fun r w'=>r=Ra (.slice (N ⟨G (Q w),0,J⟩) 2 2)/\w'.heap[G (Q w)]?=N (Q1 #[Rb 184 (I Y k),Rb 188 (Q5 (N ⟨c,0,J⟩))] 128 (0,0))/\Q8 (G (Q w)) w w':=by
 unfold qY at d;have j:=gr 0 d;have l:=gr 2 d;have i:=gm d;clear d;go_enter func246,ntmps246;go_wp2;go_region
 all_goals
  go_wp2;go_ret
  first
   | exact⟨rfl,gB w _,((gJ w).alloc gH _).drew⟩
   | exact⟨rfl,gB w.drew _,(gJ w).drew.alloc gH _⟩
theorem IQ(b c:Nat)(k n m:Int)(w:Q0)(l:qY w b c k n):
  Rg prog 146 #[Rb 171 (Q5 (N ⟨b,0,J⟩)),Rb 184 (I Y m),Rh true] w fun e w'=>e=Ra (Rh (k==m))/\Q8 (G (Q w)) w w':=by
 have a1:=Pg;have a2:=Ko;have a3:=EI;have r:=qw;have he:=we;cases i:(k==m)
 all_goals
  have q:=gj i;clear i;go_enter func146,ntmps146;go_wp2;refine wp_loop_rounds 1 ?_;rw[rounds_succ];go_wp2_with (go_at_call 246;refine(Di b c k n _ l).mono ?_;rintro e w1 ⟨rfl,d,j⟩;have u0:=gr 0 d;have u1:=gr 1 d;have ul:=gm d;clear d);refine wp_loop_rounds 3 ?_;rw[rounds_succ];go_wp2_with (go_at_call 146;refine(Gp k m _).mono ?_;rintro e w2 ⟨rfl,rfl⟩;rw[q.o])
 .rw[rounds_succ];go_wp2_with (go_at_call 146;refine(Qf _ m _).mono ?_;rintro e w2 ⟨rfl,rfl⟩);rw[rounds_succ];go_wp2;go_ret;exact⟨rfl,j⟩
 .go_ret;exact⟨rfl,j⟩
theorem Au(b c:Nat)(k n m:Int)(w:Q0)(i:qY w b c k n):
  Rg prog 105 #[Rb 171 (Q5 (N ⟨b,0,J⟩)),Rb 184 (I Y m)] w fun e w'=>e=Ra (Rh (k==m))/\Q8 (G (Q w)) w w':=by
 have j:=@run_callFunc_extern prog 145 _ ReflectliteType.typeOf func145 (by kernel_rfl) (by kernel_rfl) (by kernel_rfl) (by kernel_rfl);have l:=@run_callFunc_extern prog 258 _ (ReflectliteType.method fun t=>do Rtype.noPackHeld "Comparable" t;pure (Rh (←typeInfo t).comparable)) func258 (by kernel_rfl) (by kernel_rfl) (by kernel_rfl) (by kernel_rfl);have o:∀w,(ReflectliteType.method (fun t=>do Rtype.noPackHeld "Comparable" t;(fun a:TypeInfo=>Rh a.comparable) <$> typeInfo t) #[Q9 #[Q5 (N ⟨2,184,J⟩)]]).run prog w=.ok (Rh true) w:=fun w=>by kernel_rfl
 have q:=Fj;have r:=zc;go_enter func105,ntmps105;go_wp2_with (go_at_call 146;refine(IQ b c k n m _ i).mono ?_;rintro e w1 ⟨rfl,d⟩);go_ret;exact⟨rfl,d⟩
def wM(c:Addr)(B:Nat)(t:Addr)(w:Q0):Q0:=
 ((Ro w (Q1 #[Q5 (N ⟨2,189,J⟩),Q5 (N ⟨B,0,J⟩),I Re 150] 232)).alloc (Q1 #[Q5 (N c)] 188)).setCell t (Q5 (N c))
theorem KM(c t:Addr)(B:Nat)(m iI:Q4)(w:Q0)(i:Rn w ⟨B,0,J⟩=N (Q5 (N t)))(b:Rn w t=N iI)(j:w.frozen? t=false):
  Rg prog 144 #[Rb 188 (Q5 (N c)),m,Q9 #[Q5 (N ⟨2,189,J⟩),Q5 (N ⟨B,0,J⟩),I Re 150],Rb 286 (Q9 #[Q5 (N ⟨2,188,J⟩)])] w fun e w'=>e=Ra (Rh true)/\w'=wM c B t w:=by
 have o:=@run_callFunc_extern prog 141 _ (fun args=>ReflectliteValue.unpack (args.getD 0 (Rc #[]))) func141 (by kernel_rfl) (by kernel_rfl) (by kernel_rfl) (by kernel_rfl);have q:=@run_callFunc_extern prog 145 _ ReflectliteType.typeOf func145 (by kernel_rfl) (by kernel_rfl) (by kernel_rfl) (by kernel_rfl);have r:=@run_callFunc_extern prog 257 _ (ReflectliteType.relation "AssignableTo" ReflectliteType.assignableTo) func257 (by kernel_rfl) (by kernel_rfl) (by kernel_rfl) (by kernel_rfl);have s:=@run_callFunc_extern prog 183 _ (ReflectliteValue.method (ReflectliteValue.valueError "reflectlite.Value.Elem" 0) ReflectliteValue.elem) func183 (by kernel_rfl) (by kernel_rfl) (by kernel_rfl) (by kernel_rfl);have u:=@run_callFunc_extern prog 184 _ ReflectliteValue.set func184 (by kernel_rfl) (by kernel_rfl) (by kernel_rfl) (by kernel_rfl);have x:=Fl;have y:=ky;have a25:=uK;have v25:=Ci;have d:t.block<G (Q w):=gK b;have l:B<G (Q w):=gK i;have el:=Oy ⟨B,0,J⟩ t (Ro w (Q1 #[Q5 (N ⟨2,189,J⟩),Q5 (N ⟨B,0,J⟩),I Re 150] 232)) (by rw[ck _ _ ⟨B,0,J⟩ l];exact i)
 have st:=PW t ⟨G (Q w)+1,0,J⟩ c iI ((Ro w (Q1 #[Q5 (N ⟨2,189,J⟩),Q5 (N ⟨B,0,J⟩),I Re 150] 232)).alloc (Q1 #[Q5 (N c)] 188))
  (by rw[World.cell?_alloc_at _ _ _ _ (by simp)];rfl)
  (by rw[ck _ _ t (by simp<;>omega),ck _ _ t d];exact b)
  (by rw[dV _ _ t (by simp<;>omega),dV _ _ t (Nat.ne_of_lt d)];exact j)
 go_enter func144,ntmps144;go_wp2;refine wp_loop_rounds 1 ?_;rw[rounds_succ];go_wp2;go_ret;exact⟨rfl,rfl⟩
theorem Ib(b c B d:Nat)(k n:Int)(R:Q4)(w:Q0)(y:qY w b c k n)(C:Rn w ⟨B,0,J⟩=N (Q5 (N ⟨d,0,J⟩)))(D:w.heap[d]?=N (Q1 #[Q5 J] 188 (0,0))):
  Rg prog 144 #[Rb 171 (Q5 (N ⟨b,0,J⟩)),R,Q9 #[Q5 (N ⟨2,189,J⟩),Q5 (N ⟨B,0,J⟩),I Re 150],Rb 286 (Q9 #[Q5 (N ⟨2,188,J⟩)])] w fun e w'=>e=Ra (Rh true)/\gR (fun k=>k=d) w w'/\w'.heap[d]?=N (Q1 #[Q5 (N ⟨c,0,J⟩)] 188 (0,0)):=by
 have x6:=@run_callFunc_extern prog 145 _ ReflectliteType.typeOf func145 (by kernel_rfl) (by kernel_rfl) (by kernel_rfl) (by kernel_rfl);have x7:=@run_callFunc_extern prog 257 _ (ReflectliteType.relation "AssignableTo" ReflectliteType.assignableTo) func257 (by kernel_rfl) (by kernel_rfl) (by kernel_rfl) (by kernel_rfl);have tO:=Fk;have mA:=ky;have aE:=xr;have a1:=Pf;have a2:=Ko;have a3:=EI;have mU:=qw;have E:=gm y;have F:B<G (Q w):=gK C;have q:=gm D;have x:=gj D;have S:=gj C;go_enter func144,ntmps144;go_wp2;refine wp_loop_rounds 1 ?_;rw[rounds_succ];go_wp2_with (go_at_call 246;refine(Di b c k n _ ((Below.heap_alloc _ _ _ E).trans y)).mono ?_;rintro e w1 ⟨rfl,r,s⟩;have m:=gC s (gm (gB w (Q1 #[Q5 (N ⟨2,189,J⟩),Q5 (N ⟨B,0,J⟩),I Re 150] 232))) (gB w (Q1 #[Q5 (N ⟨2,189,J⟩),Q5 (N ⟨B,0,J⟩),I Re 150] 232));have U:=gr 0 m;have V:=gr 1 m;have v2:=gr 2 m;have HV:=gj m;have u:=gm m;clear m;simp only[aj]at r⊢;have u0:=gr 0 r;have u1:=gr 1 r;have ul:=gm r;have M:=gj (show Q8 (G (Q w)) w w1 from((gJ w).alloc gH _).tn s);clear r s);refine wp_loop_rounds 3 ?_;rw[rounds_succ];go_wp2_with (go_at_call 144;refine(FG k _ _ _ _ _).mono ?_;rintro e w2 ⟨rfl,l⟩;have W:=(l.cell (p:=⟨G (Q w)+1,1,J⟩) (by first|exact ul|simpa using ul)).trans (by first|exact u1|simpa using u1);have i:=gj (M.o.tn l);have ql:=gK W;have j:=gC l u HV.o;have x0:=gr 0 j;have x1:=gr 1 j;have x2:=gr 2 j;have X:=gm j;clear l u0 u1 ul U V v2 u j);rw[rounds_succ];go_wp2_with (go_at_call 144;refine(KM ⟨c,0,J⟩ ⟨d,0,J⟩ B _ (Q5 J) _ ((i.o.cell (p:=⟨B,0,J⟩) F).trans S.o) (gr 0 (gC i.o q x.o)) (gD 0 (gC i.o q x.o))).mono ?_;rintro e w3 ⟨rfl,rfl⟩);go_ret;have Z:gR (fun k=>k=d) w2 (wM ⟨c,0,J⟩ B ⟨d,0,J⟩ w2):=(((gR.refl _ w2).alloc _).alloc _).setCell ⟨d,0,J⟩ _ (.inl rfl);exact⟨rfl,(gR.gO i.o).trans Z,by unfold wM;exact QN _ _ 0 _ (gP _ _ (gP _ _ (gC i.o q x.o)))⟩
theorem P4(b c d:Nat)(k n:Int)(w:Q0)(j:qY w b c k n)(l:w.heap[d]?=N (Q1 #[Q5 J] 188 (0,0)))(m:Rn w ⟨0,0,J⟩=N (Rb 286 (Q9 #[Q5 (N ⟨2,128,J⟩)]))):
  Rg prog 104 #[Rb 171 (Q5 (N ⟨b,0,J⟩)),Rb 189 (Q5 (N ⟨d,0,J⟩))] w fun ev w'=>ev=Ra (Rh true)/\gR (fun k=>k=d) w w'/\w'.heap[d]?=N (Q1 #[Q5 (N ⟨c,0,J⟩)] 188 (0,0)):=by
 have E:=@run_callFunc_extern prog 141 _ (fun args=>ReflectliteValue.unpack (args.getD 0 (Rc #[]))) func141 (by kernel_rfl) (by kernel_rfl) (by kernel_rfl) (by kernel_rfl);have F:=@run_callFunc_extern prog 142 _ (ReflectliteValue.methodAny (ReflectliteValue.valueError "reflectlite.Value.Type" 0) (fun t _ _ _=>ReflectliteType.toType t)) func142 (by kernel_rfl) (by kernel_rfl) (by kernel_rfl) (by kernel_rfl);have M:=@run_callFunc_extern prog 143 _ (ReflectliteValue.method (ReflectliteValue.valueError "reflectlite.Value.IsNil" 0) ReflectliteValue.isNil) func143 (by kernel_rfl) (by kernel_rfl) (by kernel_rfl) (by kernel_rfl);have R:=@run_callFunc_extern prog 237 _ (ReflectliteType.abiMethod fun t=>do pure (I .u8 (←Rtype.kind t))) func237 (by kernel_rfl) (by kernel_rfl) (by kernel_rfl) (by kernel_rfl);have S:=@run_callFunc_extern prog 259 _ (ReflectliteType.method ReflectliteType.elem) func259 (by kernel_rfl) (by kernel_rfl) (by kernel_rfl) (by kernel_rfl);have U:=@run_callFunc_extern prog 260 _ (ReflectliteType.relation "Implements" ReflectliteType.implements_) func260 (by kernel_rfl) (by kernel_rfl) (by kernel_rfl) (by kernel_rfl);have V:=@run_callFunc_extern prog 145 _ ReflectliteType.typeOf func145 (by kernel_rfl) (by kernel_rfl) (by kernel_rfl) (by kernel_rfl);have W:=@run_callFunc_extern prog 257 _ (ReflectliteType.relation "AssignableTo" ReflectliteType.assignableTo) func257 (by kernel_rfl) (by kernel_rfl) (by kernel_rfl) (by kernel_rfl);have X:=@run_callFunc_extern prog 183 _ (ReflectliteValue.method (ReflectliteValue.valueError "reflectlite.Value.Elem" 0) ReflectliteValue.elem) func183 (by kernel_rfl) (by kernel_rfl) (by kernel_rfl) (by kernel_rfl);have Z:=@run_callFunc_extern prog 184 _ ReflectliteValue.set func184 (by kernel_rfl) (by kernel_rfl) (by kernel_rfl) (by kernel_rfl);have tO:=Fl;have mA:=ky;have a25:=uK;have v25:=Ci;have f6:=D9;have f7:=NX;have mK:=wT;have mE:=wR;have mI:=qg;have y:=M7;have B:=Pe;have C:=MR;have i25:=zn;have n8:=Kj ⟨G (Q w),0,J⟩ ⟨d,0,J⟩ ((Ro w (Q1 #[Q5 (N ⟨d,0,J⟩)] 189)).alloc (Q1 #[Q5 (N ⟨2,189,J⟩),Q5 (N ⟨G (Q w),0,J⟩),I Re 150] 232)) (by simp);have q:0<G (Q w):=gK m;have D:((Ro w (Q1 #[Q5 (N ⟨d,0,J⟩)] 189)).alloc (Q1 #[Q5 (N ⟨2,189,J⟩),Q5 (N ⟨G (Q w),0,J⟩),I Re 150] 232)).cell? ⟨0,0,J⟩=N (Rb 286 (Q9 #[Q5 (N ⟨2,128,J⟩)])):=by rw[ck _ _ ⟨0,0,J⟩ (by simp<;>omega),ck _ _ ⟨0,0,J⟩ q];exact m
 have i:Q8 (G (Q w)) w ((Ro w (Q1 #[Q5 (N ⟨d,0,J⟩)] 189)).alloc (Q1 #[Q5 (N ⟨2,189,J⟩),Q5 (N ⟨G (Q w),0,J⟩),I Re 150] 232)):=Below.al (Below.al (Below.rf w) _) _;have r:=gj (Ib b c (G (Q w)) d k n (Rb 189 (Q5 (N ⟨d,0,J⟩))) _ (gC i (gm j) j) (gr 0 (gP _ _ (gB w _))) (gC i (gm l) l));have s:=gj i;clear i j l;go_enter func104,ntmps104;go_wp2_with (go_at_call 144;refine r.o.mono ?_;rintro e w1 ⟨rfl,u,x⟩);go_ret;exact⟨rfl,(gR.gO s.o).trans u,x⟩
theorem wu(b c:Nat)(k n:Int)(s:Nat)(w:Q0)(hg:kM w)(F:qY w b c k n)(hc:w.heap[c]?=N (Q1 #[I Y ((s:Int)-2)] 191 (0,0)))(hs:s<=100000)(h1:1<=k)(h2:k<=14):
  Rg prog 62 #[Rb 171 (Q5 (N ⟨b,0,J⟩))] w fun e w'=>e=Ra (Q9 #[I Y k,I Y n,I Y (s:Nat)])/\Q8 (G (Q w)) w w':=by
 unfold qY at F;have U:=gm F;have ag:=gm hc;have ap:=gj hc;clear hc;go_enter func62,ntmps62;go_wp2_with fail;generalize u:(Ro w (Q1 #[I Y 0,I Y 0,I Y 0] 34)).alloc (Q1 #[Q5 J] 171)=C;have s0:G (Q C)=G (Q w)+1+1:=by rw[<-u];simp
 have e0:Q8 (G (Q w)) w C:=by rw[<-u];exact((gJ w).alloc gH _).alloc (by simp) _
 have r0:C.heap[G (Q w)]?=N (Q1 #[I Y 0,I Y 0,I Y 0] 34 (0,0)):=by rw[<-u];exact gP _ _ (gB w _)
 have t0:C.heap[G (Q w)+1]?=N (Q1 #[Q5 J] 171 (0,0)):=by rw[<-u];have:=gB (Ro w (Q1 #[I Y 0,I Y 0,I Y 0] 34)) (Q1 #[Q5 J] 171);simpa using this
 clear u;refine(Ag ⟨b,0,J⟩ ⟨G (Q w)+1,0,J⟩ (Q5 J) C (hg.new e0).2 (gr 0 t0) (by rw[gD 0 t0]) ).mono ?_;rintro e w1 ⟨rfl,V⟩;have R:=xH ⟨b,0,J⟩ ⟨G (Q w)+1,0,J⟩ C;have t1:=Ai ⟨b,0,J⟩ (G (Q w)+1) C t0;rw[<-V]at R t1;clear V;have W:Q8 (G (Q w)) w w1:=e0.trans (R.below (by omega) (fun k hk e=>by simp only at e;omega));have S:=gC W U F;have c1:Rn w1 ⟨G (Q w)+1,0,J⟩=N (Q5 (N ⟨b,0,J⟩)):=gr 0 t1;have k1:Rn w1 ⟨b,0,J⟩=N (I Y k):=gr 0 S;have n1:Rn w1 ⟨b,1,J⟩=N (I Y n):=gr 1 S;have bl:(k==0)=false:=by rw[ar];omega
 have S1:=gj s0;have bn:G (Q w)+2<=G (Q w1):=by have:=R.size;omega
 have HB:=gj F;have X:=gj S;have Z:=gj t1;have R1:=gj (R.at (fun e=>by simp only at e;omega) r0);clear s0 F S t1 r0 t0;go_wp2;go_loopw [4] (fun c wr=>∃m:Nat,m<=15/\c=I Y m/\Q8 (G (Q w1)) w1 wr) (fun c _=>15-(intOf c).toNat)
 case atStart=>exact⟨0,by omega,rfl,kz⟩
 case round=>
  obtain⟨m,hm,rfl,l⟩:=hrel;have aa:=l.size;have E:=gj (gC l (gm X.o) X.o);have tr:=gj (gC l (gm Z.o) Z.o);have cr:Rn wr ⟨G (Q w)+1,0,J⟩=N (Q5 (N ⟨b,0,J⟩)):=gr 0 tr.o;have kr:Rn wr ⟨b,0,J⟩=N (I Y k):=gr 0 E.o;have nr:Rn wr ⟨b,1,J⟩=N (I Y n):=gr 1 E.o;clear c1 k1 n1;by_cases a7:m<15
  .by_cases q:k=(m:Int)
   .have a0:(k==(m:Int))=true:=aT.2 q;have a1:((m:Int)==k)=true:=aT.2 q.symm;clear q;go_wp2
    go_region_held3 (fun w'=>Rn w' ⟨G (Q w)+1,0,J⟩=N (Q5 (N ⟨b,0,J⟩))/\Rn w' ⟨b,0,J⟩=N (I Y k))
     (first|go_keep|exact⟨(d.cell (p:=⟨G (Q w)+1,0,J⟩) (gm tr.o)).trans cr,(d.cell (p:=⟨b,0,J⟩) (gm E.o)).trans kr⟩)
     ((go_at_call 105;refine(Au b c k n m _ (by exact E.o)).mono ?_;rintro e w2 ⟨rfl,d⟩))
    go_wp2;go_roundw
    case rel=>exact⟨m+1,by omega,by go_num,l.trans (Below.mono ⟨d.os,d.tape,d.output,d.size,d.block⟩ aa)⟩
    case measure=>simp[intOf];omega
   .have a0:(k==(m:Int))=false:=ar.2 q;have a1:((m:Int)==k)=false:=ar.2 (fun e=>q e.symm);clear q;go_wp2
    go_region_held3 (fun w'=>Rn w' ⟨G (Q w)+1,0,J⟩=N (Q5 (N ⟨b,0,J⟩))/\Rn w' ⟨b,0,J⟩=N (I Y k))
     (first|go_keep|exact⟨(d.cell (p:=⟨G (Q w)+1,0,J⟩) (gm tr.o)).trans cr,(d.cell (p:=⟨b,0,J⟩) (gm E.o)).trans kr⟩)
     ((go_at_call 105;refine(Au b c k n m _ (by exact E.o)).mono ?_;rintro e w2 ⟨rfl,d⟩))
    go_wp2;go_roundw
    case rel=>exact⟨m+1,by omega,by go_num,l.trans (Below.mono ⟨d.os,d.tape,d.output,d.size,d.block⟩ aa)⟩
    case measure=>simp[intOf];omega
  .obtain rfl:m=15:=by omega
   go_wp2
   go_region_held3 (fun w'=>Rn w' ⟨G (Q w)+1,0,J⟩=N (Q5 (N ⟨b,0,J⟩))/\Rn w' ⟨b,0,J⟩=N (I Y k)/\Rn w' ⟨b,1,J⟩=N (I Y n))
    (first|go_keep) (fail)
   go_wp2_with fail;generalize x:((Ro wr (Q1 #[I Y k,I Y n,I Y 0] 34)).alloc (Q1 #[Q5 J] 188)).drew=w3;have e3:Q8 (G (Q wr)) wr w3:=by rw[<-x];exact(((gJ wr).alloc gH _).alloc (by simp) _).drew
   have s3:G (Q w3)=G (Q wr)+1+1:=by rw[<-x];simp
   have f3:w3.heap[G (Q wr)]?=N (Q1 #[I Y k,I Y n,I Y 0] 34 (0,0)):=by rw[<-x];exact gP _ _ (gB wr _)
   have t3:w3.heap[G (Q wr)+1]?=N (Q1 #[Q5 J] 188 (0,0)):=by rw[<-x];have:=gB (Ro wr (Q1 #[I Y k,I Y n,I Y 0] 34)) (Q1 #[Q5 J] 188);rw[aj]at this;exact this
   clear x;have j:Q8 (G (Q w)) w w3:=(W.trans (l.mono (by omega))).trans (e3.mono (by omega));have M:w3.heap[G (Q w)]?=N (Q1 #[I Y 0,I Y 0,I Y 0] 34 (0,0)):=gC e3 (by omega) (gC l (by omega) R1.o);refine(P4 b c (G (Q wr)+1) k n w3 (gC j U HB.o) t3 (hg.new j).2).mono ?_;rintro e r ⟨rfl,y,t4⟩;have D:Q8 (G (Q w)) w r:=j.trans (y.below (by have:=j.size;omega) (fun i hi e=>by have e':i=G (Q wr)+1:=e;omega));have f4:=y.at (by show ¬(G (Q wr))=G (Q wr)+1;omega) f3;have c4:=y.at (by show ¬c=G (Q wr)+1;omega) (gC j ag ap.o);have B:=y.at (by show ¬(G (Q w))=G (Q wr)+1;omega) M;have bo:=gj f4;have t40:Rn r ⟨G (Q wr)+1,0,J⟩=N (Q5 (N ⟨c,0,J⟩)):=gr 0 t4;have br:Rn r ⟨c,0,J⟩=N (I Y ((s:Int)-2)):=gr 0 c4;have f40:Rn r ⟨G (Q wr),0,J⟩=N (I Y k):=gr 0 f4;have f41:Rn r ⟨G (Q wr),1,J⟩=N (I Y n):=gr 1 f4;have f42:Rn r ⟨G (Q wr),2,J⟩=N (I Y 0):=gr 2 f4;have bs:=gD 2 f4;have a2:Rn r ⟨G (Q w),0,J⟩=N (I Y 0):=gr 0 B;have a3:Rn r ⟨G (Q w),1,J⟩=N (I Y 0):=gr 1 B;have a4:Rn r ⟨G (Q w),2,J⟩=N (I Y 0):=gr 2 B;have z0:=gD 0 B;have z1:=gD 1 B;have z2:=gD 2 B;have bc:IntKind.i64.wrap ((s:Int)-2+2)=(s:Int):=by rw[show((s:Int)-2+2)=(s:Int) by omega];exact IntWalk.i64_in _ (by omega)
   have bt:=gm f4;have bv:=gm B;have bw:=gm c4;have bi:=gm t4;have bk:G (Q wr)≠G (Q w):=by omega
   have a5:=gj D;have a6:G (Q w)<=G (Q wr):=by omega
   clear f3 M B s3 t3 t4 c4 f4 y e3 j D;go_wp2;refine ai (v:=Q9 #[I Y k,I Y n,I Y (s:Nat)]) (by simp[results,results62,go_sem,a2,a3,a4]) rfl ⟨rfl,?_⟩;exact(((a5.o.setCell (p:=⟨G (Q wr),2,J⟩) a6 _).setCell (p:=⟨G (Q w),0,J⟩) gH _).setCell (p:=⟨G (Q w),1,J⟩) gH _).setCell (p:=⟨G (Q w),2,J⟩) gH _
open Go.Shelf
def sH(k at' s:Nat):Q4:=Q9 #[I Y (k:Nat),I Y (at':Nat),I Y (s:Nat)]
def sX(w:Q0)(M:Nat->Prop)(X:Nat)(R:gA×(iM⊕(Nat×Nat×Nat)))(e:Ending)(w':Q0):Prop:=match R with
 | (H',.inr (k,at',s))=>e=Ra (sH k at' s)/\mD w M X H' J w'
 | (H',.inl p)=>e=Ra (sH 0 0 0)/\mD w M X H' (N p) w'
theorem Fe{n:Nat}{l:List Int}{H:gA}(i:tE n l H.gG)(j:H.dp.room=gY l):∃iC next v T,j9 ni og iO [] (H.gG.map gN) (ik n) iC v T next/\ng n (gY l) v T/\j7 H=match ja H with
 | (H1,some f)=>(H1,.inr (12,0,f))
 | (H1,none)=>(H1.qV T,.inl ⟨lE v T,0,⟨jn H.gG,iC,next⟩⟩):=by
 obtain⟨g,v,T,b,m,d⟩:=i;refine⟨g.iC,g.next,v,T,m,d,?_⟩;have o:g.gF=jn H.gG:=by
  have:(GM H.gG).1.gF=g.gF:=by rw[b]
  rw[<-this];rfl
 unfold j7;generalize ja H=q;obtain⟨H1,r⟩:=q;cases r with
 | some f=>rfl
 | none=>simp only;rw[b,j];simp only;rw[d.over,<-o]
def vU(w:Q0)(R:Nat)(x y z:Q4):Q0:=((Rp w ⟨R,0,J⟩ x).setCell ⟨R,1,J⟩ y).setCell ⟨R,2,J⟩ z
theorem uk{w:Q0}{R:Nat}{a b c:Q4}{T:Ri}{d:Nat×Nat}(h:w.heap[R]?=N (Q1 #[a,b,c] T d))(x y z:Q4):(vU w R x y z).heap[R]?=N (Q1 #[x,y,z] T d):=QN _ _ 2 _ (QN _ _ 1 _ (QN _ _ 0 _ h))
theorem rQ(w:Q0)(R:Nat)(x y z:Q4):gR (fun k=>k=R) w (vU w R x y z):=(((gR.refl (fun k=>k=R) w).setCell ⟨R,0,J⟩ _ (.inl rfl)).setCell ⟨R,1,J⟩ _ (.inl rfl)).setCell ⟨R,2,J⟩ _ (.inl rfl)
theorem CO{H:gA}{f:Nat}(b:32<=O H.gG/\O H.gG<=128)(h:(ja H).2=N f):f<=100000:=by
 unfold ja at h;split at h
 .cases h;omega
 .cases h
theorem Bg(n B X h:Nat)(l:List Int)(M F:Nat->Prop)(H:gA)(cu:Q4)(w:Q0)(Z:w.heap[X]?=N (Q1 #[Q5 (N ⟨h,0,J⟩),cu] 136 (0,0)))(hX:M X)(hh:iU w F h H)(hF:∀k,F k->M k/\k≠X)(r:nm n l B H)(hB:B<=800000000)(ho:tE n l H.gG)(bz:gZ w)(bA:kM w)(bB:∀k,M k->2<=k):
  Rg prog 95 #[Q5 (N ⟨X,0,J⟩)] w (sX w M X (j7 H)):=by
 obtain⟨iC,next,v,T,b2,aa,bD⟩:=Fe ho r.dp.room;rw[bD];have V:Q8 (G (Q w)) w (Ro w (Q1 #[I Y 0,I Y 0,I Y 0] 34)):=(Below.rf w).alloc gH _;have R0:=gB w (Q1 #[I Y 0,I Y 0,I Y 0] 34);have a6:=gC V (gm Z) Z;have bE:=gm Z;have bH:=hh.below V;have bS:=bz.new V;have bX:=bA.new V;have cr:=hh.lt;have cs:(Ro w (Q1 #[I Y 0,I Y 0,I Y 0] 34)).heap.size=G (Q w)+1:=aj _ _;have bI:=gj V;have s:=gj hF;have a4:=gj hh.lt;have bL:=gj bX;have ak:=gj bB;clear bD V Z hh bz bA bB;generalize bM:Ro w (Q1 #[I Y 0,I Y 0,I Y 0] 34)=x at *
 have c0:=gr 0 a6;have co:=gm a6;have bN:=gj a6;have bO:=gj R0;cases al:(ja H).2 with
 | some f=>
  have a7:=gj (fun(W:Q0) (hW:Q8 (G (Q x)) x W)=>LX h F H B W (bH.below hW) r.ok f al);have a8:gy (ja H=((ja H).1,N f)):=gj (by rw[<-al]);rw[a8.o];have b3:f<=100000:=CO r.ok.n al;go_enter func95,ntmps95;go_upto_region 1 with fail;clear bM
  go_region_held3 (fun w'=>Rn w' ⟨X,0,J⟩=N (Q5 (N ⟨h,0,J⟩)))
   (first|exact c0|exact(m.o.cell (p:=⟨X,0,J⟩) (fun e=>(s.o X e).2 rfl) c0))
   (first|(go_at_call 133;refine(a7.o _ (by first|exact(Below.rf x).drew|exact Below.rf x)).mono ?_;rintro e w1 ⟨b,c,rfl,a9,ba,bP,C⟩;have m:gy (gR F x w1):=gj (by first|exact(gR.gO (Below.rf x).drew).trans C|exact C);clear C))
  have i:=m.o.at (fun e=>(s.o X e).2 rfl) bN.o;have am:=m.o.at (fun e=>absurd (a4.o _ e) (dt _)) bO.o;have x1:=gr 1 i;have z1:=gD 1 i;have b4:=gm i;have ap:X≠G (Q w):=Nat.ne_of_lt bE;have j:gR (fun k=>k=X) w1 (Rp w1 ⟨X,1,J⟩ (Q5 J)):=(gR.refl (fun k=>k=X) w1).setCell ⟨X,1,J⟩ _ (.inl rfl);have av:(Rp w1 ⟨X,1,J⟩ (Q5 J)).heap[X]?=N (Q1 #[Q5 (N ⟨h,0,J⟩),Q5 J] 136 (0,0)):=QN _ _ 1 (Q5 J) i;have aE:=j.at (show ¬(G (Q w))=X from fun e=>ap e.symm) am;have bb:=(bL.o.ext m.o fun k hk=>ak.o k (s.o k hk).1).ext j fun k e=>e▸ak.o X hX;have D:gR M w w1:=(gR.gO bI.o).trans (m.o.mono fun k hk=>(s.o k hk).1);have R:gR M w (Rp w1 ⟨X,1,J⟩ (Q5 J)):=D.setCell ⟨X,1,J⟩ _ (.inl hX);have b5:qY (Rp w1 ⟨X,1,J⟩ (Q5 J)) b c 12 0:=j.at (fun e=>kK a9 i (by decide) e) a9;have b6:=j.at (fun e=>kK ba i (by decide) e) ba;have bc:=gj (show iU (Rp w1 ⟨X,1,J⟩ (Q5 J)) F h (ja H).1 from bP.ext j fun k hk e=>(s.o k hk).2 e);clear a9 ba bP;have a0:=gj av;have S:=gj aE;have b8:=gj j;have a2:=gj R;have b9:gy (G (Q w)<=G (Q w1)):=gj D.size;clear i am av aE j D R;go_wp2_with fail;generalize Rp w1 ⟨X,1,J⟩ (Q5 J)=w2 at *
  refine(wu b c 12 0 f _ bb b5 b6 b3 (by omega) (by omega)).mono ?_;rintro e w3 ⟨rfl,q⟩;have a1:=gC q (gm a0.o) a0.o;have d:=gC q (gm S.o) S.o;have bi:=gj a1;have bk:=gj d;have a3:=gj (a2.o.trans (gR.gO q));have bl:=gj q;have ca:=gr 0 d;have cb:=gr 1 d;have cc:=gr 2 d;have cd:=gD 0 d;have ce:=gD 1 d;have cg:=gD 2 d;have ci:=gm d;clear a1 d q;go_wp2;have U:=gP _ (Q1 #[I Y 12,I Y 0,I Y (f:Nat)] 34) (uk bk.o (I Y 12) (I Y 0) (I Y (f:Nat)));have q0:=gr 0 U;have q1:=gr 1 U;have q2:=gr 2 U;have u:gR (fun k=>k=G (Q w)) w3 ((vU w3 (G (Q w)) (I Y 12) (I Y 0) (I Y (f:Nat))).alloc (Q1 #[I Y 12,I Y 0,I Y (f:Nat)] 34)):=(rQ w3 (G (Q w)) _ _ _).alloc _;unfold vU at q0 q1 q2 u;refine ai (v:=sH 12 0 f) (by simp[results,results95,go_sem,sH,q0,q1,q2]) rfl ?_;refine⟨rfl,M,⟨h,_,u.at ap bi.o,hX,rfl,F,?_,s.o⟩,fun k=>.inl,a3.o.j8 u fun k e=>.inr (by omega)⟩;exact((bc.o.below bl.o).ext u fun k hk e=>by have e':k=G (Q w):=e;have:=a4.o k hk;omega)
 | none=>
  have hk:∀y:E,jB y->O y.1.2<=im/\O y.2<=im:=fun y hy=>by have:=hy.small;unfold im;omega
  have a7:=gj (fun(W:Q0) (hW:Q8 (G (Q x)) x W)=>JF h F H B W (bH.below hW) r.ok (bS.new hW) (fun k hk=>ak.o k (s.o k hk).1) iC v next T (by rw[r.len];exact b2) al (by have:=aa.v64;omega) (by have:=aa.len;omega) (by have:=r.dp.qO.len;omega) (by have:=r.dp.iF;omega) (fun y hy=>(hk y (r.dp.qO.mem y hy)).1) (fun y hy=>hk y (aa.mH y hy)) (by rw[r.dp.room];exact aa.over));have a8:gy (ja H=((ja H).1,J)):=gj (by rw[<-al]);rw[a8.o];go_enter func95,ntmps95;go_upto_region 1 with fail;clear bM
  go_region_held3 (fun w'=>Rn w' ⟨X,0,J⟩=N (Q5 (N ⟨h,0,J⟩)))
   (first|exact c0|exact(m.o.cell (p:=⟨X,0,J⟩) (fun e=>(s.o X e).2 rfl) c0))
   (first|(go_at_call 133;refine(a7.o _ (by first|exact(Below.rf x).drew|exact Below.rf x)).mono ?_;rintro e w1 ⟨a,rfl,-,M1,bt,bR,C⟩;have bv:gy (∀k,M1 k->F k\/G (Q x)<=k):=gj bR;clear bR;have m:gy (gR F x w1):=gj (by first|exact(gR.gO (Below.rf x).drew).trans C|exact C);clear C))
  have i:=m.o.at (fun e=>(s.o X e).2 rfl) bN.o;have am:=m.o.at (fun e=>absurd (a4.o _ e) (dt _)) bO.o;have x1:=gr 1 i;have z1:=gD 1 i;have b4:=gm i;have ap:X≠G (Q w):=Nat.ne_of_lt bE;have j:gR (fun k=>k=X) w1 (Rp w1 ⟨X,1,J⟩ (Q5 (N ⟨a,0,J⟩))):=(gR.refl (fun k=>k=X) w1).setCell ⟨X,1,J⟩ _ (.inl rfl);have av:(Rp w1 ⟨X,1,J⟩ (Q5 (N ⟨a,0,J⟩))).heap[X]?=N (Q1 #[Q5 (N ⟨h,0,J⟩),Q5 (N ⟨a,0,J⟩)] 136 (0,0)):=QN _ _ 1 (Q5 (N ⟨a,0,J⟩)) i;have aE:=j.at (show ¬(G (Q w))=X from fun e=>ap e.symm) am;have bb:=(bL.o.ext m.o fun k hk=>ak.o k (s.o k hk).1).ext j fun k e=>e▸ak.o X hX;have D:gR M w w1:=(gR.gO bI.o).trans (m.o.mono fun k hk=>(s.o k hk).1);have R:gR M w (Rp w1 ⟨X,1,J⟩ (Q5 (N ⟨a,0,J⟩))):=D.setCell ⟨X,1,J⟩ _ (.inl hX);have bc:=gj (show Kz (Rp w1 ⟨X,1,J⟩ (Q5 (N ⟨a,0,J⟩))) M1 a h _ _ from bt.frame j fun k hk e=>by
   have e':k=X:=e;rcases bv.o k hk with h'|h'
   .exact(s.o k h').2 e'
   .omega)
  clear bt;have a0:=gj av;have S:=gj aE;have b8:=gj j;have a2:=gj R;have b9:gy (G (Q w)<=G (Q w1)):=gj D.size;clear i am av aE j D R;go_wp2_with fail;generalize Rp w1 ⟨X,1,J⟩ (Q5 (N ⟨a,0,J⟩))=w2 at *
  refine(DN _).mono ?_;rintro e w3 ⟨rfl,q⟩;have a1:=gC q (gm a0.o) a0.o;have d:=gC q (gm S.o) S.o;have bi:=gj a1;have bk:=gj d;have a3:=gj (a2.o.trans (gR.gO q));have bl:=gj q;have ca:=gr 0 d;have cb:=gr 1 d;have cc:=gr 2 d;have cd:=gD 0 d;have ce:=gD 1 d;have cg:=gD 2 d;have ci:=gm d;clear a1 d q;go_wp2;have U:=gP _ (Q1 #[I Y 0,I Y 0,I Y 0] 34) (uk bk.o (I Y 0) (I Y 0) (I Y 0));have q0:=gr 0 U;have q1:=gr 1 U;have q2:=gr 2 U;have u:gR (fun k=>k=G (Q w)) w3 ((vU w3 (G (Q w)) (I Y 0) (I Y 0) (I Y 0)).alloc (Q1 #[I Y 0,I Y 0,I Y 0] 34)):=(rQ w3 (G (Q w)) _ _ _).alloc _;unfold vU at q0 q1 q2 u;refine ai (v:=sH 0 0 0) (by simp[results,results95,go_sem,sH,q0,q1,q2]) rfl ?_;refine⟨rfl,fun k=>M k\/G (Q w)<=k,⟨h,_,u.at ap bi.o,.inl hX,a,M1,rfl,?_,fun k hk=>?_⟩,fun k hk=>hk,a3.o.j8 u fun k e=>.inr (by omega)⟩
  .refine(bc.o.below bl.o).frame u fun k hk e=>?_;have e':k=G (Q w):=e;rcases bv.o k hk with h'|h'
   .have:=a4.o k h';omega
   .omega
  .rcases bv.o k hk with h'|h'
   .exact⟨.inl (s.o k h').1,(s.o k h').2⟩
   .exact⟨.inr (by omega),by omega⟩
end Go.Proofs.YtkkfmkhbdoeglabGreatDoor
