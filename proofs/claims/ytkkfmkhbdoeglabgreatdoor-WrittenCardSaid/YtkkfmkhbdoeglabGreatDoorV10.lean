/- Lemmas of the proof. No condition. -/
import Derived.Deep.DeepCutAuto
import Derived.Test.YtkkfmkhbdoeglabGreatDoorV08
import Derived.Test.YtkkfmkhbdoeglabGreatDoorV09
set_option maxHeartbeats 4000000
set_option maxRecDepth 100000
namespace Go.Proofs.YtkkfmkhbdoeglabGreatDoor
open Go renaming World->Q0,Value->Q4,Calls->Rg,TypeId->Ri
open Go.Ending renaming returned->Ra
open Go.IntKind renaming i64->Y
open Go.Obj renaming cells->Q1
open Go.RowKit renaming Below->Q8
open Go.Value renaming int->I,pointer->Q5,agg->Q9,iface->Rb,tuple->Rc,bool->Rh
open Go.World renaming heap->Q,cell?->Rn,alloc->Ro
open List renaming length->O
open Option renaming none->J,some->N
open _root_.Array renaming size->G
open Go.Proofs.Tryz
open Go.RowKit Go.Extern.Stop Go.Stop Go.Extern
variable{S l m:List E}{fb q r:Nat}{w w':Q0}
theorem Fj(v:Q4)(w:Q0):(ReflectliteType.typeOf #[Rb 184 v]).run prog w=.ok (Rb 286 (Q9 #[Q5 (N ⟨2,184,J⟩)])) w:=by kernel_rfl
theorem Ep(w:Q0):(ReflectliteType.relation "AssignableTo" ReflectliteType.assignableTo #[Q9 #[Q5 (N ⟨2,184,J⟩)],Rb 286 (Q9 #[Q5 (N ⟨2,188,J⟩)])]).run prog w=.ok (Rh false) w:=by kernel_rfl
theorem xr(w:Q0):(ReflectliteType.relation "AssignableTo" ReflectliteType.assignableTo #[Q9 #[Q5 (N ⟨2,171,J⟩)],Rb 286 (Q9 #[Q5 (N ⟨2,188,J⟩)])]).run prog w=.ok (Rh false) w:=by kernel_rfl
theorem Qk(v:Q4)(b:Ri)(w:Q0):(Instr.typeAssert (Rb 184 v) b 290 true).run prog w=.ok (Rc #[.nilIface,Rh false]) w:=run_typeAssert_lacksB underlying290 (by kernel_rfl) (by kernel_rfl) v b w
theorem Ph(v:Q4)(b:Ri)(w:Q0):(Instr.typeAssert (Rb 184 v) b 293 true).run prog w=.ok (Rc #[.nilIface,Rh false]) w:=run_typeAssert_lacksB underlying293 (by kernel_rfl) (by kernel_rfl) v b w
theorem Pj(v:Q4)(b:Ri)(w:Q0):(Instr.typeAssert (Rb 184 v) b 294 true).run prog w=.ok (Rc #[.nilIface,Rh false]) w:=run_typeAssert_lacksB underlying294 (by kernel_rfl) (by kernel_rfl) v b w
theorem Ql(v:Q4)(b:Ri)(w:Q0):(Instr.typeAssert (Rb 184 v) b 297 true).run prog w=.ok (Rc #[.nilIface,Rh false]) w:=run_typeAssert_lacksB underlying297 (by kernel_rfl) (by kernel_rfl) v b w
theorem Pf(v:Q4)(b:Ri)(w:Q0):(Instr.typeAssert (Rb 171 v) b 290 true).run prog w=.ok (Rc #[.nilIface,Rh false]) w:=run_typeAssert_lacksB underlying290 (by kernel_rfl) (by kernel_rfl) v b w
theorem Ko(v:Q4)(b:Ri)(w:Q0):(Instr.typeAssert (Rb 171 v) b 293 true).run prog w=.ok (Rc #[.nilIface,Rh false]) w:=run_typeAssert_lacksB underlying293 (by kernel_rfl) (by kernel_rfl) v b w
theorem EI(v:Q4)(b:Ri)(w:Q0):(Instr.typeAssert (Rb 171 v) b 294 true).run prog w=.ok (Rc #[Rb 171 v,Rh true]) w:=run_typeAssert_hasB underlying294 (by kernel_rfl) v b w
theorem Pg(v:Q4)(b:Ri)(w:Q0):(Instr.typeAssert (Rb 171 v) b 297 true).run prog w=.ok (Rc #[.nilIface,Rh false]) w:=run_typeAssert_lacksB underlying297 (by kernel_rfl) (by kernel_rfl) v b w
theorem qw(h:Q4)(w:Q0):(Go.method 470 171 h "Unwrap").run prog w=.ok (246,h) w:=by kernel_rfl
theorem FG(k:Int)(b d v2 v3:Q4)(w:Q0):
  Rg prog 144 #[Rb 184 (I Y k),b,Q9 #[d,v2,v3],Rb 286 (Q9 #[Q5 (N ⟨2,188,J⟩)])] w fun e w'=>e=Ra (Rh false)/\Q8 (G (Q w)) w w':=by
 have i:=@run_callFunc_extern prog 145 _ ReflectliteType.typeOf func145 (by kernel_rfl) (by kernel_rfl) (by kernel_rfl) (by kernel_rfl);have j:=@run_callFunc_extern prog 257 _ (ReflectliteType.relation "AssignableTo" ReflectliteType.assignableTo) func257 (by kernel_rfl) (by kernel_rfl) (by kernel_rfl) (by kernel_rfl);have l:=Fj;have m:=ky;have o:=Ep;have a1:=Qk;have a2:=Ph;have a3:=Pj;go_enter func144,ntmps144;go_wp2;refine wp_loop_rounds 1 ?_;rw[rounds_succ];go_wp2;go_ret;exact⟨rfl,(gJ w).alloc gH _⟩
theorem Ay(e:Addr)(k:Int)(w:Q0)(d:Rn w ⟨e.block,e.off,J⟩=N (I Y k))(i:Rn w ⟨e.block,e.off+2,J⟩=N .nilIface)(he:e.spot=J):
  Rg prog 246 #[Q5 (N e)] w fun r w'=>r=Ra (.slice (N ⟨G (Q w),0,J⟩) 1 1)/\w'=Ro w (Q1 #[Rb 184 (I Y k)] 128):=by
 obtain⟨b,o,s⟩:=e;obtain rfl:s=J:=he;go_enter func246,ntmps246;go_wp2;go_ret;exact⟨rfl,rfl⟩
theorem Cy(b:Nat)(k n:Int)(l m v2 v3:Q4)(w:Q0)(i:w.heap[b]?=N (Q1 #[I Y k,I Y n,.nilIface] 186 (0,0))):
  Rg prog 144 #[Rb 171 (Q5 (N ⟨b,0,J⟩)),l,Q9 #[m,v2,v3],Rb 286 (Q9 #[Q5 (N ⟨2,188,J⟩)])] w fun e w'=>e=Ra (Rh false)/\Q8 (G (Q w)) w w':=by
 have o:=@run_callFunc_extern prog 145 _ ReflectliteType.typeOf func145 (by kernel_rfl) (by kernel_rfl) (by kernel_rfl) (by kernel_rfl);have q:=@run_callFunc_extern prog 257 _ (ReflectliteType.relation "AssignableTo" ReflectliteType.assignableTo) func257 (by kernel_rfl) (by kernel_rfl) (by kernel_rfl) (by kernel_rfl);have r:=Fk;have s:=ky;have u:=xr;have a1:=Pf;have a2:=Ko;have a3:=EI;have x:=qw;have d:=(cx.1 i).1;go_enter func144,ntmps144;go_wp2;refine wp_loop_rounds 1 ?_;rw[rounds_succ];go_wp2_with (go_at_call 246;refine(Ay ⟨b,0,J⟩ k _ (aP _ b 0 _ _ _ ((Below.heap_alloc _ _ _ d).trans i)) (aP _ b 2 _ _ _ ((Below.heap_alloc _ _ _ d).trans i)) rfl).mono ?_;rintro e w' ⟨rfl,rfl⟩);refine wp_loop_rounds 2 ?_;rw[rounds_succ];go_wp2_with (go_at_call 144;refine(FG k _ _ _ _ _).mono ?_;rintro e w1 ⟨rfl,j⟩);rw[rounds_succ];go_wp2;go_ret;exact⟨rfl,(((gJ w).alloc gH _).alloc (by simp) _).trans (j.mono (by simp<;>omega))⟩
theorem Oc(b:Nat)(k n:Int)(t:Addr)(w:Q0)(d:w.heap[b]?=N (Q1 #[I Y k,I Y n,.nilIface] 186 (0,0)))(i:Rn w ⟨0,0,J⟩=N (Rb 286 (Q9 #[Q5 (N ⟨2,128,J⟩)]))):
  Rg prog 104 #[Rb 171 (Q5 (N ⟨b,0,J⟩)),Rb 189 (Q5 (N t))] w fun ev w'=>ev=Ra (Rh false)/\Q8 (G (Q w)) w w':=by
 have u:=@run_callFunc_extern prog 141 _ (fun args=>ReflectliteValue.unpack (args.getD 0 (Rc #[]))) func141 (by kernel_rfl) (by kernel_rfl) (by kernel_rfl) (by kernel_rfl);have x:=@run_callFunc_extern prog 142 _ (ReflectliteValue.methodAny (ReflectliteValue.valueError "reflectlite.Value.Type" 0) (fun t _ _ _=>ReflectliteType.toType t)) func142 (by kernel_rfl) (by kernel_rfl) (by kernel_rfl) (by kernel_rfl);have y:=@run_callFunc_extern prog 143 _ (ReflectliteValue.method (ReflectliteValue.valueError "reflectlite.Value.IsNil" 0) ReflectliteValue.isNil) func143 (by kernel_rfl) (by kernel_rfl) (by kernel_rfl) (by kernel_rfl);have B:=@run_callFunc_extern prog 237 _ (ReflectliteType.abiMethod fun t=>do pure (I .u8 (←Rtype.kind t))) func237 (by kernel_rfl) (by kernel_rfl) (by kernel_rfl) (by kernel_rfl);have C:=@run_callFunc_extern prog 259 _ (ReflectliteType.method ReflectliteType.elem) func259 (by kernel_rfl) (by kernel_rfl) (by kernel_rfl) (by kernel_rfl);have D:=@run_callFunc_extern prog 260 _ (ReflectliteType.relation "Implements" ReflectliteType.implements_) func260 (by kernel_rfl) (by kernel_rfl) (by kernel_rfl) (by kernel_rfl);have E:=@run_callFunc_extern prog 145 _ ReflectliteType.typeOf func145 (by kernel_rfl) (by kernel_rfl) (by kernel_rfl) (by kernel_rfl);have F:=@run_callFunc_extern prog 257 _ (ReflectliteType.relation "AssignableTo" ReflectliteType.assignableTo) func257 (by kernel_rfl) (by kernel_rfl) (by kernel_rfl) (by kernel_rfl);have M:=@run_callFunc_extern prog 183 _ (ReflectliteValue.method (ReflectliteValue.valueError "reflectlite.Value.Elem" 0) ReflectliteValue.elem) func183 (by kernel_rfl) (by kernel_rfl) (by kernel_rfl) (by kernel_rfl);have R:=@run_callFunc_extern prog 184 _ ReflectliteValue.set func184 (by kernel_rfl) (by kernel_rfl) (by kernel_rfl) (by kernel_rfl);have S:=Fl;have U:=ky;have a25:=uK;have v25:=Ci;have f6:=D9;have f7:=NX;have V:=wT;have W:=wR;have X:=qg;have o:=M7;have q:=Pe;have r:=MR;have i25:=zn;have n8:=Kj ⟨G (Q w),0,J⟩ t ((Ro w (Q1 #[Q5 (N t)] 189)).alloc (Q1 #[Q5 (N ⟨2,189,J⟩),Q5 (N ⟨G (Q w),0,J⟩),I .u64 150] 232)) (by simp);have j:0<G (Q w):=gK i;have s:((Ro w (Q1 #[Q5 (N t)] 189)).alloc (Q1 #[Q5 (N ⟨2,189,J⟩),Q5 (N ⟨G (Q w),0,J⟩),I .u64 150] 232)).cell? ⟨0,0,J⟩=N (Rb 286 (Q9 #[Q5 (N ⟨2,128,J⟩)])):=by rw[ck _ _ ⟨0,0,J⟩ (by simp<;>omega),ck _ _ ⟨0,0,J⟩ j];exact i
 have l:=(cx.1 d).1;go_enter func104,ntmps104;go_wp2_with (go_at_call 144;refine(Cy b k n _ _ _ _ _ (((Below.heap_alloc _ _ _ (by simp<;>omega)).trans (Below.heap_alloc _ _ _ l)).trans d)).mono ?_;rintro e w1 ⟨rfl,m⟩);go_ret;exact⟨rfl,(((gJ w).alloc gH _).alloc (by simp) _).trans (m.mono (by simp<;>omega))⟩
theorem AZ{P:Program}(w:Q0)(d:Nat){m tn:Ri}{ms:Array (String×Ri)}{i:TypeInfo}{k:IntKind}(a b:Int)(o:P.underlying m=N (.interface ms))(q:P.underlying tn=N (.int k))(j:P.info? tn=N i)(l:i.comparable=true):
  (Op.equalIn (d+2) m (Rb tn (I k a)) (Rb tn (I k b))).run P w=.ok (a==b) w:=by
 simp[Op.equalIn,aO o,aO q,typeInfo,j,l]
theorem MS(a b:Int)(w:Q0):(binOp .eql 128 (Rb 184 (I Y a)) (Rb 184 (I Y b))).run prog w=.ok (Rh (a==b)) w:=by
 have hc:(prog.info? 184).map (·.comparable)=N true:=by kernel_rfl
 obtain⟨i,j,d⟩:=cH.1 hc;have h:=AZ (P:=prog) w 9998 a b underlying128 underlying184 j d;simp only[binOp];simp[Op.equal,Op.maxDepth,h]
theorem we(x y:Q4)(w:Q0):(binOp .eql 128 (Rb 171 x) (Rb 184 y)).run prog w=.ok (Rh false) w:=
 run_eql_iface_types _ _ _ _ underlying128 (by decide) w
theorem zc(w:Q0):(Go.method 470 286 (Q9 #[Q5 (N ⟨2,184,J⟩)]) "Comparable").run prog w=.ok (258,Q9 #[Q5 (N ⟨2,184,J⟩)]) w:=by kernel_rfl
theorem Gp(k m:Int)(w:Q0):
  Rg prog 146 #[Rb 184 (I Y k),Rb 184 (I Y m),Rh true] w fun e w'=>e=Ra (Rh (k==m))/\w=w':=by
 have a1:=Ql;have a2:=Ph;have a3:=Pj;have he:=MS;cases b:(k==m)
 .go_enter func146,ntmps146;go_wp2;refine wp_loop_rounds 1 ?_;rw[rounds_succ];go_wp2;go_ret;exact⟨rfl,rfl⟩
 .go_enter func146,ntmps146;go_wp2;refine wp_loop_rounds 1 ?_;rw[rounds_succ];go_wp2;go_ret;exact⟨rfl,rfl⟩
theorem M4(b:Nat)(k n m:Int)(w:Q0)(i:w.heap[b]?=N (Q1 #[I Y k,I Y n,.nilIface] 186 (0,0))):
  Rg prog 146 #[Rb 171 (Q5 (N ⟨b,0,J⟩)),Rb 184 (I Y m),Rh true] w fun e w'=>e=Ra (Rh (k==m))/\Q8 (G (Q w)) w w':=by
 have a1:=Pg;have a2:=Ko;have a3:=EI;have l:=qw;have he:=we;cases d:(k==m)
 all_goals
  have j:=gj d;clear d;go_enter func146,ntmps146;go_wp2;refine wp_loop_rounds 1 ?_;rw[rounds_succ];go_wp2_with (go_at_call 246;refine(Ay ⟨b,0,J⟩ k _ (aP _ b 0 _ _ _ i) (aP _ b 2 _ _ _ i) rfl).mono ?_;rintro e w' ⟨rfl,rfl⟩);refine wp_loop_rounds 2 ?_;rw[rounds_succ];go_wp2_with (go_at_call 146;refine(Gp k m _).mono ?_;rintro e w1 ⟨rfl,rfl⟩;rw[j.o])
 .rw[rounds_succ];go_wp2;go_ret;exact⟨rfl,(gJ w).alloc gH _⟩
 .go_ret;exact⟨rfl,(gJ w).alloc gH _⟩
theorem Fy(b:Nat)(k n m:Int)(w:Q0)(i:w.heap[b]?=N (Q1 #[I Y k,I Y n,.nilIface] 186 (0,0))):
  Rg prog 105 #[Rb 171 (Q5 (N ⟨b,0,J⟩)),Rb 184 (I Y m)] w fun e w'=>e=Ra (Rh (k==m))/\Q8 (G (Q w)) w w':=by
 have j:=@run_callFunc_extern prog 145 _ ReflectliteType.typeOf func145 (by kernel_rfl) (by kernel_rfl) (by kernel_rfl) (by kernel_rfl);have l:=@run_callFunc_extern prog 258 _ (ReflectliteType.method fun t=>do Rtype.noPackHeld "Comparable" t;pure (Rh (←typeInfo t).comparable)) func258 (by kernel_rfl) (by kernel_rfl) (by kernel_rfl) (by kernel_rfl);have o:∀w,(ReflectliteType.method (fun t=>do Rtype.noPackHeld "Comparable" t;(fun a:TypeInfo=>Rh a.comparable) <$> typeInfo t) #[Q9 #[Q5 (N ⟨2,184,J⟩)]]).run prog w=.ok (Rh true) w:=fun w=>by kernel_rfl
 have q:=Fj;have r:=zc;go_enter func105,ntmps105;go_wp2_with (go_at_call 146;refine(M4 b k n m _ i).mono ?_;rintro e w1 ⟨rfl,d⟩);go_ret;exact⟨rfl,d⟩
theorem DN(w:Q0):Rg prog 62 #[.nilIface] w fun e w'=>e=Ra (Q9 #[I Y 0,I Y 0,I Y 0])/\Q8 (G (Q w)) w w':=by go_enter func62,ntmps62;go_wp2;exact ai (v:=Q9 #[I Y 0,I Y 0,I Y 0]) (by simp[results,results62,go_sem]) rfl ⟨rfl,(gJ w).alloc gH _⟩
theorem xH(e t:Addr)(w:Q0):gR (fun k=>k=t.block) w (yF e t w):=
 gR.setCell (((((gR.refl _ w).alloc _).alloc _).alloc _).alloc _) t _ (.inl rfl)
theorem Ai(e:Addr)(t:Nat)(w:Q0){T:Ri}{iI:Q4}(h:w.heap[t]?=N (Q1 #[iI] T (0,0))):(yF e ⟨t,0,J⟩ w).heap[t]?=N (Q1 #[Q5 (N e)] T (0,0)):=
 QN _ t 0 _ (gP _ _ (gP _ _ (gP _ _ (gP _ _ h))))
theorem GR(b:Nat)(k n:Int)(w:Q0)(hg:kM w)(D:w.heap[b]?=N (Q1 #[I Y k,I Y n,.nilIface] 186 (0,0)))(h1:1<=k)(h2:k<=14):
  Rg prog 62 #[Rb 171 (Q5 (N ⟨b,0,J⟩))] w fun e w'=>e=Ra (Q9 #[I Y k,I Y n,I Y 0])/\Q8 (G (Q w)) w w':=by
 have R:=gm D;have ag:∀o,(Ro w (Q1 #[I Y 0,I Y 0,I Y 0] 34)).heap[G (Q w)+1]?=o->True:=fun _ _=>cK;clear ag;go_enter func62,ntmps62;go_wp2_with fail;generalize q:(Ro w (Q1 #[I Y 0,I Y 0,I Y 0] 34)).alloc (Q1 #[Q5 J] 171)=s;have s0:G (Q s)=G (Q w)+1+1:=by rw[<-q];simp
 have e0:Q8 (G (Q w)) w s:=by rw[<-q];exact((gJ w).alloc gH _).alloc (by simp) _
 have r0:s.heap[G (Q w)]?=N (Q1 #[I Y 0,I Y 0,I Y 0] 34 (0,0)):=by rw[<-q];exact gP _ _ (gB w _)
 have t0:s.heap[G (Q w)+1]?=N (Q1 #[Q5 J] 171 (0,0)):=by rw[<-q];have:=gB (Ro w (Q1 #[I Y 0,I Y 0,I Y 0] 34)) (Q1 #[Q5 J] 171);simpa using this
 clear q;refine(Ag ⟨b,0,J⟩ ⟨G (Q w)+1,0,J⟩ (Q5 J) s (hg.new e0).2 (gr 0 t0) (by rw[gD 0 t0]) ).mono ?_;rintro e w1 ⟨rfl,S⟩;have E:=xH ⟨b,0,J⟩ ⟨G (Q w)+1,0,J⟩ s;have t1:=Ai ⟨b,0,J⟩ (G (Q w)+1) s t0;rw[<-S]at E t1;clear S;have U:Q8 (G (Q w)) w w1:=e0.trans (E.below (by omega) (fun k hk e=>by simp only at e;omega));have F:=gC U R D;have c1:Rn w1 ⟨G (Q w)+1,0,J⟩=N (Q5 (N ⟨b,0,J⟩)):=gr 0 t1;have k1:Rn w1 ⟨b,0,J⟩=N (I Y k):=gr 0 F;have n1:Rn w1 ⟨b,1,J⟩=N (I Y n):=gr 1 F;have a7:(k==0)=false:=by rw[ar];omega
 have S1:=gj s0;have a8:G (Q w)+2<=G (Q w1):=by have:=E.size;omega
 have HB:=gj D;have V:=gj F;have W:=gj t1;have R1:=gj (E.at (fun e=>by simp only at e;omega) r0);clear s0 D F t1 r0 t0;go_wp2;go_loopw [4] (fun c wr=>∃m:Nat,m<=15/\c=I Y m/\Q8 (G (Q w1)) w1 wr) (fun c _=>15-(intOf c).toNat)
 case atStart=>exact⟨0,by omega,rfl,kz⟩
 case round=>
  obtain⟨m,hm,rfl,i⟩:=hrel;have X:=i.size;have B:=gj (gC i (gm V.o) V.o);have Z:=gj (gC i (gm W.o) W.o);have cr:Rn wr ⟨G (Q w)+1,0,J⟩=N (Q5 (N ⟨b,0,J⟩)):=gr 0 Z.o;have kr:Rn wr ⟨b,0,J⟩=N (I Y k):=gr 0 B.o;have nr:Rn wr ⟨b,1,J⟩=N (I Y n):=gr 1 B.o;clear c1 k1 n1;by_cases a2:m<15
  .by_cases j:k=(m:Int)
   .have am:(k==(m:Int))=true:=aT.2 j;have ap:((m:Int)==k)=true:=aT.2 j.symm;clear j;go_wp2
    go_region_held3 (fun w'=>Rn w' ⟨G (Q w)+1,0,J⟩=N (Q5 (N ⟨b,0,J⟩))/\Rn w' ⟨b,0,J⟩=N (I Y k))
     (first|go_keep|exact⟨(d.cell (p:=⟨G (Q w)+1,0,J⟩) (gm Z.o)).trans cr,(d.cell (p:=⟨b,0,J⟩) (gm B.o)).trans kr⟩)
     ((go_at_call 105;refine(Fy b k n m _ (by exact B.o)).mono ?_;rintro e w2 ⟨rfl,d⟩))
    go_wp2;go_roundw
    case rel=>exact⟨m+1,by omega,by go_num,i.trans (Below.mono ⟨d.os,d.tape,d.output,d.size,d.block⟩ X)⟩
    case measure=>simp[intOf];omega
   .have am:(k==(m:Int))=false:=ar.2 j;have ap:((m:Int)==k)=false:=ar.2 (fun e=>j e.symm);clear j;go_wp2
    go_region_held3 (fun w'=>Rn w' ⟨G (Q w)+1,0,J⟩=N (Q5 (N ⟨b,0,J⟩))/\Rn w' ⟨b,0,J⟩=N (I Y k))
     (first|go_keep|exact⟨(d.cell (p:=⟨G (Q w)+1,0,J⟩) (gm Z.o)).trans cr,(d.cell (p:=⟨b,0,J⟩) (gm B.o)).trans kr⟩)
     ((go_at_call 105;refine(Fy b k n m _ (by exact B.o)).mono ?_;rintro e w2 ⟨rfl,d⟩))
    go_wp2;go_roundw
    case rel=>exact⟨m+1,by omega,by go_num,i.trans (Below.mono ⟨d.os,d.tape,d.output,d.size,d.block⟩ X)⟩
    case measure=>simp[intOf];omega
  .obtain rfl:m=15:=by omega
   go_wp2
   go_region_held3 (fun w'=>Rn w' ⟨G (Q w)+1,0,J⟩=N (Q5 (N ⟨b,0,J⟩))/\Rn w' ⟨b,0,J⟩=N (I Y k)/\Rn w' ⟨b,1,J⟩=N (I Y n))
    (first|go_keep) (fail)
   go_wp2_with fail;generalize y:((Ro wr (Q1 #[I Y k,I Y n,I Y 0] 34)).alloc (Q1 #[Q5 J] 188)).drew=w3;have e3:Q8 (G (Q wr)) wr w3:=by rw[<-y];exact(((gJ wr).alloc gH _).alloc (by simp) _).drew
   have s3:G (Q w3)=G (Q wr)+1+1:=by rw[<-y];simp
   have f3:w3.heap[G (Q wr)]?=N (Q1 #[I Y k,I Y n,I Y 0] 34 (0,0)):=by rw[<-y];exact gP _ _ (gB wr _)
   clear y;have l:Q8 (G (Q w)) w w3:=(U.trans (i.mono (by omega))).trans (e3.mono (by omega));have u:w3.heap[G (Q w)]?=N (Q1 #[I Y 0,I Y 0,I Y 0] 34 (0,0)):=gC e3 (by omega) (gC i (by omega) R1.o);refine(Oc b k n ⟨G (Q wr)+1,0,J⟩ w3 (gC l R HB.o) (hg.new l).2).mono ?_;rintro e C ⟨rfl,r⟩;have M:=l.trans (r.mono (by have:=l.size;omega));have f40:Rn C ⟨G (Q wr),0,J⟩=N (I Y k):=gr 0 (gC r (gm f3) f3);have f41:Rn C ⟨G (Q wr),1,J⟩=N (I Y n):=gr 1 (gC r (gm f3) f3);have f42:Rn C ⟨G (Q wr),2,J⟩=N (I Y 0):=gr 2 (gC r (gm f3) f3);have x:=gC r (gm u) u;have aE:Rn C ⟨G (Q w),0,J⟩=N (I Y 0):=gr 0 x;have a0:Rn C ⟨G (Q w),1,J⟩=N (I Y 0):=gr 1 x;have a1:Rn C ⟨G (Q w),2,J⟩=N (I Y 0):=gr 2 x;have z0:=gD 0 x;have z1:=gD 1 x;have z2:=gD 2 x;clear f3 u x s3;go_wp2;refine ai (v:=Q9 #[I Y k,I Y n,I Y 0]) (by simp[results,results62,go_sem,aE,a0,a1]) rfl ⟨rfl,?_⟩;exact((M.setCell (p:=⟨G (Q w),0,J⟩) gH _).setCell (p:=⟨G (Q w),1,J⟩) gH _).setCell (p:=⟨G (Q w),2,J⟩) gH _
theorem Fm(l:gw){k n:Nat}(h:lQ l=.inr (k,n)):1<=k/\k<=14:=by
 by_cases hl:O l<5
 .unfold lQ at h;rw[aw hl]at h;cases h;omega
 .obtain⟨x,p,a,b,c,d,rfl⟩:=vp l hl;rw[pU]at h;split at h
  .cases h
  .cases h;omega
def uB(c n:Int):Int:=if c<0 then(-(c+1))%n else c%n
theorem zD(c n:Int)(b:0<n):0<=uB c n/\uB c n<n:=by
 unfold uB;split
 .exact⟨Int.emod_nonneg _ (by omega),Int.emod_lt_of_pos _ b⟩
 .exact⟨Int.emod_nonneg _ (by omega),Int.emod_lt_of_pos _ b⟩
structure sE(w:Q0)(fb q r:Nat)(S:List E):Prop where
 cell:Rn w ⟨fb,0,J⟩=N (Q5 (N ⟨q,0,J⟩))
 ent:jt w q 0 r S
theorem sE.below(h:sE w fb q r S)(b:Q8 (G (Q w)) w w'):sE w' fb q r S:=
 ⟨(b.cell (p:=⟨fb,0,J⟩) (gK h.cell)).trans h.cell,h.ent.below b⟩
theorem sE.step{T:List E}(h:sE w fb q r S)(b:gR (fun i=>i=r) w w')(d:iE w' r T):sE w' fb q r T:=⟨b.cell (pL h.cell h.ent.jh) h.cell,h.ent.step b d⟩
theorem sE.other{b:Nat}(h:sE w fb q r S)(d:gR (fun i=>i=b) w w')(j:fb≠b)(hq:q≠b)(l:r≠b):sE w' fb q r S:=
 ⟨d.cell j h.cell,d.cell hq h.ent.cell,h.ent.jh.iI (d.block r h.ent.jh.lt l)⟩
def My(v:Nat)(S:List E)(os:List kv):List E:=match lF v os with
 | none=>iO S os
 | some _=>S
theorem Ca(l:List E)(x:E):jw (l++[x])=jw l+(1+O x.1.2+O x.2):=by simp[jw]
theorem BZ(h:l.Perm m):jw l=jw m:=(h.map _).sum_nat
theorem LQ(b:l.Nodup)(h:∀x∈l,x∈m):jw l<=jw m:=by
 classical
 induction l generalizing m with
 | nil=>exact aJ _
 | cons x l ih=>rw[dN]at b;have i:=List.perm_cons_erase (h x (by simp));rw[BZ i];have:=ih (m:=m.erase x) b.2 (fun y d=>(List.mem_erase_of_ne (fun e=>b.1 (by rw[<-e];exact d))).2 (h y (aR _ d)));simp only[jw,bG,List.sum_cons]at this⊢;omega
theorem NI(a b c:Nat)(h:a+(1+b+c)<=4611686018427387904):I Y (wrap64 ((a:Int)+wrap64 (wrap64 (1+(b:Int))+(c:Int))))=I Y ((a+(1+b+c):Nat):Int):=by rw[IntWalk.wrap64_in (1+(b:Int)) (by omega),IntWalk.wrap64_in (1+(b:Int)+(c:Int)) (by omega),IntWalk.wrap64_in _ (by omega)];congr 1
theorem NH(q off r:Nat)(S:List E)(w:Q0)(he:jt w q off r S)(B:jw S<=4611686018427387904):
  Rg prog 205 #[Q5 (N ⟨q,off,J⟩)] w fun e w'=>e=Ra (I Y (jw S:Nat))/\Q8 (G (Q w)) w w':=by
 have hc:=he.cell;obtain⟨C,L,U,hp⟩:=he.jh;have V:=gj hp;have HS:=gj B;have HN:=gj C.nodup;clear he C hp B;go_enter func205,ntmps205;go_wp2_with (first|(refine nE rfl _ rfl underlying162 rfl U ?_;intro w0 W ag a8)|fail)
 try go_frame
 go_loopw [3] (fun n wr=>∃l:List E,iJ wr r (G (Q w)) L (l.map zS)/\n=I Y (jw l:Nat)/\Q8 (G (Q w)) w wr) (fun _ wr=>wr.rangeLeft r (G (Q w)))
 case atStart=>exact⟨[],W,rfl,ag⟩
 case round=>
  obtain⟨l,d,rfl,i⟩:=hrel;go_wp2_with (first|(refine oD rfl _ rfl rfl d ?_ ?_)|fail)
  .intro ak;have al:=gj (BZ (vL (ot d.sub.2.2) HN.o (ak.trans V.o)));go_wp2;go_ret;exact⟨by rw[al.o];rfl,i⟩
  .intro X kb v w2 hx ap s av a9 aE ba;obtain⟨⟨k',Z⟩,a0,e⟩:=aA.1 (V.o.mem_iff.1 hx);cases e;have b:iJ w2 r (G (Q w)) L ((l++[((X,kb),Z)]).map zS):=by rw[bj];exact s
   have D:=LQ (m:=S) (ot b.sub.2.2) (fun y hy=>yK (V.o.mem_iff.1 (b.sub.1 _ (aA.2 ⟨y,hy,rfl⟩))));have F:=gj (Ca l ((X,kb),Z));rw[F.o]at D;have a1:=HS.o;have u:=gj b;have bb:=i.size;have M:Q8 (G (Q w)) w w2:=i.grown av i.size (fun j e=>by cases e;exact aq _);have a2:=gj d;clear s b hx ap a0 d;unfold nW at aE;unfold nW;go_wp2;have x:Q8 (G (Q w2)) w2 ((Ro w2 (Q1 #[I Y X,.string ⟨List.toArray kb⟩] 103)).alloc (Q1 #[.string ⟨List.toArray Z⟩] 226)):=((gJ w2).alloc gH _).alloc (by simp) _;have R:=u.o.frame (x.block _ u.o.lt.1) (x.block _ u.o.lt.2);have a3:=R.left;have a4:=a2.o.left;simp only[aB,ab,ao,aI]at a3 a4;refine⟨⟨_,R,?_,M.trans (x.mono M.size)⟩,by omega⟩;rw[F.o];exact NI _ _ _ (au D a1)
open Go.Shelf
theorem tV(q off:Nat)(w:Q0):Rg prog 97 #[Q5 (N ⟨q,off,J⟩)] w fun e w'=>
  e=Ra (.func (.func 135) #[] #[Q5 (N ⟨G (Q w),0,J⟩)])/\w'=Ro w (Q1 #[Q5 (N ⟨q,off,J⟩)] 219):=by
 go_enter func97,ntmps97;go_wp2;go_ret;exact⟨rfl,rfl⟩
end Go.Proofs.YtkkfmkhbdoeglabGreatDoor
