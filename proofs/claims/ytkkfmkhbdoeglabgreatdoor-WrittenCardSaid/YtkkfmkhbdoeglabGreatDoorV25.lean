/- Lemmas of the proof. No condition. -/
import Derived.Carry
import Derived.ChangeSame
import Derived.Deep.DeepHandedRow
import Derived.Deep.Fields
import Derived.Deep.Slices
import Derived.LaidHandle
import Derived.LaidLaws
import Derived.Lib.LaidTab
import Derived.OpenShut
import Derived.Test.YtkkfmkhbdoeglabGreatDoorCards
import Derived.Test.YtkkfmkhbdoeglabGreatDoorTie
import Derived.WideKeyArgs
import Derived.Test.YtkkfmkhbdoeglabGreatDoorV24
namespace Go.Proofs.YtkkfmkhbdoeglabGreatDoor
open Go renaming World->Q0,Value->Q4,TypeId->Ri
open Go.IntKind renaming i64->Y
open Go.Value renaming int->I,agg->Q9
open Go.World renaming heap->Q,cell?->Rn
open List renaming length->O
open Option renaming none->J,some->N
open _root_.Array renaming size->G
open Go.Proofs.Tryz
open Go.RowKit
variable{v:Q4}{w:Q0}{x:Option iV}
theorem J2.agg{d:Q0}(h:J2 d w v x):∃(b:Bool) (m1 m2:Int) (s1:Option Addr) (n1 c1:Nat) (s2:Option Addr) (n2 c2:Nat),v=Q9 #[.bool b,I .u64 m1,I .u64 m2,.slice s1 n1 c1,.slice s2 n2 c2]:=by
 match x,h with
 | none,h=>exact⟨_,_,_,_,_,_,_,_,_,h⟩
 | some (.delta m os),⟨l,h,i⟩=>obtain⟨a,c,rfl⟩:=i.shape;exact⟨_,_,_,_,_,_,_,_,_,h⟩
 | some (.nG m T),⟨tv,h,j,_⟩=>obtain⟨-,a,c,rfl,-,-⟩:=j;exact⟨_,_,_,_,_,_,_,_,_,h⟩
theorem J2.Qj{D:Nat->Prop}{w3 o w5:Q0}(h:J2 w3 o v x)(q:G (Q w)<=G (Q w3))(i:gR D o w5)(r:∀j,D j->j<G (Q w3)):J2 w w5 v x:=by
 match x,h with
 | none,h=>exact h
 | some (.delta m os),⟨y,h,s⟩=>exact⟨y,h,(gS.mono s q).frame i.size fun b e d=>i.block b d fun l=>by have:=s.ie b e;have:=r b l;omega⟩
 | some (.nG m T),⟨tv,h,B,d⟩=>exact⟨tv,h,gE.frame B fun b e u=>i.block b u fun l=>by have:=(d b e).1;have:=r b l;omega,fun j e=>⟨au q (d j e).1,ae (d j e).2 i.size⟩⟩
open Go.Shelf
attribute [local go_sem] Oper.semAt_some
end Go.Proofs.YtkkfmkhbdoeglabGreatDoor
namespace Go.Proofs.YtkkfmkhbdoeglabGreatDoor
open Go renaming World->Q0,Value->Q4,TypeId->Ri
open Go.IntKind renaming i64->Y
open Go.Value renaming int->I,agg->Q9
open Go.World renaming heap->Q,cell?->Rn
open List renaming length->O
open Option renaming none->J,some->N
open _root_.Array renaming size->G
open Go.Proofs.Tryz
open Go.RowKit
variable{C fuel n y:Nat}{W W':Q0}{cs:List Q4}{e:Ri}{k:IntKind}
structure yp(w:Q0)(fb q r:Nat)(v:Q4)(S:List E):Prop where
 t:sE w fb q r S
 l:iD w v S
theorem yp.below{w w':Q0}{fb q r:Nat}{v:Q4}{S:List E}(h:yp w fb q r v S)(b:Below (G (Q w)) w w'):yp w' fb q r v S:=⟨h.t.below b,gE.below h.l b⟩
open Go.ChangeShapes Go.WideShapes Go.ChangeAt
theorem own:ownKnob prog.godebug=J:=by kernel_rfl
theorem Qy:prog.globalNamed "errors.errorType" = N 0:=by kernel_rfl
theorem Qe:(prog.cutTypes.find? (·.1 == "internal/reflectlite.rtype")).map (·.2)=N 286:=by kernel_rfl
theorem PD:((List.range 370).filter fun t=>prog.rowNamed t [101,114,114,111,114])=[128]:=by kernel_rfl
theorem Me:prog.types.size=370:=by kernel_rfl
theorem rI{l:List (String×DataW Unit)}(hm:("errors.errorType",(Rows.laid_errors_errorType:DataW Unit))∈l)(h:handlesMet prog l W):
  Rn W ⟨0,0,J⟩=N (.iface 286 (Q9 #[.pointer (N ⟨2,128,J⟩)])):=by
 obtain⟨name,u,ty,d,i,j,m,b⟩:=h _ hm;have o:name=[101,114,114,111,114]:=(Option.some.inj d).symm;subst o;obtain rfl:=Option.some.inj (Qe.symm.trans i);have hm:ty∈(List.range 370).filter fun t=>prog.rowNamed t [101,114,114,111,114]:=cF.2 ⟨dC.2 (by rw[<-Me];exact j),m⟩;rw[PD]at hm;obtain rfl:=ay.1 hm;have q:typeHandle prog 128=.pointer (N ⟨2,128,J⟩):=by kernel_rfl
 rw[q]at b;simpa using World.var?_cell Qy b 0
noncomputable def qe (os:Os):Q0:=
 let b:=World.holding prog os ⟨#[],#[],[]⟩
 {b with heap:=(b.heap.modify 0 fun
   | .cells _ t frozen=>.cells #[.iface 286 (Q9 #[.pointer (N ⟨2,128,none⟩)])] t frozen
   | o=>o).modify 1 fun
   | .cells _ t frozen=>.cells #[I Y 6,I Y 4,I Y 5,I Y 4,I Y 2,I Y 2] t frozen
   | o=>o}
section
variable {H:Type} {enc:Ri×Q4->H} {P:Program}
theorem wC(hl:laidOutB P=true)(o:Below (G (Q W)) W W'):∀(ts:List Ri) (i:List Q4) (j:List (DataW H)) (ps:List MemPlace),
  (∀t∈ts,P.readableRec t=true/\t<P.types.size)->DataW.TrodAll enc P W 0 (fun _=>true) true ts i j ps->(∀x∈ps,x.block<G (Q W))->
  DataW.TrodAll enc P W' 0 (fun b=>decide (b<G (Q W))) true ts i j ps
 | [],[],[],_,_,h,_=>h
 | t::ts,v::i,d::j,ps,r,h,l=>by
  obtain⟨p,q,h1,u,rfl⟩:=h;have s:=r t cy
  exact⟨p,q,Below.trod hl s.1 s.2 h1 o (fun x m=>l x (fA _ m)),
   wC hl o ts i j q (fun t' y=>r t' (aR _ y)) u (fun x m=>l x (List.mem_append_right _ m)),rfl⟩
 | [],_::_,_,_,_,h,_=>h.elim
 | [],[],_::_,_,_,h,_=>h.elim
 | _::_,[],_,_,_,h,_=>h.elim
 | _::_,_::_,[],_,_,h,_=>h.elim
theorem Gs{f:Func}{s:ChangeSpec}{args:Array Q4}{b gs:List (DataW H)}{before:List MemPlace}{o:Ri}(l:DataW.Whole enc P f.params.toList s.vars false W args.toList b gs before)(r:s.vars=[])(D:f.resultTypes=#[o])(E:P.underlying o=N .bool)(m:(s.fn H (b++gs)).results=[.lit (.bool true)])(i:(s.fn H (b++gs)).args=b)(j:(s.fn H (b++gs)).vars=[])(hl:laidOutB P=true)(F:∀t∈f.params.toList,P.readableRec t=true/\t<P.types.size)(u:Below (G (Q W)) W W'):
  s.post enc P f false true false false W args (.bool true) W':=by
 have y:∀x∈before,x.block<G (Q W):=fun x d=>l.lt x d;have B:=l;obtain⟨p,q,h1,C,rfl,_,_⟩:=l;rw[r]at C;obtain⟨rfl,rfl⟩:=trodVars_none C;refine⟨b,[],p++[],[],p,[],B,?_,?_,?_,World.keptBut_mono (fun x d=>⟨d,.inr (.inl (by simpa using d))⟩) (u.frame (·∈p++[])),fun h=>by cases h⟩
 .rw[D,m];exact⟨[],[],shut_bool E true,rfl,rfl⟩
 .rw[i];exact wC hl u _ _ _ _ F h1 (fun x d=>y x (fA _ d))
 .rw[r,j];rfl
end
theorem QV:laidOutB prog=true:=by kernel_rfl
theorem DY(h:W.ShapedOpen prog):2<=G (Q W):=by
 have hc:(((begin prog (fun _ _=>0) default).world.heap[1]?).bind Obj.row?).isSome=true:=by kernel_rfl
 obtain⟨⟨z,t⟩,d⟩:=cR.1 hc;obtain⟨cs,b,_⟩:=h.1 1 z t (by show 1<prog.globals.size;exact(by kernel_rfl:prog.globals.size=2)▸(by decide)) d;exact(cx.1 b).1
open Go.Deep
def qb{α:Type}(t:Ri)(R:Q0->List Q4->α->Prop):Prop:=
 ∀{H:Type} {enc:Ri×Q4->H} {w:Q0} {base:Nat} {spare:Nat->Bool} {held:Bool} {fuel:Nat} {cs:List Q4} {x:DataW H×List MemPlace},
  DataW.trod enc prog w base spare held fuel t cs=N x->(∀y∈x.1.weights prog t,y<=reachBytes)->∃a:α,R w cs a
def Cq(k:IntKind)(_:Q0)(cs:List Q4)(n:Int):Prop:=cs=[I k n]/\(Lit.int k n).wf=true
theorem Jb{t:Ri}(b:prog.underlying t=N (.int k)):qb t (Cq k):=by intro H enc w base spare held fuel cs x h _;obtain⟨z,hc,rfl,d⟩:=DataW.trod_int b h;exact⟨z,hc,d⟩
def KF(_:Q0)(cs:List Q4)(l:gw):Prop:=cs=[.string ⟨List.toArray l⟩]/\O l<=reachBytes
theorem CM{t:Ri}(b:prog.underlying t=N .string):qb t KF:=by intro H enc w base spare held fuel cs x h d;obtain⟨⟨⟨l⟩⟩,rfl,rfl,-⟩:=DataW.trod_string b h;exact⟨l,rfl,d (O l) (by simp[DataW.weights])⟩
def yr{α:Type}(C:Nat)(m:Nat)(R:Q0->List Q4->α->Prop)(w:Q0)(cs:List Q4)(l:List α):Prop:=
 O l<=m/\∃a cap,cs=[.slice a (O l) cap]/\O l<=cap/\∀i (h:i<O l),∃b off,a=N ⟨b,off,J⟩/\∃d,O d=C/\(∀j,j<C->Rn w ⟨b,off+i*C+j,J⟩=d[j]?)/\R w d l[i]
theorem uU{H:Type}{P:Program}{d:DataW H}: ∀{l:List (DataW H)},d∈l->y∈d.weights P e->y∈DataW.weightsAll P e l
 | [],h,_=>by cases h
 | x::l,h,b=>by
  simp only[DataW.weightsAll,bQ];rcases aZ.1 h with rfl|h
  .exact .inl b
  .exact .inr (uU h b)
theorem LW{w:Q0}{a:Addr}{v:Q4}(h:Rn w a=N v):a=⟨a.block,a.off,J⟩:=by
 obtain⟨b,o,s⟩:=a;unfold World.cell? at h;split at h
 .split at h
  .cases h
  .rename_i d;cases s with
   | none=>rfl
   | some _=>simp at d
 .cases h
theorem ug{α:Type}[Inhabited α]{t:Ri}{m:Nat}{R:Q0->List Q4->α->Prop}(M:prog.underlying t=N (.slice e))(hC:prog.cellsOf e=C)(r:0<C)(S:∀n,n*prog.bytesOf e<=reachBytes->n<=m)(hR:qb e R):
  qb t (yr C m R):=by
 intro H enc w base spare held fuel cs x h s;rcases open_slice M h with ⟨rfl,rfl⟩|⟨a,len,cap,mm,n,D,Pl,rfl,hb,hl,hm,U,rfl,hx⟩
 .exact⟨[],aJ _,J,0,rfl,aq _,fun i d=>absurd d (by simp)⟩
 .have av:len<=mm:=by rw[U];split<;>omega
  simp only[DataW.weights,M]at s;have hW:∀i,i<len->∀y∈(D i).weights prog e,y<=reachBytes:=fun i d y hy=>by refine s y (aR _ (fA _ ?_));exact uU (aA.2 ⟨i,dC.2 d,rfl⟩) hy
  have u:len<=m:=by refine S len ?_;have:=s _ cy;simp only[aB,List.length_range]at this;exact au (cQ _ (fE _ _)) this
  obtain⟨V,W⟩:=choose_lt (α:=α) (n:=len) (p:=fun i v=>∃b,O b=C/\(∀j,j<C->Rn w (a.add (i*C+j))=b[j]?)/\R w b v) (fun i d=>by obtain⟨b,h1,h2⟩:=hx i (by omega);rw[hC]at h1;obtain⟨_,o,l⟩:=World.cells?_some h1;obtain⟨v,B⟩:=hR h2 (hW i d);exact⟨v,b,o,fun j E=>by rw[<-add_add];exact l j E,B⟩);refine⟨(List.range len).map V,by simpa using u,N a,cap,by simp,by simpa using hl,fun i d=>?_⟩;have X:i<len:=by simpa using d
  obtain⟨b,Z,l,B⟩:=W i X;have q:∃v,Rn w (a.add (0*C+0))=N v:=by obtain⟨c0,aE,F,_⟩:=W 0 (by omega);rw[F 0 r];exact⟨c0[0],ah (by omega)⟩
  obtain⟨v0,q⟩:=q;have ha:a=⟨a.block,a.off,J⟩:=by
   have:a.add (0*C+0)=a:=by simp[Addr.add]
   rw[this]at q;exact LW q
  refine⟨a.block,a.off,by rw[<-ha],b,Z,fun j E=>?_,by simpa using B⟩;have:=l j E;rw[ha,fC]at this;rw[bT];exact this
theorem qS{H:Type}{P:Program}: ∀{ts:List Ri} {j:List (DataW H)} {i:Nat} {t:Ri} {d:DataW H},ts[i]?=N t->j[i]?=N d->y∈d.weights P t->y∈DataW.weightsEach P ts j
 | [],_,i,_,_,h,_,_=>by simp at h
 | _::_,[],i,_,_,_,h,_=>by simp at h
 | t'::ts,d'::j,0,t,d,h1,b,l=>by simp only[aY,dz]at h1 b;subst h1 b;simp only[DataW.weightsEach,bQ];exact .inl l
 | t'::ts,d'::j,i+1,t,d,h1,b,l=>by simp only[aX]at h1 b;simp only[DataW.weightsEach,bQ];exact .inr (qS h1 b l)
theorem mw{H:Type}{enc:Ri×Q4->H}{w:Q0}{base:Nat}{spare:Nat->Bool}{held:Bool}{x:DataW H×List MemPlace}{t:Ri}{fs:Array Field}(j:prog.underlying t=N (.struct fs))(h:DataW.trod enc prog w base spare held fuel t cs=N x)(q:∀y∈x.1.weights prog t,y<=reachBytes){α:Type}(i:Nat)(f:Field)(b:fs[i]?=N f){R:Q0->List Q4->α->Prop}(r:qb f.type R):
  O cs=prog.cellsOf t/\∃a:α,R w ((cs.drop f.offset).take (prog.cellsOf f.type)) a:=by
 obtain⟨l,n,-,rfl,hl,m,s⟩:=DataW.trod_struct j h;have o:i<O l:=by rw[m];exact(cx.1 b).1
 have h1:=s i f b;rw[ah o]at h1;refine⟨hl,r h1 fun y u=>q y ?_⟩;simp only[DataW.weights,j];refine qS (i:=i) (t:=f.type) (d:=l[i].1) ?_ ?_ u
 .rw[bg,Array.getElem?_toList,b];rfl
 .rw[bg,ah o];rfl
theorem Cq.i64{w:Q0}{n:Int}(h:Cq Y w cs n):-9223372036854775808<=n/\n<=9223372036854775807:=bounds_i64 h.2
def QZ{H:Type}(t:Ri)(d:DataW H):Prop:=∀y∈d.weights prog t,y<=reachBytes
theorem vS{H:Type}{ts:List Ri}{b:List (DataW H)}(h:(DataW.weightsEach prog ts b).all (·<=reachBytes)=true)(i:Nat){t:Ri}{d:DataW H}(j:ts[i]?=N t)(l:b[i]?=N d):QZ t d:=
 fun y m=>dh (eP.1 h y (qS j l m))
section
variable {H:Type} {enc:Ri×Q4->H} {P:Program} {w:Q0} {base b0:Nat} {spare:Nat->Bool} {held:Bool} {t:Ri} {v:Q4} {d:DataW H} {p:List MemPlace}
theorem vF{α:Type}{R:Q0->List Q4->α->Prop}(b:P.underlying t=N (.slice e))(i:Value.okWide P w .any b0 t v)(h:DataW.Trod enc P w base spare held t v d p)(j:∀{fuel:Nat} {cs:List Q4},DataW.trod enc P w base spare held fuel t cs=N (d,p)->∃a,R w cs a):∃a,R w [v] a:=by obtain⟨a,len,cap,rfl⟩:=okWide_slice b i;obtain⟨fuel,l⟩:=h;exact j l
theorem J7(b:P.underlying t=N (.int k))(i:Value.okWide P w .any b0 t v)(h:DataW.Trod enc P w base spare held t v d p):∃n,v=I k n/\(Lit.int k n).wf=true:=by obtain⟨m,rfl⟩:=okWide_int b i;obtain⟨fuel,j⟩:=h;obtain⟨n,h1,-,l⟩:=DataW.trod_int b j;exact⟨n,by simpa [Value.cells]using h1,l⟩
end
theorem wX:qb 9 KF:=CM underlying9
def O8:=Cq Y
theorem po:qb 3 O8:=Jb underlying3
def Mo:=yr 1 17592186044416 O8
theorem Mo.view{w:Q0}{v:Q4}{l:List Int}(h:Mo w [v] l):O l<=im/\(∀x∈l,-9223372036854775808<=x/\x<=9223372036854775807)/\gE w v 1 (O l) (l.map fun x=>I Y x):=by
 obtain⟨hm,a,cap,s,hc,m⟩:=h;cases s;refine⟨by unfold im;omega,fun x o=>?_,by simp,a,cap,rfl,hc,fun i d=>?_⟩
 .obtain⟨i,d,rfl⟩:=cZ o;obtain⟨b,off,-,q,-,-,j⟩:=m i d;exact j.i64
 .rw[aB]at d;obtain⟨b,off,rfl,q,hl,r,j⟩:=m i d;refine⟨b,off,rfl,?_⟩;have:=r 0 (by omega);rw[j.1]at this;simpa using this
theorem Br(h:O cs=2):∃a b,cs=[a,b]:=by
 match cs,h with
 | [a,b],_=>exact⟨a,b,rfl⟩
theorem Gu(h:O cs=4):∃a b c d,cs=[a,b,c,d]:=by
 match cs,h with
 | [a,b,c,d],_=>exact⟨a,b,c,d,rfl⟩
theorem On:prog.cellsOf 3=1:=by kernel_rfl
theorem UO:prog.cellsOf 48=1:=by kernel_rfl
theorem Pw:prog.cellsOf 9=1:=by kernel_rfl
theorem Qc:prog.cellsOf 103=2:=by kernel_rfl
theorem QJ:prog.cellsOf 105=4:=by kernel_rfl
theorem UD:prog.cellsOf 51=2:=by kernel_rfl
theorem Qx:prog.cellsOf 49=1:=by kernel_rfl
theorem Om:prog.bytesOf 105=48:=by kernel_rfl
def P6(_:Q0)(cs:List Q4)(k:Int×gw):Prop:=cs=[I Y k.1,.string ⟨List.toArray k.2⟩]/\-9223372036854775808<=k.1/\k.1<=9223372036854775807/\O k.2<=reachBytes
theorem Jc:qb 103 P6:=by intro H enc w base spare held fuel cs x h d;obtain⟨hl,a,ha⟩:=mw underlying103 h d 0 _ rfl po;obtain⟨-,s,b⟩:=mw underlying103 h d 1 _ rfl wX;have ha:O8 w ((cs.drop 0).take (prog.cellsOf 3)) a:=ha;have b:KF w ((cs.drop 1).take (prog.cellsOf 9)) s:=b;rw[On]at ha;rw[Pw]at b;rw[Qc]at hl;obtain⟨c0,c1,rfl⟩:=Br hl;obtain⟨h1,-⟩:=ha;have i:=Cq.i64 ha;obtain⟨j,l⟩:=b;simp at h1 j;subst h1 j;exact⟨(a,s),rfl,i.1,i.2,l⟩
theorem EM(h:n<=reachBytes):n<=im:=au h (by decide)
instance:Inhabited kv:=⟨⟨0,0,[],[]⟩⟩
def QI(_:Q0)(cs:List Q4)(o:kv):Prop:=cs=[I Y o.kind,I Y o.table,.string ⟨List.toArray o.key⟩,.string ⟨List.toArray o.val⟩]/\O o.key<=im/\O o.val<=im/\
 (-9223372036854775808<=o.kind/\o.kind<=9223372036854775807)/\(-9223372036854775808<=o.table/\o.table<=9223372036854775807)
theorem LA:qb 105 QI:=by intro H enc w base spare held fuel cs x h i;obtain⟨hl,a,ha⟩:=mw underlying105 h i 0 _ rfl po;obtain⟨-,k,hk⟩:=mw underlying105 h i 1 _ rfl Jc;obtain⟨-,s,b⟩:=mw underlying105 h i 2 _ rfl wX;have ha:O8 w ((cs.drop 0).take (prog.cellsOf 3)) a:=ha;have hk:P6 w ((cs.drop 1).take (prog.cellsOf 103)) k:=hk;have b:KF w ((cs.drop 3).take (prog.cellsOf 9)) s:=b;rw[On]at ha;rw[Qc]at hk;rw[Pw]at b;rw[QJ]at hl;obtain⟨c0,c1,c2,c3,rfl⟩:=Gu hl;obtain⟨h1,-⟩:=ha;have r:=Cq.i64 ha;obtain⟨d,j,l,m⟩:=hk;obtain⟨o,q⟩:=b;simp at h1 d o;obtain⟨d,u⟩:=d;subst h1 d o u;exact⟨⟨a,k.1,k.2,s⟩,rfl,EM m,EM q,r,j,l⟩
def KD:=yr 4 2932031007402 QI
theorem Je:qb 49 KD:=ug underlying49 QJ (by omega) (fun n h=>by rw[Om]at h;unfold reachBytes at h;omega) LA
theorem K6{w:Q0}{b off:Nat}{d:List Q4}(l:0<C)(hl:O d=n*C)(h:∀i,i<n->∀j,j<C->Rn w ⟨b,off+i*C+j,J⟩=d[i*C+j]?):∀k (hk:k<O d),Rn w ⟨b,off+k,J⟩=N d[k]:=by
 intro k hk;have h1:k / C<n:=Nat.div_lt_of_lt_mul (by rw[Nat.mul_comm];omega);have m:k%C<C:=Nat.mod_lt _ l;have e:k / C*C+k%C=k:=by rw[Nat.mul_comm];exact Nat.div_add_mod k C
 have:=h (k / C) h1 (k%C) m;rw[bT,e]at this;rw[this];exact ah hk
theorem KD.view{w:Q0}{v:Q4}{l:List kv}(h:KD w [v] l):O l<=2932031007402/\uJ l/\jE w v l:=by
 obtain⟨hm,a,cap,y,hc,q⟩:=h;cases y;refine⟨hm,fun o B=>?_,?_⟩
 .obtain⟨i,d,rfl⟩:=cZ B;obtain⟨b,off,-,s,-,-,m⟩:=q i d;exact⟨m.2.1,m.2.2.1⟩
 .refine⟨oy l,a,cap,rfl,hc,fun k hk=>?_⟩;have r:0<O l:=by rw[oy]at hk;omega
  obtain⟨b,off,rfl,-⟩:=q 0 r;refine⟨b,off,rfl,K6 (C:=4) (n:=O l) (by omega) (oy l) (fun i d j u=>?_) k hk⟩;obtain⟨R,D,he,s,hl,x,m⟩:=q i d;cases he;rw[x j u,m.1];obtain⟨e0,E,F,M⟩:=wW l i d
  match j,u with
  | 0,_=>exact e0.symm
  | 1,_=>exact E.symm
  | 2,_=>exact F.symm
  | 3,_=>exact M.symm
def Ps(w:Q0)(cs:List Q4)(d:Nat×List kv):Prop:=∃b,cs=[I .u64 d.1,b]/\d.1<18446744073709551616/\KD w [b] d.2
theorem Ul:qb 51 Ps:=by
 intro H enc w base spare held fuel cs x h b;obtain⟨hl,a,ha⟩:=mw underlying51 h b 0 _ rfl (Jb underlying48);obtain⟨-,k,hk⟩:=mw underlying51 h b 1 _ rfl Je;have ha:Cq .u64 w ((cs.drop 0).take (prog.cellsOf 48)) a:=ha;have hk:KD w ((cs.drop 1).take (prog.cellsOf 49)) k:=hk;rw[UO]at ha;rw[Qx]at hk;rw[UD]at hl;obtain⟨c0,c1,rfl⟩:=Br hl;obtain⟨h1,d⟩:=ha;simp at h1;subst h1;have i:0<=a/\a<18446744073709551616:=by
  simp only[Lit.wf,dQ,dI]at d;have j:IntKind.u64.min=0:=by decide
  have l:IntKind.u64.max=18446744073709551615:=by decide
  omega
 obtain⟨n,rfl⟩:=Int.eq_ofNat_of_zero_le i.1;exact⟨(n,k),c1,rfl,by simp only;omega,hk⟩
theorem LO{H:Type}{enc:Ri×Q4->H}{w:Q0}{base:Nat}{spare:Nat->Bool}{held:Bool}{a b:Int}{p:List MemPlace}(h:DataW.trod enc prog w base spare held fuel 311 cs=N (.agg [.lit (.int .i64 a),.lit (.int .i64 b)],p)):cs=[I Y a,I Y b]:=by
 obtain⟨d,n,-,r,hl,s,l⟩:=DataW.trod_struct underlying311 h;have i:=l 0 _ rfl;have h1:=l 1 _ rfl;have c:prog.cellsOf 311=2:=by kernel_rfl
 have i:DataW.trod enc prog w base spare held n 3 ((cs.drop 0).take (prog.cellsOf 3))=d[0]?:=i;have h1:DataW.trod enc prog w base spare held n 3 ((cs.drop 1).take (prog.cellsOf 3))=d[1]?:=h1;rw[On]at i h1;rw[c]at hl;obtain⟨c0,c1,rfl⟩:=Br hl;have j:d.map (·.1)=[.lit (.int .i64 a),.lit (.int .i64 b)]:=by have:=bm Prod.fst r;simpa using this.symm
 have e0:(d.map (·.1))[0]?=N (.lit (.int .i64 a)):=by rw[j];rfl
 have m:(d.map (·.1))[1]?=N (.lit (.int .i64 b)):=by rw[j];rfl
 rw[bg]at e0 m;obtain⟨u,g0,f0⟩:=cH.1 e0;obtain⟨x,g1,f1⟩:=cH.1 m;rw[g0]at i;rw[g1]at h1;obtain⟨z0,o,rfl,-⟩:=DataW.trod_int underlying3 i;obtain⟨y,q,rfl,-⟩:=DataW.trod_int underlying3 h1;simp at o q f0 f1;rw[o,q,f0,f1]
theorem vj(R:2≤G (Q W))(h:laidMet prog [("overlay/overlay.shapes",Rows.laid_overlay_overlay_shapes)] W):gZ W:=by
 obtain⟨ps,⟨g',t',cs,fuel,p,q,B,C,s,d,_,_⟩,_⟩:=h;have D:prog.globalNamed "overlay/overlay.shapes" = N 1:=by kernel_rfl
 obtain rfl:=Option.some.inj (D.symm.trans B);have S:(prog.globals[1]?).map (·.type)=N 312:=by kernel_rfl
 obtain rfl:=Option.some.inj (S.symm.trans C);have ce:prog.cellsOf 311=2:=by kernel_rfl
 have ct:prog.cellsOf 312=6:=by kernel_rfl
 have l:∀i a b,((Rows.laid_overlay_overlay_shapes:DataW Unit)=.agg [.agg [.lit (.int .i64 6),.lit (.int .i64 4)],.agg [.lit (.int .i64 5),.lit (.int .i64 4)],.agg [.lit (.int .i64 2),.lit (.int .i64 2)]])->
   ([.agg [.lit (.int .i64 6),.lit (.int .i64 4)],.agg [.lit (.int .i64 5),.lit (.int .i64 4)],.agg [.lit (.int .i64 2),.lit (.int .i64 2)]]:List (DataW Unit))[i]?=N (.agg [.lit (.int .i64 a),.lit (.int .i64 b)])->
   cs[i*2]?=N (I Y a)/\cs[i*2+1]?=N (I Y b):=by
  intro i a b u E;rw[u]at d;cases fuel with
  | zero=>simp[DataW.trod]at d
  | succ n=>
   simp only[DataW.trod,underlying312,ce,ct]at d;split at d
   .obtain⟨Z,hm,U⟩:=cH.1 d;have m:=bm Prod.fst U;simp only[DataW.agg.injEq]at m;rw[<-m,bg]at E;obtain⟨y,F,o⟩:=cH.1 E;have M:i<3:=by have h1:=(aH.1 F).1;have V:=Lib.mapM_length hm;rw[List.length_range]at V;omega
    obtain⟨b',r,X⟩:=Lib.mapM_at hm i i (by rw[List.getElem?_range M]);rw[F]at r;obtain rfl:=Option.some.inj r;obtain⟨y1,y2⟩:=y;simp only at o;subst o;have:=LO X;have e0:=bm (·[0]?) this;have x:=bm (·[1]?) this;simp only[List.getElem?_take,dP]at e0 x;simp at e0 x;exact⟨e0,x⟩
   .cases d
 have j:=World.var?_cell D s;have r0:=l 0 6 4 rfl rfl;have r1:=l 1 5 4 rfl rfl;have r2:=l 2 2 2 rfl rfl;exact⟨R,(j 0).trans (by simpa using r0.1),(j 1).trans (by simpa using r0.2),(j 2).trans (by simpa using r1.1),(j 3).trans (by simpa using r1.2),(j 4).trans (by simpa using r2.1),(j 5).trans (by simpa using r2.2)⟩
theorem BX(os:Os)(args:Array Q4):laidMet prog [("overlay/overlay.shapes",Rows.laid_overlay_overlay_shapes)] ((qe os).forCall (fun _ _=>0) ⟨#[],args,[]⟩).memory:=
 laidMet_of_run' 8 (by kernel_rfl) (by kernel_rfl)
end Go.Proofs.YtkkfmkhbdoeglabGreatDoor
