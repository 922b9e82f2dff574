/- Lemmas of the proof. No condition. -/
import Derived.Test.YtkkfmkhbdoeglabGreatDoorG31
namespace Go.Proofs.YtkkfmkhbdoeglabGreatDoor
open Go renaming World->Q0,Value->Q4
open Go.IntKind renaming i64->Y
open Go.Value renaming int->I,slice->Q6,string->Q7
open Go.World renaming heap->Q
open List renaming length->O
open _root_.Array renaming size->G
open Go.Proofs.Tryz
open Go.RowKit Go.Shelf
variable{k:Nat}{w wr:Q0}
theorem Vy:zj (-1):=⟨by decide,by decide⟩
def Vu(x:yo×Q4):List Q4:=[I Y x.1.kind,I Y x.1.A,I Y x.1.B,I Y x.1.C,Q7 ⟨List.toArray x.1.S⟩,x.2]
def Vp(l:List (yo×Q4)):List Q4:=l.flatMap Vu
theorem Vz:∀(l:List (yo×Q4)) (i:Nat) (h:i<O l) (j:Nat),j<6->(Vp l)[i*6+j]?=(Vu l[i])[j]?
 | x::l,0,_,j,b=>by show(Vu x++Vp l)[0*6+j]?=_;rw[cV (by show 0*6+j<6;omega),Nat.zero_mul,bY];rfl
 | x::l,i+1,h,j,b=>by show(Vu x++Vp l)[(i+1)*6+j]?=_;rw[cT (by show 6<=_;omega),show(i+1)*6+j-(Vu x).length=i*6+j from by show(i+1)*6+j-6=_;omega];exact Vz l i (by simpa using h) j b
theorem gS.script{base:Nat}{v:Q4}{l:List (yo×Q4)}(h:gS w base 6 v (O l) (Vp l))(hq:∀x∈l,x.1.mN/\jE w x.2 x.1.iS):JY w v (l.map (·.1)) (l.map (·.2)):=by
 refine⟨by simp,?_,fun i b=>?_⟩
 .obtain⟨hl,⟨rfl,m⟩|⟨g,off,cap,rfl,-,-,hc,-,o,-⟩⟩:=h
  .exact⟨none,0,by simp[m],by simp[m],fun i b=>absurd b (by simp[m])⟩
  .refine⟨_,cap,by rw[aB],by rw[aB];exact hc,fun i b=>⟨g,off,rfl,?_⟩⟩;rw[aB]at b;have key:∀j,j<6->World.cell? w ⟨g,off+(i*6+j),none⟩=(Vu l[i])[j]?:=fun j q=>by
    have d:i*6+j<(Vp l).length:=by rw[hl];omega
    rw[<-Vz l i b j q,o _ d,ah d]
   simp only[eA,aD,bg,ah b,et,bZ];exact⟨key 0 (by omega),key 1 (by omega),key 2 (by omega),key 3 (by omega),key 4 (by omega),key 5 (by omega)⟩
 .rw[aB]at b;simp only[eA,aD,bg,ah b,et,bZ];exact hq l[i] (bq b)
def Vn(w:Q0)(k:Nat)(b:Q4)(wr:Q0):Prop:=∃l:List (yo×Q4),O l<=k/\gS wr (G (Q w)) 6 b (O l) (Vp l)/\gQ wr b 88/\(∀x∈l,x.1.mN/\jE w x.2 x.1.iS)/\Below (G (Q w)) w wr
theorem Vn.start(w:Q0):Vn w 0 (Q6 none 0 0) w:=⟨[],aq _,gS.nil _ _ _,gQ.nil _ _,by simp,kz⟩
theorem Vn.mono{m:Nat}{b:Q4}(h:Vn w k b wr)(hk:k<=m):Vn w m b wr:=by obtain⟨l,h1,d⟩:=h;exact⟨l,by omega,d⟩
theorem Vn.below{w':Q0}{i:Q4}(h:Vn w k i wr)(d:Below (G (Q wr)) wr w'):Vn w k i w':=by obtain⟨l,h1,m,o,q,r⟩:=h;exact⟨l,h1,m.below d,o.frame fun b _ j=>d.block b j,q,r.tn d⟩
theorem VA:(prog.info? 88).map (fun i=>(i.zero,i.size,i.bytes))=some (some (.agg #[I Y 0,I Y 0,I Y 0,I Y 0,Q7 ⟨#[]⟩,Q6 none 0 0]),6,72):=by kernel_rfl
theorem Vw{b:Nat}{x:yo×Q4}(h:w.heap[b]?=some (.cells #[I Y x.1.kind,I Y x.1.A,I Y x.1.B,I Y x.1.C,Q7 ⟨List.toArray x.1.S⟩,x.2] 88 (0,0))):gE w (Q6 (some ⟨b,0,none⟩) 1 1) 6 1 (Vu x):=by refine⟨rfl,_,1,rfl,aq _,fun i d=>⟨_,0,rfl,?_⟩⟩;have j:i<6:=d;rw[bY,aP _ _ i _ _ _ h];show(Vu x).toArray[i]?=_;rw[bU];exact ah d
theorem Vo{iS:Array Oper}{rest:List Oper}{o:Oper}{a:Act}{b:Exit->Act->Q0->Prop}{W:Q0}(m:o.guard=none)(s y:Operand)(C:o.op=.call {callee:=.builtin .append,args:=#[s,y],argTypes:=#[84,84]})(d:Q4)(D:a.eval s=d)(h:Vn w k d W)(hk:k<=300)(x:yo×Q4)(E:gE W (a.eval y) 6 1 (Vu x))(q:x.2.oneCell'=true)(F:x.1.mN/\jE w x.2 x.1.iS)(M:∀v' w',Vn w (k+1) v' w'->wpList prog iS b rest (a.put o.dst v') w'):wpList prog iS b (o::rest) a W:=by
 obtain⟨l,h1,r,R,S,i⟩:=h;refine wpList_append_own m s y 84 88 6 72 _ underlying84 VA rfl (by omega) C (G (Q w)) d (O l) (Vp l) D r R 1 (Vu x) E (fun u B=>?_) (by omega) (by omega) i.size fun v' w' g1 g2 g3 g4=>M v' w' ⟨l++[x],by simp;omega,?_,g3,fun z U=>?_,i.grown g2 i.size fun j e=>?_⟩
 .simp only[Vu,aZ,eU,or_false]at B;rcases B with rfl|rfl|rfl|rfl|rfl|rfl<;>first|rfl|exact q
 .have e:Vp (l++[x])=Vp l++Vu x:=by simp[Vp]
  rw[e,ab];exact g1
 .rcases bQ.1 U with e|e
  .exact S z e
  .rw[ay.1 e];exact F
 .exact r.ie j e
theorem Vs(o:Ad)(b last:Int)(l:List Int)(j:Q4)(B:gE w j 1 (O l) (l.map fun i=>I Y i))(hl:O l<=im)(q:gZ w)(r:kM w){m:Q4}(h:Vn w k m wr):
  Calls prog 42 #[I Y b,j,m,I Y last] wr fun e w'=>e=.returned (.bool true)/\Below (G (Q w)) w w':=by
 obtain⟨D,h1,C,E,s,d⟩:=h;exact(xM o b last l j m _ _ wr (B.below d) hl (q.new d) (r.new d) (C.script fun x u=>⟨(s x u).1,(s x u).2.below d⟩)).mono fun e w' y=>⟨y.1,d.tn y.2⟩
end Go.Proofs.YtkkfmkhbdoeglabGreatDoor
