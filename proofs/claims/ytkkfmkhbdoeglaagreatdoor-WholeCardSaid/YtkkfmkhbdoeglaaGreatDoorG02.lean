/- A part of what is proved here: lemmas and contracts of single functions. No condition but those that each names. -/
import Derived.Test.YtkkfmkhbdoeglaaGreatDoorG00
import Derived.BigQuiet
import Derived.BigRegion
import Derived.Deep.AppendSrc
import Derived.Deep.OwnRows
import Derived.Deep.QuietTactic
import Derived.Deep.RegionHeld3
import Derived.Handy
import Derived.Lib.Hide
import Derived.LoopTactic
import Derived.Maps.OwnSet
import Derived.Test.YtkkfmkhbdoeglaaGreatDoorProg
import Derived.WalkKit
import Derived.WalkLawsBesides
import Derived.WalkSpells
import Derived.WideKeyEntry
import Derived.Test.YtkkfmkhbdoeglaaGreatDoorG01
set_option maxHeartbeats 1000000
set_option maxRecDepth 100000
namespace Go.Proofs.YtkkfmkhbdoeglaaGreatDoor
open Go.RowKit
def gx:Nat:=140737488355000
def u8s (l:List UInt8):List Value:=l.map fun x => .int .u8 (x.toNat:Int)
theorem iR (l:List UInt8):(u8s l).length=l.length:=by simp [u8s]
theorem jV (l m:List UInt8):u8s (l++m)=u8s l++u8s m:=by simp [u8s]
theorem Hb (l:List UInt8) (i:Nat) (h:i<l.length):(u8s l)[i]?=some (.int .u8 (l[i].toNat:Int)):=by simp [u8s,h]
theorem fP {w:World} {a:Addr} {v:Value} (h:w.cell? a=some v):a.block<w.heap.size:=by
 unfold World.cell? at h
 split at h
 ·rename_i heq
  exact (cx.1 heq).1
 ·cases h
def fR (w:World) (v:Value) (k n:Nat) (xs:List Value):Prop :=
 xs.length=n*k∧∃ a cap,v = .slice a n cap∧n≤cap∧∀ i (h:i<xs.length),∃ b off,a=some ⟨b,off,none⟩∧w.cell? ⟨b,off+i,none⟩=some xs[i]
def BytesAt (w:World) (v:Value) (l:List UInt8):Prop:=fR w v 1 l.length (u8s l)
theorem BytesAt.opened {w:World} {v:Value} {l:List UInt8} (h:BytesAt w v l) :
  ∃ a cap,v = .slice a l.length cap∧l.length≤cap∧∀ i (h:i<l.length),∃ b off,a=some ⟨b,off,none⟩∧w.cell? ⟨b,off+i,none⟩=some (.int .u8 (l[i].toNat:Int)):=by
 obtain ⟨_,a,cap,rfl,hc,j⟩:=h
 refine ⟨a,cap,rfl,hc,fun i m => ?_⟩
 obtain ⟨b,off,rfl,d⟩:=j i (by rw [iR];exact m)
 exact ⟨b,off,rfl,by rw [d];simp [u8s]⟩
theorem BytesAt.mk' {w:World} {a:Option Addr} {l:List UInt8} {cap:Nat} (hc:l.length≤cap) (m:∀ i (h:i<l.length),∃ b off,a=some ⟨b,off,none⟩∧w.cell? ⟨b,off+i,none⟩=some (.int .u8 (l[i].toNat:Int))) :
  BytesAt w (.slice a l.length cap) l:=by
 refine ⟨by simp [u8s],a,cap,rfl,hc,fun i j => ?_⟩
 obtain ⟨b,off,rfl,d⟩:=m i (by rw [iR] at j;exact j)
 exact ⟨b,off,rfl,by rw [d];simp [u8s]⟩
theorem fR.frame {w w':World} {v:Value} {k n:Nat} {xs:List Value} (h:fR w v k n xs) (j:∀ b,v.ownBlock=some b→b<w.heap.size→w'.heap[b]?=w.heap[b]?):fR w' v k n xs:=by
 obtain ⟨hl,a,cap,rfl,hc,l⟩:=h
 refine ⟨hl,a,cap,rfl,hc,fun i m => ?_⟩
 obtain ⟨b,off,rfl,d⟩:=l i m
 exact ⟨b,off,rfl,(aU (w:=w) (j b rfl (fP d))).trans d⟩
theorem fR.below {w w':World} {v:Value} {k n:Nat} {xs:List Value} (h:fR w v k n xs) (i:Below w.heap.size w w'):fR w' v k n xs :=
 h.frame fun b _ d=>i.block b d
theorem BytesAt.below {w w':World} {v:Value} {l:List UInt8} (h:BytesAt w v l) (b:Below w.heap.size w w'):BytesAt w' v l:=fR.below h b
theorem fR.nil (w:World) (a:Option Addr) (k cap:Nat):fR w (.slice a 0 cap) k 0 []:=⟨by simp,a,cap,rfl,aL _,fun i h=>absurd h (by simp)⟩
theorem BytesAt.nil (w:World) (a:Option Addr) (cap:Nat):BytesAt w (.slice a 0 cap) []:=fR.nil w a 1 cap
theorem fR.src {P:Program} {w:World} {v:Value} {k n:Nat} {xs:List Value} {i l:TypeId} (hk:P.underlying i=some (.slice l)) (h:fR w v k n xs) (h1:∀ u∈xs,u.oneCell'=true):Src P k i v n xs w:=by
 obtain ⟨hl,a,cap,rfl,hc,d⟩:=h
 cases a with
 | none =>
  have:xs=[]:=by
   cases xs with
   | nil=>rfl
   | cons x xs=>obtain ⟨b,off,s,_⟩:=d 0 (by simp);cases s
  subst this
  have y:(Builtin.firstCells k n (.slice none n cap)).run P w = .ok ([]:List Value).toArray w:=ff w k n n cap
  have m:(Builtin.firstCells k n (.slice none n cap)).run P w.drew = .ok ([]:List Value).toArray w.drew:=ff w.drew k n n cap
  exact ⟨.inl ⟨l,hk⟩,fun _=>rfl,y,m,hl,h1⟩
 | some a =>
  by_cases o:xs=[]
  ·subst o
   exact Src.ofSlice w hk a n cap [] hl (fun j u hu=>by simp at hu) h1
  ·obtain ⟨b,off,ha,_⟩:=d 0 (List.length_pos_iff.2 o)
   obtain rfl:=Option.some.inj ha
   refine Src.ofSlice w hk _ n cap xs hl (fun j u hu => ?_) h1
   obtain ⟨B,C⟩:=aG.1 hu
   obtain ⟨E,D,q,r⟩:=d j B
   cases q
   rw [←C]
   rw [eW]
   exact r
def OwnS (w:World) (base k:Nat) (v:Value) (n:Nat) (xs:List Value):Prop :=
 xs.length=n*k∧
 ((v = .slice none 0 0∧n=0)∨
  ∃ g off cap,v = .slice (some ⟨g,off,none⟩) n cap∧base≤g∧g<w.heap.size∧n≤cap∧cap≤maxLen∧
   (∀ i (h:i<xs.length),w.cell? ⟨g,off+i,none⟩=some xs[i])∧
   (∀ i,i<cap*k→(w.cell? ⟨g,off+i,none⟩).isSome=true∧w.frozen? ⟨g,off+i,none⟩=false))
theorem OwnS.sliceAt {w:World} {base k:Nat} {v:Value} {n:Nat} {xs:List Value} (h:OwnS w base k v n xs):fR w v k n xs:=by
 obtain ⟨hl,⟨rfl,rfl⟩ | ⟨g,off,cap,rfl,_,_,b,_,hc,_⟩⟩:=h
 ·obtain rfl:xs=[]:=bK (by simpa using hl)
  exact fR.nil w none k 0
 ·exact ⟨hl,_,cap,rfl,b,fun i d=>⟨g,off,rfl,hc i d⟩⟩
theorem OwnS.nil (w:World) (base k:Nat):OwnS w base k (.slice none 0 0) 0 []:=⟨by simp,.inl ⟨rfl,rfl⟩⟩
theorem OwnS.mono {w:World} {base b k:Nat} {v:Value} {n:Nat} {xs:List Value} (h:OwnS w base k v n xs) (d:b≤base):OwnS w b k v n xs:=by
 obtain ⟨hl,h | ⟨g,off,cap,rfl,i,r⟩⟩:=h
 ·exact ⟨hl,.inl h⟩
 ·exact ⟨hl,.inr ⟨g,off,cap,rfl,aI d i,r⟩⟩
theorem OwnS.frame {w w':World} {base k:Nat} {v:Value} {n:Nat} {xs:List Value} (h:OwnS w base k v n xs) (hs:w.heap.size≤w'.heap.size) (l:∀ b,v.ownBlock=some b→b<w.heap.size→w'.heap[b]?=w.heap[b]?):OwnS w' base k v n xs:=by
 obtain ⟨hl,h | ⟨g,off,cap,rfl,m,j,o,hm,hc,q⟩⟩:=h
 ·exact ⟨hl,.inl h⟩
 ·have e:=l g rfl j
  refine ⟨hl,.inr ⟨g,off,cap,rfl,m,by omega,o,hm,fun i d => ?_,fun i d => ?_⟩⟩
  ·rw [aU (a:=⟨g,off+i,none⟩) e];exact hc i d
  ·rw [aU (a:=⟨g,off+i,none⟩) e,cU (a:=⟨g,off+i,none⟩) e];exact q i d
theorem OwnS.below {w w':World} {base k:Nat} {v:Value} {n:Nat} {xs:List Value} (h:OwnS w base k v n xs) (d:Below w.heap.size w w'):OwnS w' base k v n xs :=
 h.frame d.size fun b _ i=>d.block b i
theorem OwnS.grown {w w':World} {base k:Nat} {v:Value} {n:Nat} {xs:List Value} {row:Option Nat} (h:OwnS w base k v n xs) (d:w.grownBy w' row) (j:∀ b,v.ownBlock=some b→row≠some b):OwnS w' base k v n xs :=
 h.frame d.size fun b l i=>d.block b i (fun e=>j b l e.symm)
theorem fR.grown {w w':World} {v:Value} {k n:Nat} {xs:List Value} {row:Option Nat} (h:fR w v k n xs) (i:w.grownBy w' row) (j:∀ b,v.ownBlock=some b→row≠some b):fR w' v k n xs :=
 h.frame fun b l d=>i.block b d (fun e=>j b l e.symm)
theorem fL (w:World) (o:Obj):(w.alloc o).heap[w.heap.size]?=some o:=by
 show (w.heap.push o)[w.heap.size]?=_
 simp
theorem lS (w:World) (C:Array Value) (e:TypeId) (fz:Nat×Nat) (i:Nat):(w.alloc (.cells C e fz)).cell? ⟨w.heap.size,i,none⟩=C[i]?:=by
 unfold World.cell?
 simp only [fL]
 rfl
theorem B8 (w:World) (C:Array Value) (e:TypeId) (lo b i:Nat):(w.alloc (.cells C e (lo,b))).frozen? ⟨w.heap.size,i,none⟩=(decide (lo≤i)&&decide (i<b)):=by
 unfold World.frozen?
 simp only [fL]
theorem OwnS.new (w:World) (C:Array Value) (e:TypeId) (lo d:Nat) (base k n cap:Nat) (l:base≤w.heap.size) (j:n≤cap) (hm:cap≤maxLen) (hs:cap*k≤C.size) (o:d≤lo∨cap*k≤lo) :
  OwnS (w.alloc (.cells C e (lo,d))) base k (.slice (some ⟨w.heap.size,0,none⟩) n cap) n (C.toList.take (n*k)):=by
 have m:n*k≤cap*k:=cS _ j
 refine ⟨by rw [aA,dh];omega,.inr ⟨w.heap.size,0,cap,rfl,l,by simp,j,hm,fun i b => ?_,fun i b => ?_⟩⟩
 ·rw [bF,lS]
  rw [aA,dh] at b
  have:i<C.size:=by omega
  simp [this]
 ·rw [bF,lS,B8]
  have:i<C.size:=by omega
  refine ⟨by simp [this],?_⟩
  simp only [Bool.and_eq_false_iff,decide_eq_false_iff_not]
  omega
theorem q8 (b:Nat):∀ (d:List Value) (o:Nat) (w:World) (j:Nat),j≠b→(w.setCells b o d).heap[j]?=w.heap[j]?
 | [],_,_,_,_=>rfl
 | v::d,o,w,j,h=>by
  simp only [World.setCells]
  rw [q8 b d _ _ j h]
  exact Below.heap_setCell w ⟨b,o,none⟩ v j h
theorem size_setCells (b:Nat):∀ (d:List Value) (o:Nat) (w:World),(w.setCells b o d).heap.size=w.heap.size
 | [],_,_=>rfl
 | v::d,o,w=>by
  simp only [World.setCells]
  rw [size_setCells b d]
  simp [World.setCell]
theorem oI (b:Nat):∀ (d:List Value) (o:Nat) (w:World),(w.setCells b o d).os=w.os∧(w.setCells b o d).tape=w.tape∧(w.setCells b o d).output=w.output
 | [],_,_=>⟨rfl,rfl,rfl⟩
 | v::d,o,w=>by
  simp only [World.setCells]
  exact oI b d (o+1) (w.setCell ⟨b,o,none⟩ v)
theorem l9 (w:World) (b o:Nat) (d:List Value):w.grownBy (w.setCells b o d) (some b) :=
 have h:=oI b d o w
 ⟨h.1,h.2.1,h.2.2,Nat.le_of_eq (size_setCells b d o w).symm,fun k _ hk=>q8 b d o w k (fun e=>hk (by rw [e]))⟩
theorem jT {P:Program} (w:World) (base:Nat) (t s ty e:TypeId) (i:TypeInfo) (z:Value) (G:P.underlying t=some (.slice e)) (I:P.info? e=some i) (V:i.zero=some z) (M:z.cells.size=i.size) (_hsz:0<i.size)
  (v:Value) (n:Nat) (xs:List Value) (l:OwnS w base i.size v n xs) (x:Value) (m:Nat) (news:List Value) (hs:Src P i.size s x m news w)
  (N:n+m≤maxLen) (y:(n+m)*i.bytes≤140737488355328) (D:base≤w.heap.size) :
  ∃ v' w',(Builtin.append_ #[t,s] ty #[v,x]).run P w = .ok v' w'∧OwnS w' base i.size v' (n+m) (xs++news)∧w.grownBy w' v.ownBlock∧
   ((∃ g off cap,v = .slice (some ⟨g,off,none⟩) n cap∧v' = .slice (some ⟨g,off,none⟩) (n+m) cap∧w'=w.setCells g (off+n*i.size) news)∨v' = .slice none 0 0∨∃ cap,v' = .slice (some ⟨w.heap.size,0,none⟩) (n+m) cap∧Below w.heap.size w w'):=by
 have hmx:maxLen=9223372036854775807:=rfl
 have hlen:(xs++news).length=(n+m)*i.size:=by rw [ar,l.1,hs.newsLen,Nat.add_mul]
 have grown:∀ (b:Option Addr) (fW:Nat),fW<n+m→(Builtin.firstCells i.size n (.slice b n fW)).run P w.drew = .ok xs.toArray w.drew→∀ (row:Option Nat),
   ∃ v' w',(Builtin.append_ #[t,s] ty #[.slice b n fW,x]).run P w = .ok v' w'∧OwnS w' base i.size v' (n+m) (xs++news)∧w.grownBy w' row∧∃ cap,v' = .slice (some ⟨w.heap.size,0,none⟩) (n+m) cap∧Below w.heap.size w w':=by
  intro b fW O B row
  have J:=run_append_grow_src (P:=P) w t s ty e i z G I V b n fW xs B x m news hs O (by omega) (growslice_fits O y)
  have Q:=grownCap_ge w (n+m) fW e
  have C:grownCap w (n+m) fW e≤maxLen:=grownCap_le_maxLen w (n+m) fW e N
  refine ⟨_,_,J,?_,⟨rfl,rfl,rfl,by simp,fun k hk _=>heap_alloc_old w.drew _ hk⟩,_,rfl,⟨rfl,rfl,rfl,by simp,fun k hk=>heap_alloc_old w.drew _ hk⟩⟩
  have W:((xs++news).toArray++Builtin.zeroCells z.cells (grownCap w (n+m) fW e-(n+m))).size=grownCap w (n+m) fW e*i.size:=by
   rw [Array.size_append,dF,hlen,size_zeroCells,M,←Nat.add_mul]
   congr 1
   omega
  have:=OwnS.new w.drew ((xs++news).toArray++Builtin.zeroCells z.cells (grownCap w (n+m) fW e-(n+m))) e 0 0 base i.size (n+m) (grownCap w (n+m) fW e) D Q C (Nat.le_of_eq W.symm) (.inl (ah _))
  have X:((xs++news).toArray++Builtin.zeroCells z.cells (grownCap w (n+m) fW e-(n+m))).toList.take ((n+m)*i.size)=xs++news:=by
   rw [Array.toList_append,←hlen]
   exact ep
  rw [X] at this
  exact this
 obtain ⟨E,l⟩:=l
 rcases l with ⟨rfl,rfl⟩ | ⟨g,off,cap,rfl,R,S,ag,C,r,d⟩
 ·have Y:xs=[]:=bK (by simpa using E)
  subst Y
  by_cases hm:m=0
  ·subst hm
   have Z:news=[]:=bK (by simpa using hs.newsLen)
   subst Z
   refine ⟨.slice none 0 0,w,?_,OwnS.nil w base i.size,⟨rfl,rfl,rfl,ah _,fun _ _ _=>rfl⟩,.inr (.inl rfl)⟩
   have hl:=hs.len w
   have hc:=hs.cells
   rcases hs.kind with ⟨e',hk⟩ | hk <;> simp [Builtin.append_,aN G,aN hk,sizeOf,typeInfo,I,hl,hc]
  ·obtain ⟨v',w',h1,h2,h3,h4⟩:=grown none 0 (by omega) (ff w.drew i.size 0 0 0) none
   exact ⟨v',w',h1,h2,h3,.inr (.inr h4)⟩
 ·by_cases o:n+m≤cap
  ·have ak:n*i.size+news.length≤cap*i.size:=by rw [hs.newsLen,←Nat.add_mul];exact cS _ o
   have hc:∀ j,j<news.length→(w.cell? ⟨g,off+n*i.size+j,none⟩).isSome=true:=fun j q=>by
    have:=(d (n*i.size+j) (by omega)).1
    rw [aW];exact this
   have B:∀ j,j<news.length→w.frozen? ⟨g,off+n*i.size+j,none⟩=false:=fun j q=>by
    have:=(d (n*i.size+j) (by omega)).2
    rw [aW];exact this
   have J:=run_append_room_src (P:=P) w t s ty e i G I g off n cap x m news hs o hc B
   refine ⟨_,_,J,⟨hlen,.inr ⟨g,off,cap,rfl,R,by rw [size_setCells];exact S,o,C,fun j q => ?_,fun j q => ?_⟩⟩,l9 w g _ _,.inl ⟨g,off,cap,rfl,rfl,rfl⟩⟩
   ·by_cases F:j<xs.length
    ·rw [World.cell?_setCells_out g news (off+n*i.size) w ⟨g,off+j,none⟩ (fun _ _ => .inl (by simp only;omega)),r j F,cX F]
    ·have U:j-xs.length<news.length:=by rw [ar] at q;omega
     have:=World.cell?_setCells_in g news (off+n*i.size) w hc (j-xs.length) U
     rw [show off+n*i.size+(j-xs.length)=off+j by omega] at this
     rw [this,dK (by omega)]
   ·rw [World.frozen?_setCells]
    refine ⟨?_,(d j q).2⟩
    by_cases aa:off+n*i.size≤off+j∧off+j<off+n*i.size+news.length
    ·have:=World.cell?_setCells_in g news (off+n*i.size) w hc (j-n*i.size) (by omega)
     rw [show off+n*i.size+(j-n*i.size)=off+j by omega] at this
     rw [this];rfl
    ·rw [World.cell?_setCells_out g news (off+n*i.size) w ⟨g,off+j,none⟩ (fun _ _=>by simp only;omega)]
     exact (d j q).1
  ·have B:(Builtin.firstCells i.size n (.slice (some ⟨g,off,none⟩) n cap)).run P w.drew = .ok xs.toArray w.drew:=by
    refine run_firstCells_some w.drew i.size n ⟨g,off,none⟩ n cap xs E (fun j u hu => ?_)
    obtain ⟨q,hv⟩:=aG.1 hu
    rw [←hv]
    rw [eW]
    exact r j q
   obtain ⟨v',w',h1,h2,h3,h4⟩:=grown (some ⟨g,off,none⟩) cap (by omega) B (some g)
   exact ⟨v',w',h1,h2,h3,.inr (.inr h4)⟩
theorem og {P:Program} {o:Oper} {a:Act} {K:Act→World→Prop} {Q:Exit→Act→World→Prop} {w:World} (s x:Operand) (t j:TypeId)
  (y:o.op = .call {callee := .builtin .append,args:=#[s,x],argTypes:=#[t,j]})
  (base k:Nat) (e:TypeId) (i:TypeInfo) (z:Value) (B:P.underlying t=some (.slice e)) (C:P.info? e=some i) (D:i.zero=some z) (hk:i.size=k) (q:z.cells.size=i.size) (r:0<i.size)
  (v:Value) (n:Nat) (xs:List Value) (E:a.eval s=v) (l:OwnS w base k v n xs) (m:Nat) (news:List Value) (hs:Src P k j (a.eval x) m news w)
  (u:n+m≤maxLen) (b:(n+m)*i.bytes≤140737488355328) (d:base≤w.heap.size)
  (h:∀ v' w',OwnS w' base k v' (n+m) (xs++news)→w.grownBy w' v.ownBlock→
   ((∃ g off cap,v = .slice (some ⟨g,off,none⟩) n cap∧v' = .slice (some ⟨g,off,none⟩) (n+m) cap∧w'=w.setCells g (off+n*k) news)∨v' = .slice none 0 0∨∃ cap,v' = .slice (some ⟨w.heap.size,0,none⟩) (n+m) cap∧Below w.heap.size w w')→
   K (a.put o.dst v') w'):o.wp P a w K Q:=by
 subst hk
 obtain ⟨v',w',F,h1,h2,h3⟩:=jT (P:=P) w base t j o.type e i z B C D q r v n xs l (a.eval x) m news hs u b d
 unfold Oper.wp execOp
 simp only [y,resolve,invoke,builtin,bY,fG,bQ,eF,bq,du,E,F]
 exact h v' w' h1 h2 h3
theorem ka {P:Program} {ops:Array Oper} {rest:List Oper} {o:Oper} {a:Act} {Q:Exit→Act→World→Prop} {w:World} (q:o.guard=none) (s x:Operand) (t j:TypeId)
  (B:o.op = .call {callee := .builtin .append,args:=#[s,x],argTypes:=#[t,j]})
  (base k:Nat) (e:TypeId) (i:TypeInfo) (z:Value) (C:P.underlying t=some (.slice e)) (D:P.info? e=some i) (E:i.zero=some z) (hk:i.size=k) (r:z.cells.size=i.size) (u:0<i.size)
  (v:Value) (n:Nat) (xs:List Value) (F:a.eval s=v) (l:OwnS w base k v n xs) (m:Nat) (news:List Value) (hs:Src P k j (a.eval x) m news w)
  (y:n+m≤maxLen) (b:(n+m)*i.bytes≤140737488355328) (d:base≤w.heap.size)
  (h:∀ v' w',OwnS w' base k v' (n+m) (xs++news)→w.grownBy w' v.ownBlock→
   ((∃ g off cap,v = .slice (some ⟨g,off,none⟩) n cap∧v' = .slice (some ⟨g,off,none⟩) (n+m) cap∧w'=w.setCells g (off+n*k) news)∨v' = .slice none 0 0∨∃ cap,v' = .slice (some ⟨w.heap.size,0,none⟩) (n+m) cap∧Below w.heap.size w w')→
   wpList P ops Q rest (a.put o.dst v') w'):wpList P ops Q (o::rest) a w:=by
 subst hk
 obtain ⟨v',w',G,h1,h2,h3⟩:=jT (P:=P) w base t j o.type e i z C D E r u v n xs l (a.eval x) m news hs y b d
 refine fc q fun K hK => ?_
 unfold Oper.wp execOp
 simp only [B,resolve,invoke,builtin,bY,fG,bQ,eF,bq,du,F,G]
 exact hK _ _ (h v' w' h1 h2 h3)
theorem oc (l:List UInt8):∀ u∈u8s l,u.oneCell'=true:=by
 intro u hu
 obtain ⟨x,_,rfl⟩:=aB.1 hu
 rfl
theorem OwnS.bytes {w:World} {base:Nat} {v:Value} {n:Nat} {l:List UInt8} (h:OwnS w base 1 v n (u8s l)):BytesAt w v l:=by
 have b:n=l.length:=by have:=h.1;rw [iR] at this;omega
 subst b
 exact h.sliceAt
theorem OwnS.fU {w:World} {base k:Nat} {v:Value} {n:Nat} {xs:List Value} (h:OwnS w base k v n xs):∀ g,v.ownBlock=some g→base≤g:=by
 intro g b
 obtain ⟨_,⟨rfl,_⟩ | ⟨i,off,cap,rfl,d,_⟩⟩:=h
 ·cases b
 ·cases b;exact d
theorem iv {w w':World} {base k:Nat} {v:Value} {n:Nat} {xs:List Value} (h:OwnS w base k v n xs) (d:w.grownBy w' v.ownBlock) (b:base≤w.heap.size):Below base w w' :=
 (Below.refl base w).grown d b h.fU
theorem p7:(Tryz.prog.info? 5).map (fun i=>(i.zero,i.size,i.bytes))=some (some (.int .u8 0),1,1):=by kernel_rfl
theorem ml {ops:Array Oper} {rest:List Oper} {o:Oper} {a:Act} {Q:Exit→Act→World→Prop} {w:World} (j:o.guard=none) (s x:Operand)
  (u:o.op = .call {callee := .builtin .append,args:=#[s,x],argTypes:=#[59,59]})
  (base:Nat) (v:Value) (n:Nat) (l:List UInt8) (y:a.eval s=v) (d:OwnS w base 1 v n (u8s l)) (m:List UInt8) (hs:BytesAt w (a.eval x) m)
  (hlen:n+m.length≤140737488355328) (b:base≤w.heap.size)
  (h:∀ v' w',OwnS w' base 1 v' (n+m.length) (u8s (l++m))→w.grownBy w' v.ownBlock→Below base w w'→
   wpList Tryz.prog ops Q rest (a.put o.dst v') w'):wpList Tryz.prog ops Q (o::rest) a w:=by
 obtain ⟨i0,B,q,i,r⟩:=dP p7
 have hmx:maxLen=9223372036854775807:=rfl
 refine ka j s x _ _ u base 1 5 i0 (.int .u8 0) Tryz.underlying59 B q i (by rw [i];rfl) (by omega) v n (u8s l) y d m.length (u8s m) (hs.src Tryz.underlying59 (oc m)) (by omega) (by rw [r];omega) b (fun v' w' h1 h2 _ => ?_)
 rw [←jV] at h1
 exact h v' w' h1 h2 (iv d h2 b)
theorem BytesAt.sub {w:World} {b off cap:Nat} {l:List UInt8} (h:BytesAt w (.slice (some ⟨b,off,none⟩) l.length cap) l) (i j:Nat) (q:i≤j) (r:j≤l.length) :
  BytesAt w (.slice (some ⟨b,off+i,none⟩) (j-i) (cap-i)) ((l.take j).drop i):=by
 obtain ⟨a,cap',he,hc,m⟩:=h.opened
 cases he
 have hl:((l.take j).drop i).length=j-i:=by simp;omega
 rw [←hl]
 refine BytesAt.mk' (by omega) fun k hk=>⟨b,off+i,rfl,?_⟩
 obtain ⟨s,o,ha,d⟩:=m (i+k) (by omega)
 cases ha
 rw [aW,d]
 simp
theorem BytesAt.left {w:World} {b off cap n:Nat} {x y:List UInt8} (h:BytesAt w (.slice (some ⟨b,off,none⟩) n cap) (x++y)):BytesAt w (.slice (some ⟨b,off,none⟩) x.length cap) x:=by
 obtain ⟨a,cap',he,hc,i⟩:=h.opened
 cases he
 simp only [ar] at hc
 refine BytesAt.mk' (by omega) fun k hk=>⟨b,off,rfl,?_⟩
 obtain ⟨l,j,ha,d⟩:=i k (by simp;omega)
 cases ha
 rw [d,cX hk]
theorem BytesAt.right {w:World} {b off cap n:Nat} {x y:List UInt8} (h:BytesAt w (.slice (some ⟨b,off,none⟩) n cap) (x++y)):BytesAt w (.slice (some ⟨b,off+x.length,none⟩) y.length (cap-x.length)) y:=by
 obtain ⟨a,cap',he,hc,i⟩:=h.opened
 cases he
 simp only [ar] at hc
 refine BytesAt.mk' (by omega) fun k hk=>⟨b,off+x.length,rfl,?_⟩
 obtain ⟨l,j,ha,d⟩:=i (x.length+k) (by simp;omega)
 cases ha
 rw [aW,d,dK (by omega)]
 simp
theorem BytesAt.convert {w:World} {v:Value} {l:List UInt8} (h:BytesAt w v l):(convert 59 9 v).run Tryz.prog w = .ok (.string ⟨l.toArray⟩) w:=by
 obtain ⟨a,cap,rfl,hc,i⟩:=h.opened
 cases a with
 | none =>
  have m:l=[]:=by
   cases l with
   | nil=>rfl
   | cons x l=>obtain ⟨b,off,o,_⟩:=i 0 (by simp);cases o
  subst m
  exact run_convert_bytes_nil (P:=Tryz.prog) w 59 5 Tryz.underlying59 Tryz.underlying5 0 cap 9 Tryz.underlying9
 | some a =>
  refine run_convert_bytes_back w 59 9 5 a cap l Tryz.underlying59 Tryz.underlying5 Tryz.underlying9 fun j q => ?_
  obtain ⟨s,r,ha,d⟩:=i j q
  cases ha
  rw [eW]
  exact d
theorem BytesAt.drewN {w:World} {v:Value} {l:List UInt8} (h:BytesAt w v l) (n:Nat):BytesAt (w.drewN n) v l:=h
theorem qq {ops:Array Oper} {o:Oper} {a:Act} {K:Act→World→Prop} {Q:Exit→Act→World→Prop} {E:Prop} {w:World} (j:o.guard=none) (s x:Operand)
  (u:o.op = .call {callee := .builtin .append,args:=#[s,x],argTypes:=#[59,59]})
  (base:Nat) (v:Value) (n:Nat) (l:List UInt8) (y:a.eval s=v) (d:OwnS w base 1 v n (u8s l)) (m:List UInt8) (hs:BytesAt w (a.eval x) m)
  (hlen:n+m.length≤140737488355328) (b:base≤w.heap.size)
  (h:∀ v' w',OwnS w' base 1 v' (n+m.length) (u8s (l++m))→w.grownBy w' v.ownBlock→Below base w w'→
   K (a.put o.dst v') w'):if Region.wanted o (yielded ops a.tmps)=true then Oper.wp Tryz.prog o a w K Q else E:=by
 have hw:Region.wanted o (yielded ops a.tmps)=true:=by simp [Region.wanted,j]
 rw [aF hw]
 obtain ⟨i0,B,q,i,r⟩:=dP p7
 have hmx:maxLen=9223372036854775807:=rfl
 refine og s x _ _ u base 1 5 i0 (.int .u8 0) Tryz.underlying59 B q i (by rw [i];rfl) (by omega) v n (u8s l) y d m.length (u8s m) (hs.src Tryz.underlying59 (oc m)) (by omega) (by rw [r];omega) b (fun v' w' h1 h2 _ => ?_)
 rw [←jV] at h1
 exact h v' w' h1 h2 (iv d h2 b)
theorem _root_.Go.RowKit.Below.drewN {B:Nat} {a w:World} (h:Below B a w) (n:Nat):Below B a (w.drewN n):=⟨h.os,h.tape,h.output,h.size,h.block⟩
theorem yY {k:IntKind} {a b:Int} (h:a=b):Ending.returned (.int k a) = .returned (.int k b):=by rw [h]
theorem iF {P:Program} {t:TypeId} (d:P.underlying t=some .string) (l:List UInt8) (k:IntKind) (i:Int) (x:UInt8) (j:0≤i) (m:l[i.toNat]?=some x) (w:World) :
  (Instr.index t (.string ⟨l.toArray⟩) (.int k i)).run P w = .ok (.int .u8 (x.toNat:Int)) w:=by
 obtain ⟨b,o⟩:=aG.1 m
 rw [run_index_string w t ⟨l.toArray⟩ k i d]
 have hs:(⟨l.toArray⟩:ByteArray).size=l.length:=by simp [ByteArray.size]
 rw [dif_pos ⟨j,by rw [hs];omega⟩]
 have:(⟨l.toArray⟩:ByteArray)[i.toNat]'(by rw [hs];exact b)=x:=by rw [←o];rfl
 rw [this]
structure Ext (S:Nat→Prop) (w w':World):Prop where
 os:w'.os=w.os
 tape:w'.tape=w.tape
 output:w'.output=w.output
 size:w.heap.size≤w'.heap.size
 block:∀ k,k<w.heap.size→¬S k→w'.heap[k]?=w.heap[k]?
theorem Ext.refl (S:Nat→Prop) (w:World):Ext S w w:=⟨rfl,rfl,rfl,ah _,fun _ _ _=>rfl⟩
theorem Ext.trans {S:Nat→Prop} {a b c:World} (h:Ext S a b) (k:Ext S b c):Ext S a c :=
 ⟨k.os.trans h.os,k.tape.trans h.tape,k.output.trans h.output,aI h.size k.size,fun i d hs=>(k.block i (aC d h.size) hs).trans (h.block i d hs)⟩
theorem Ext.trans' {S:Nat→Prop} {a b c:World} {T:Nat→Prop} (h:Ext S a b) (k:Ext T b c) (j:∀ i,T i→S i∨a.heap.size≤i):Ext S a c :=
 ⟨k.os.trans h.os,k.tape.trans h.tape,k.output.trans h.output,aI h.size k.size,fun i d hs=>(k.block i (aC d h.size) (fun e=>(j i e).elim hs (fun e=>by omega))).trans (h.block i d hs)⟩
theorem Ext.mono {S T:Nat→Prop} {w w':World} (h:Ext S w w') (hs:∀ k,S k→T k):Ext T w w':=⟨h.os,h.tape,h.output,h.size,fun k hk b=>h.block k hk (fun e=>b (hs k e))⟩
theorem Ext.gw {B:Nat} {w w':World} (h:Below B w w'):Ext (fun k=>B≤k) w w':=⟨h.os,h.tape,h.output,h.size,fun k _ hs=>h.block k (by omega)⟩
theorem Ext.fM {S:Nat→Prop} {w w':World} (h:Below w.heap.size w w'):Ext S w w':=⟨h.os,h.tape,h.output,h.size,fun k hk _=>h.block k hk⟩
theorem Ext.below {S:Nat→Prop} {B:Nat} {w w':World} (h:Ext S w w') (b:B≤w.heap.size) (hs:∀ k,k<B→¬S k):Below B w w':=⟨h.os,h.tape,h.output,h.size,fun k hk=>h.block k (by omega) (hs k hk)⟩
theorem Ext.cell {S:Nat→Prop} {w w':World} (h:Ext S w w') {p:Addr} {v:Value} (hs:¬S p.block) (hc:w.cell? p=some v):w'.cell? p=some v :=
 (aU (w:=w) (h.block p.block (fP hc) hs)).trans hc
theorem fI {w:World} {b:Nat} {o:Obj} (h:w.heap[b]?=some o):b<w.heap.size:=(cx.1 h).1
theorem Ext.at {S:Nat→Prop} {w w':World} (h:Ext S w w') {b:Nat} {o:Obj} (hs:¬S b) (d:w.heap[b]?=some o):w'.heap[b]?=some o:=(h.block b (fI d) hs).trans d
theorem fK {B:Nat} {w w':World} (h:Below B w w') {b:Nat} {o:Obj} (hs:b<B) (d:w.heap[b]?=some o):w'.heap[b]?=some o:=(h.block b hs).trans d
end Go.Proofs.YtkkfmkhbdoeglaaGreatDoor
namespace Go.Proofs.YtkkfmkhbdoeglaaGreatDoor
open Go.RowKit
theorem _root_.Go.RowKit.Below.tn {w w1 w2:World} (h:Below w.heap.size w w1) (k:Below w1.heap.size w1 w2):Below w.heap.size w w2:=h.trans (k.mono h.size)
theorem _root_.Go.RowKit.Below.al {w w1:World} (h:Below w.heap.size w w1) (o:Obj):Below w.heap.size w (w1.alloc o):=h.alloc h.size o
theorem _root_.Go.RowKit.Below.rf (w:World):Below w.heap.size w w:=Below.refl _ w
theorem heap_setCell (w:World) (b o:Nat) (v:Value) {C:Array Value} {T:TypeId} {fz:Nat×Nat} (h:w.heap[b]?=some (.cells C T fz)) :
  (w.setCell ⟨b,o,none⟩ v).heap[b]?=some (.cells (C.setIfInBounds o v) T fz):=by
 simp only [World.setCell,eJ,aF,h]
 rfl
theorem size_setCell (w:World) (a:Addr) (v:Value):(w.setCell a v).heap.size=w.heap.size:=by simp [World.setCell]
theorem Ext.setCell {S:Nat→Prop} {a w:World} (h:Ext S a w) (p:Addr) (v:Value) (b:S p.block∨a.heap.size≤p.block):Ext S a (w.setCell p v) :=
 h.trans' (T:=fun k=>k=p.block) ⟨rfl,rfl,rfl,by rw [size_setCell];exact ah _,fun k _ hs=>Below.heap_setCell w p v k hs⟩ (fun i e=>by rw [e];exact b)
theorem Ext.alloc {S:Nat→Prop} {a w:World} (h:Ext S a w) (o:Obj):Ext S a (w.alloc o):=h.trans (Ext.fM ((Below.refl _ w).alloc (ah _) o))
theorem Ext.drewN {S:Nat→Prop} {a w:World} (h:Ext S a w) (n:Nat):Ext S a (w.drewN n):=⟨h.os,h.tape,h.output,h.size,h.block⟩
theorem Ext.drew {S:Nat→Prop} {a w:World} (h:Ext S a w):Ext S a w.drew:=⟨h.os,h.tape,h.output,h.size,h.block⟩
theorem fQ (w:World) (o:Obj) {b:Nat} {x:Obj} (h:w.heap[b]?=some x):(w.alloc o).heap[b]?=some x:=(Below.heap_alloc w o b (fI h)).trans h
theorem fR.gh {w:World} {v:Value} {k n:Nat} {xs:List Value} (h:fR w v k n xs) (p:Addr) (u:Value) (d:v.ownBlock≠some p.block):fR (w.setCell p u) v k n xs :=
 h.frame fun b i _=>Below.heap_setCell w p u b (fun e=>d (by rw [i,e]))
theorem BytesAt.gh {w:World} {v:Value} {l:List UInt8} (h:BytesAt w v l) (p:Addr) (u:Value) (b:v.ownBlock≠some p.block):BytesAt (w.setCell p u) v l:=fR.gh h p u b
theorem OwnS.apart {w:World} {base k:Nat} {v:Value} {n:Nat} {xs:List Value} (h:OwnS w base k v n xs) {b:Nat} (d:b<base):v.ownBlock≠some b:=fun e=>by have:=h.fU b e;omega
def ErrVar (w:World):Prop:=2≤w.heap.size∧w.cell? ⟨0,0,none⟩=some (.iface 257 (.agg #[.pointer (some ⟨2,101,none⟩)]))
theorem ErrVar.below {B:Nat} {w w':World} (h:ErrVar w) (b:Below B w w') (d:2≤B):ErrVar w' :=
 ⟨aI h.1 b.size,(b.cell (p:=⟨0,0,none⟩) (aC (by decide:0<2) d)).trans h.2⟩
theorem ErrVar.ext {S:Nat→Prop} {w w':World} (h:ErrVar w) (b:Ext S w w') (d:∀ k,S k→2≤k):ErrVar w' :=
 ⟨aI h.1 b.size,b.cell (p:=⟨0,0,none⟩) (fun e=>absurd (d _ e) (by decide)) h.2⟩
theorem ErrVar.new {w w':World} (h:ErrVar w) (b:Below w.heap.size w w'):ErrVar w':=h.below b h.1
end Go.Proofs.YtkkfmkhbdoeglaaGreatDoor
namespace Go.Proofs.YtkkfmkhbdoeglaaGreatDoor
open Go.RowKit
theorem y9 {w:World} (m:List UInt8):Src Tryz.prog 1 9 (.string ⟨m.toArray⟩) m.length (u8s m) w:=by
 have h:=Src.ofString (P:=Tryz.prog) (w:=w) Tryz.underlying9 ⟨m.toArray⟩
 have b:(⟨m.toArray⟩:ByteArray).size=m.length:=by simp [ByteArray.size]
 have d:byteCells ⟨m.toArray⟩=u8s m:=by simp [byteCells,u8s]
 rw [b,d] at h
 exact h
theorem kT {ops:Array Oper} {rest:List Oper} {o:Oper} {a:Act} {Q:Exit→Act→World→Prop} {w:World} (q:o.guard=none) (s x:Operand) (r:TypeId)
  (C:o.op = .call {callee := .builtin .append,args:=#[s,x],argTypes:=#[59,r]})
  (base:Nat) (v:Value) (n:Nat) (l:List UInt8) (D:a.eval s=v) (i:OwnS w base 1 v n (u8s l)) (m:List UInt8) (hs:Src Tryz.prog 1 r (a.eval x) m.length (u8s m) w)
  (hlen:n+m.length≤140737488355328) (d:base≤w.heap.size)
  (h:∀ v' w',OwnS w' base 1 v' (n+m.length) (u8s (l++m))→w.grownBy w' v.ownBlock→Below base w w'→(∀ b,b<w.heap.size→v.ownBlock≠some b→v'.ownBlock≠some b)→
   wpList Tryz.prog ops Q rest (a.put o.dst v') w'):wpList Tryz.prog ops Q (o::rest) a w:=by
 obtain ⟨i0,E,u,j,y⟩:=dP p7
 have hmx:maxLen=9223372036854775807:=rfl
 refine ka q s x _ _ C base 1 5 i0 (.int .u8 0) Tryz.underlying59 E u j (by rw [j];rfl) (by omega) v n (u8s l) D i m.length (u8s m) hs (by omega) (by rw [y];omega) d (fun v' w' h1 h2 h3 => ?_)
 rw [←jV] at h1
 refine h v' w' h1 h2 (iv i h2 d) fun b F B => ?_
 rcases h3 with ⟨g,off,cap,rfl,rfl,_⟩ | rfl | ⟨cap,rfl,_⟩
 ·exact B
 ·simp [Value.ownBlock]
 ·simp [Value.ownBlock];omega
theorem BytesAt.src {w:World} {v:Value} {m:List UInt8} (h:BytesAt w v m):Src Tryz.prog 1 59 v m.length (u8s m) w:=fR.src Tryz.underlying59 h (oc m)
theorem Iy (w:World) (x y:UInt8) (a b:Int) (d:(x.toNat:Int)=a) (i:(y.toNat:Int)=b):BytesAt (w.alloc (.cells #[.int .u8 a,.int .u8 b] 5)) (.slice (some ⟨w.heap.size,0,none⟩) 2 2) [x,y]:=by
 subst d i
 exact (OwnS.new w #[.int .u8 (x.toNat:Int),.int .u8 (y.toNat:Int)] 5 0 0 0 1 2 2 (aL _) (by omega) (by decide) (by simp) (.inl (by omega))).bytes (l:=[x,y])
theorem OwnS.gZ {w:World} {base k:Nat} {v:Value} {n:Nat} {xs:List Value} (h:OwnS w base k v n xs):∀ g,v.ownBlock=some g→g<w.heap.size:=by
 intro g b
 obtain ⟨_,⟨rfl,_⟩ | ⟨i,off,cap,rfl,j,d,_⟩⟩:=h
 ·cases b
 ·cases b;exact d
theorem iJ {w w':World} {v:Value} (i:w.grownBy w' v.ownBlock) {b:Nat} {o:Obj} (d:v.ownBlock≠some b) (h:w.heap[b]?=some o):w'.heap[b]?=some o :=
 (i.block b (cx.1 h).1 (fun e=>d e.symm)).trans h
end Go.Proofs.YtkkfmkhbdoeglaaGreatDoor
namespace Go.Proofs.YtkkfmkhbdoeglaaGreatDoor
open Go.RowKit
theorem gr {w:World} {a:Addr} {v:Value} (o:Obj) (h:w.cell? a=some v):(w.alloc o).cell? a=some v :=
 (aU (w:=w) (heap_alloc_old w o (fP h))).trans h
def uv (w:World) (A:Nat) (v0 v1 v2 v3:Value):World:=(((w.setCell ⟨A,0,none⟩ v0).setCell ⟨A,1,none⟩ v1).setCell ⟨A,2,none⟩ v2).setCell ⟨A,3,none⟩ v3
theorem xY {w:World} {A:Nat} {a0 a1 a2 a3:Value} {T:TypeId} (R:w.heap[A]?=some (.cells #[a0,a1,a2,a3] T (0,0))) (v0 v1 v2 v3:Value):(uv w A v0 v1 v2 v3).heap[A]?=some (.cells #[v0,v1,v2,v3] T (0,0)) :=
 heap_setCell _ _ 3 v3 (heap_setCell _ _ 2 v2 (heap_setCell _ _ 1 v1 (heap_setCell _ _ 0 v0 R)))
theorem y6 {w:World} {A:Nat} {a0 a1 a2 a3:Value} {T:TypeId} (R:w.heap[A]?=some (.cells #[a0,a1,a2,a3] T (0,0))) (v0 v1 v2 v3:Value) :
  (uv w A v0 v1 v2 v3).cell? ⟨A,0,none⟩=some v0∧(uv w A v0 v1 v2 v3).cell? ⟨A,1,none⟩=some v1∧(uv w A v0 v1 v2 v3).cell? ⟨A,2,none⟩=some v2∧(uv w A v0 v1 v2 v3).cell? ⟨A,3,none⟩=some v3:=by
 have h:=xY R v0 v1 v2 v3
 exact ⟨af _ _ 0 _ _ _ h,af _ _ 1 _ _ _ h,af _ _ 2 _ _ _ h,af _ _ 3 _ _ _ h⟩
theorem wk {w:World} {A c i:Nat} {v:Value} (v0 v1 v2 v3:Value) (hc:c≠A) (h:w.cell? ⟨c,i,none⟩=some v):(uv w A v0 v1 v2 v3).cell? ⟨c,i,none⟩=some v :=
 (aU (w:=w) (a:=⟨c,i,none⟩) ((Below.heap_setCell _ ⟨A,3,none⟩ v3 c hc).trans ((Below.heap_setCell _ ⟨A,2,none⟩ v2 c hc).trans ((Below.heap_setCell _ ⟨A,1,none⟩ v1 c hc).trans (Below.heap_setCell w ⟨A,0,none⟩ v0 c hc))))).trans h
theorem pn {B:Nat} {d w:World} (h:Below B d w) (A:Nat) (v0 v1 v2 v3:Value) (b:B≤A):Below B d (uv w A v0 v1 v2 v3) :=
 (((h.setCell (p:=⟨A,0,none⟩) b _).setCell (p:=⟨A,1,none⟩) b _).setCell (p:=⟨A,2,none⟩) b _).setCell (p:=⟨A,3,none⟩) b _
end Go.Proofs.YtkkfmkhbdoeglaaGreatDoor
namespace Go.Proofs.YtkkfmkhbdoeglaaGreatDoor
open Go.RowKit
theorem Cc (b:Nat) (j:b<256) (w:World) :
  Calls Tryz.prog 135 #[.int .u8 b] w fun e w'=>e = .returned (.int .u32 (kS 8 b))∧w=w':=by
 go_enter Tryz.func135,Tryz.ntmps135
 go_wp2
 go_loop [3,7] (fun c i=>∃ k:Nat,k≤8∧i = .int .i64 k∧c = .int .u32 (kS k b)) (fun _ i=>8-(intOf i).toNat)
 case atStart=>exact ⟨0,by omega,rfl,by simp [kS]⟩
 case round =>
  obtain ⟨k,hk,rfl,rfl⟩:=hrel
  by_cases h:k<8
  ·have d:=wE k b (by omega)
   have hs:kS (k+1) b=pK (kS k b):=rfl
   have H:=ae hs
   clear hs
   generalize kS k b=c at *
   have ha:bits BinOp.and IntKind.u32 (c:Int) 1=((c%2:Nat):Int):=by
    rw [show (1:Int)=((1:Nat):Int) from rfl,u32_and_nat c 1 d (by decide),nat_mask1]
   have l:bits BinOp.xor IntKind.u32 ((c:Int) / 2) 3988292384=(((c / 2) ^^^ 3988292384:Nat):Int):=by
    rw [show (3988292384:Int)=((3988292384:Nat):Int) from rfl,show ((c:Int) / 2)=((c / 2:Nat):Int) by omega,u32_xor_nat (c / 2) _ (by omega) (by decide)]
   go_wp2
   ·rename_i h1
    have h2:c%2=1:=by have:=bj.1 h1;omega
    go_round
    case rel=>exact ⟨k+1,by omega,by go_num,by rw [H.out,pK,aF h2]⟩
    case measure=>simp [intOf];omega
   ·rename_i h1
    have h2:¬c%2=1:=by have:=aD.1 h1;omega
    go_round
    case rel=>exact ⟨k+1,by omega,by go_num,by rw [H.out,pK,aw h2];go_num⟩
    case measure=>simp [intOf];omega
  ·obtain rfl:k=8:=by omega
   go_wp2
   go_ret
   exact ⟨by rfl,rfl⟩
theorem Gc (c:Nat) (x:UInt8):kS 8 ((c%256) ^^^ x.toNat) ^^^ (c / 256)=kS 8 (c ^^^ x.toNat):=(DD c x.toNat).symm
theorem yx (c:Nat) (l:List UInt8) (k:Nat) (h:k<l.length):mn c (l.take (k+1))=kS 8 (mn c (l.take k) ^^^ l[k].toNat):=by
 rw [aO h,yw]
theorem Ds (v:Value) (l:List UInt8) (w:World) (o:BytesAt w v l) (hl:l.length≤9223372036854775807) :
  Calls Tryz.prog 95 #[v] w fun e w'=>e = .returned (.int .u32 (Db l))∧w=w':=by
 obtain ⟨a,cap,rfl,q,d⟩:=o.opened
 have r:=ae d
 clear d
 go_enter Tryz.func95,Tryz.ntmps95
 go_wp2
 go_loop [3,8] (fun c i=>∃ k:Nat,k≤l.length∧i = .int .i64 k∧c = .int .u32 (mn 4294967295 (l.take k))) (fun _ i=>l.length-(intOf i).toNat)
 case atStart=>exact ⟨0,by omega,rfl,by simp [mn]⟩
 case round =>
  obtain ⟨k,hk,rfl,rfl⟩:=hrel
  have j:=vq (l.take k) 4294967295 (by decide)
  by_cases h:k<l.length
  ·have H:=ae (yx 4294967295 l k h)
   obtain ⟨b,off,rfl,m⟩:=r.out k h
   generalize mn 4294967295 (l.take k)=c at *
   have x:=l[k].toNat_lt
   have s:c%256 ^^^ l[k].toNat<256:=fw (n:=8) (by omega) (by omega)
   have u:bits BinOp.xor IntKind.u8 ((c:Int)%256) (l[k].toNat:Int)=((c%256 ^^^ l[k].toNat:Nat):Int):=by
    rw [show ((c:Int)%256)=((c%256:Nat):Int) by omega,u8_xor_nat _ _ (by omega) (by omega)]
   have hs:=wE 8 (c%256 ^^^ l[k].toNat) (by omega)
   go_wp2_with (go_at_call 135;refine (Cc _ s _).mono ?_;rintro e w' ⟨rfl,rfl⟩)
   go_round
   case rel =>
    refine ⟨k+1,by omega,by go_num,?_⟩
    rw [show ((c:Int) / 256)=((c / 256:Nat):Int) by omega,u32_xor_nat _ _ hs (by omega),Gc,H.out]
   case measure=>simp [intOf];omega
  ·obtain rfl:k=l.length:=by omega
   rw [be] at *
   go_wp2
   go_ret
   refine ⟨yY ?_,rfl⟩
   rw [show IntKind.u32.max=((4294967295:Nat):Int) from rfl,u32_xor_nat _ _ (by decide) j,Nat.xor_comm]
   rfl
def lQ (a b c d:UInt8):Nat:=a.toNat*16777216+b.toNat*65536+c.toNat*256+d.toNat
theorem Gw (a b c d:UInt8):bits BinOp.or IntKind.u32 (bits BinOp.or IntKind.u32 (bits BinOp.or IntKind.u32 ((a.toNat:Int)*16777216) ((b.toNat:Int)*65536)) ((c.toNat:Int)*256)) (d.toNat:Int)=(lQ a b c d:Int):=by
 have ha:=a.toNat_lt
 have m:=b.toNat_lt
 have hc:=c.toNat_lt
 have hd:=d.toNat_lt
 have i:a.toNat*16777216 ||| b.toNat*65536=a.toNat*16777216+b.toNat*65536:=nat_join 24 _ _ (by omega) (by omega)
 have j:(a.toNat*16777216+b.toNat*65536) ||| c.toNat*256=a.toNat*16777216+b.toNat*65536+c.toNat*256:=nat_join 16 _ _ (by omega) (by omega)
 have l:(a.toNat*16777216+b.toNat*65536+c.toNat*256) ||| d.toNat=a.toNat*16777216+b.toNat*65536+c.toNat*256+d.toNat:=nat_join 8 _ _ (by omega) (by omega)
 rw [show ((a.toNat:Int)*16777216)=((a.toNat*16777216:Nat):Int) by omega,show ((b.toNat:Int)*65536)=((b.toNat*65536:Nat):Int) by omega,show ((c.toNat:Int)*256)=((c.toNat*256:Nat):Int) by omega,
  u32_or_nat _ _ (by omega) (by omega),i,u32_or_nat _ _ (by omega) (by omega),j,u32_or_nat _ _ (by omega) (by omega),l]
 rfl
theorem nL (a b c d:UInt8) (r:List UInt8) (w:World) (_hr:r.length≤9223372036854775000) :
  Calls Tryz.prog 96 #[.string ⟨(a::b::c::d::r).toArray⟩] w fun e w'=>e = .returned (.int .u32 (lQ a b c d))∧∃ n,w'=w.drewN n:=by
 have ha:=a.toNat_lt
 have i:=b.toNat_lt
 have hc:=c.toNat_lt
 have hd:=d.toNat_lt
 go_enter Tryz.func96,Tryz.ntmps96
 go_wp2
 have i0:∀ w,(Instr.index 9 (.string ⟨(a::b::c::d::r).toArray⟩) (.int .i64 0)).run Tryz.prog w = .ok (.int .u8 a.toNat) w:=fun w=>iF Tryz.underlying9 _ _ 0 a (by decide) rfl w
 have i1:∀ w,(Instr.index 9 (.string ⟨(a::b::c::d::r).toArray⟩) (.int .i64 1)).run Tryz.prog w = .ok (.int .u8 b.toNat) w:=fun w=>iF Tryz.underlying9 _ _ 1 b (by decide) rfl w
 have i2:∀ w,(Instr.index 9 (.string ⟨(a::b::c::d::r).toArray⟩) (.int .i64 2)).run Tryz.prog w = .ok (.int .u8 c.toNat) w:=fun w=>iF Tryz.underlying9 _ _ 2 c (by decide) rfl w
 have i3:∀ w,(Instr.index 9 (.string ⟨(a::b::c::d::r).toArray⟩) (.int .i64 3)).run Tryz.prog w = .ok (.int .u8 d.toNat) w:=fun w=>iF Tryz.underlying9 _ _ 3 d (by decide) rfl w
 go_quiet (fail)
 go_wp2
 go_ret
 exact ⟨yY (Gw a b c d),_,rfl⟩
theorem gE (k n:Int) (w:World) :
  Calls Tryz.prog 85 #[.int .i64 k,.int .i64 n] w fun e w'=>e = .returned (.pointer (some ⟨w.heap.size,0,none⟩))∧w'=w.alloc (.cells #[.int .i64 k,.int .i64 n,.nilIface] 166):=by
 go_enter Tryz.func85,Tryz.ntmps85
 go_wp2
 go_ret
 exact ⟨rfl,rfl⟩
def zp (n:Nat):List UInt8:=[UInt8.ofNat (n / 16777216),UInt8.ofNat (n / 65536),UInt8.ofNat (n / 256),UInt8.ofNat n]
def sealB (kind:UInt8) (l:List UInt8):List UInt8:=kind::l++zp (Db (kind::l))
theorem H8 (w:World) (c:Nat) (hc:c<4294967296):BytesAt (w.alloc (.cells #[.int .u8 ((c:Int) / 16777216),.int .u8 ((c:Int) / 65536%256),.int .u8 ((c:Int) / 256%256),.int .u8 ((c:Int)%256)] 5)) (.slice (some ⟨w.heap.size,0,none⟩) 4 4) (zp c):=by
 have h:=OwnS.new w #[.int .u8 ((c:Int) / 16777216),.int .u8 ((c:Int) / 65536%256),.int .u8 ((c:Int) / 256%256),.int .u8 ((c:Int)%256)] 5 0 0 0 1 4 4 (aL _) (by omega) (by decide) (by simp) (.inl (by omega))
 have e:(#[Value.int .u8 ((c:Int) / 16777216),.int .u8 ((c:Int) / 65536%256),.int .u8 ((c:Int) / 256%256),.int .u8 ((c:Int)%256)]:Array Value).toList.take (4*1)=u8s (zp c):=by
  simp [u8s,zp]
  omega
 rw [e] at h
 exact h.bytes
theorem zx (kind:UInt8) (v:Value) (l:List UInt8) (w:World) (s:BytesAt w v l) (hl:l.length≤gx) :
  Calls Tryz.prog 58 #[.int .u8 kind.toNat,v] w fun e w'=>∃ v',e = .returned v'∧OwnS w' w.heap.size 1 v' (l.length+5) (u8s (sealB kind l))∧Below w.heap.size w w':=by
 have o:BytesAt (w.alloc (.cells #[.int .u8 kind.toNat] 5)) v l:=s.below ((Below.refl _ w).alloc (ah _) _)
 have j:OwnS (w.alloc (.cells #[.int .u8 kind.toNat] 5)) w.heap.size 1 (.slice (some ⟨w.heap.size,0,none⟩) 1 1) 1 (u8s [kind]):=OwnS.new w #[.int .u8 kind.toNat] 5 0 0 w.heap.size 1 1 1 (ah _) (by omega) (by decide) (by simp) (.inl (by omega))
 unfold gx at hl
 have m:=ae hl
 clear hl
 go_enter Tryz.func58,Tryz.ntmps58
 go_wp2_with (at_builtin;refine ml rfl (.tmp 8) (.tmp 9) rfl w.heap.size (.slice (some ⟨w.heap.size,0,none⟩) 1 1) 1 [kind] rfl j l o (by have:=m.out;omega) (by simp) ?_;intro v1 w1 b _ d)
 refine (Ds v1 (kind::l) _ b.bytes (by have:=m.out;simp;omega)).mono ?_
 rintro e w2 ⟨rfl,rfl⟩
 have q:=E3 (kind::l)
 have u:=ae (show sealB kind l=kind::l++zp (Db (kind::l)) from rfl)
 generalize Db (kind::l)=c at *
 go_wp2_with (at_builtin;refine ml rfl (.tmp 13) (.tmp 25) rfl w.heap.size v1 (1+l.length) ([kind]++l) rfl (b.below ((Below.refl _ w1).alloc (ah _) _)) (zp c) (H8 w1 c q) (by have:=m.out;simp [zp];omega) (by have:=d.size;simp at this⊢;omega) ?_;intro v2 w2 i _ r)
 go_ret
 refine ⟨v2,rfl,?_,?_⟩
 ·rw [u.out]
  have x:1+l.length+(zp c).length=l.length+5:=by simp [zp];omega
  rw [←x]
  exact i
 ·exact (((Below.refl _ w).alloc (ah _) _).trans d).trans (((Below.refl _ w1).alloc (by have:=d.size;simp at this;omega) _).trans r)
def iT (w:World) (base:Nat) (v:Value) (k n:Int):Prop :=
 ∃ g,v = .iface 114 (.pointer (some ⟨g,0,none⟩))∧base≤g∧w.heap[g]?=some (.cells #[.int .i64 k,.int .i64 n,.nilIface] 166 (0,0))
theorem iT.new (w:World) (base:Nat) (k n:Int) (h:base≤w.heap.size):iT (w.alloc (.cells #[.int .i64 k,.int .i64 n,.nilIface] 166)) base (.iface 114 (.pointer (some ⟨w.heap.size,0,none⟩))) k n :=
 ⟨_,rfl,h,fL _ _⟩
theorem ym (v:Value) (l:List UInt8) (w:World) (b:BytesAt w v l) (hl:l.length<5) :
  Calls Tryz.prog 52 #[v] w fun e w'=>∃ ev,e = .returned (.tuple #[.int .u8 0,.slice none 0 0,ev])∧iT w' w.heap.size ev 1 l.length∧Below w.heap.size w w':=by
 obtain ⟨a,cap,rfl,d,i⟩:=b.opened
 clear i b
 go_enter Tryz.func52,Tryz.ntmps52
 go_wp2_with (go_at_call 85;refine (gE _ _ _).mono ?_;rintro e w' ⟨rfl,rfl⟩)
 go_ret3
 exact ⟨_,rfl,iT.new w _ _ _ (ah _),(Below.refl _ w).alloc (ah _) _⟩
theorem sg {v:Value} {l:List UInt8} {w:World} {n:Nat} (d:BytesAt w v l) (hl:l.length≤gx) :
  Calls Tryz.prog 95 #[v] (w.drewN n) fun e b=>e = .returned (.int .u32 (Db l))∧∃ m,b=w.drewN m :=
 (Ds v l (w.drewN n) (d.drewN n) (by unfold gx at hl;omega)).mono fun _ _ ⟨h1,h2⟩=>⟨h1,n,h2.symm⟩
theorem oE (a b c d:UInt8) (w:World) (n:Nat) :
  Calls Tryz.prog 96 #[.string ⟨[a,b,c,d].toArray⟩] (w.drewN n) fun e i=>e = .returned (.int .u32 (lQ a b c d))∧∃ m,i=w.drewN m :=
 Calls.quiet_of (nL a b c d [] (w.drewN n) (by simp))
theorem zz (v:Value) (k:UInt8) (p:List UInt8) (a b c d:UInt8) (w:World) (o:BytesAt w v (k::p++[a,b,c,d])) (hl:p.length+1≤gx) (heq:Db (k::p)=lQ a b c d) :
  Calls Tryz.prog 52 #[v] w fun e w'=>∃ v',e = .returned (.tuple #[.int .u8 k.toNat,v',.nilIface])∧OwnS w' w.heap.size 1 v' p.length (u8s p)∧Below w.heap.size w w':=by
 obtain ⟨a0,cap,rfl,q,u⟩:=o.opened
 obtain ⟨i,off,rfl,r⟩:=u 0 (by simp)
 have hlen:(k::p++[a,b,c,d]).length=p.length+5:=by simp
 have G:p.length≤9223372036854775000:=by unfold gx at hl;omega
 have D:p.length+5≤cap:=by rw [←hlen];exact q
 obtain ⟨n,s⟩:∃ n,n=p.length+1:=⟨_,rfl⟩
 have s1:BytesAt w (.slice (some ⟨i,off,none⟩) n cap) (k::p):=by rw [s];exact o.left
 have s2:BytesAt w (.slice (some ⟨i,off+n,none⟩) 4 (cap-n)) [a,b,c,d]:=by rw [s];exact o.right
 have F:BytesAt w (.slice (some ⟨i,off+1,none⟩) (n-1) (cap-1)) p:=by rw [s];exact BytesAt.right (x:=[k]) (y:=p) o.left
 have E:∀ m,(convert 59 9 (.slice (some ⟨i,off+n,none⟩) 4 (cap-n))).run Tryz.prog (w.drewN m) = .ok (.string ⟨[a,b,c,d].toArray⟩) (w.drewN m):=fun m=>(s2.drewN m).convert
 have B:=fP r
 have I:n≤cap:=by omega
 have J:1≤n:=by omega
 have M:n+4≤cap:=by omega
 have N:(0:Int)<(n:Int)+4:=by omega
 have O:(1:Int)≤(n:Int):=by omega
 have n6:¬cap=1:=by omega
 rw [hlen]
 clear u q hlen o
 simp only [aX,cn,cC] at r
 have C:=ae s
 clear s
 go_enter Tryz.func52,Tryz.ntmps52
 go_wp2
 rw [show (p.length:Int)+5-4=(n:Int) by rw [C.out];omega]
 rw [show p.length+5=n+4 by rw [C.out]]
 go_quiet ((first | (go_at_call 95;exact sg s1 (by simp;omega)) | (go_at_call 96;exact oE a b c d w _)))
 go_wp2
 go_region_held3 (fun w'=>w'.cell? ⟨i,off,none⟩=some (.int .u8 k.toNat)) (first | go_keep | exact (j.cell (p:=⟨i,off,none⟩) B).trans r)
  ((refine qq rfl _ (.tmp 33) rfl w.heap.size (.slice none 0 0) 0 [] rfl (OwnS.nil _ _ _) p (by exact F) (by unfold gx at hl;omega) (by simp) ?_;intro v1 w1 l _ j))
 go_wp2
 go_ret3
 rw [bF,aQ] at l
 exact ⟨v1,rfl,l,⟨j.os,j.tape,j.output,j.size,j.block⟩⟩
theorem Bq (v:Value) (k:UInt8) (p:List UInt8) (a b c d:UInt8) (w:World) (j:BytesAt w v (k::p++[a,b,c,d])) (hl:p.length+1≤gx) (heq:¬Db (k::p)=lQ a b c d) :
  Calls Tryz.prog 52 #[v] w fun e w'=>∃ ev,e = .returned (.tuple #[.int .u8 0,.slice none 0 0,ev])∧iT w' w.heap.size ev 3 (p.length+1)∧Below w.heap.size w w':=by
 obtain ⟨a0,cap,rfl,l,s⟩:=j.opened
 obtain ⟨i,off,rfl,q⟩:=s 0 (by simp)
 have hlen:(k::p++[a,b,c,d]).length=p.length+5:=by simp
 have E:p.length≤9223372036854775000:=by unfold gx at hl;omega
 have u:p.length+5≤cap:=by rw [←hlen];exact l
 obtain ⟨n,o⟩:∃ n,n=p.length+1:=⟨_,rfl⟩
 have s1:BytesAt w (.slice (some ⟨i,off,none⟩) n cap) (k::p):=by rw [o];exact j.left
 have s2:BytesAt w (.slice (some ⟨i,off+n,none⟩) 4 (cap-n)) [a,b,c,d]:=by rw [o];exact j.right
 have G:BytesAt w (.slice (some ⟨i,off+1,none⟩) (n-1) (cap-1)) p:=by rw [o];exact BytesAt.right (x:=[k]) (y:=p) j.left
 have B:∀ m,(convert 59 9 (.slice (some ⟨i,off+n,none⟩) 4 (cap-n))).run Tryz.prog (w.drewN m) = .ok (.string ⟨[a,b,c,d].toArray⟩) (w.drewN m):=fun m=>(s2.drewN m).convert
 have F:=fP q
 have C:((Db (k::p):Int)==(lQ a b c d:Int))=false:=by rw [aD];omega
 have D:((Db (k::p):Int) != (lQ a b c d:Int))=true:=by rw [bne_iff_ne];omega
 have I:n≤cap:=by omega
 have J:1≤n:=by omega
 have M:n+4≤cap:=by omega
 have N:(0:Int)<(n:Int)+4:=by omega
 have O:(1:Int)≤(n:Int):=by omega
 have n6:¬cap=1:=by omega
 rw [hlen]
 clear s l hlen j
 simp only [aX,cn,cC] at q
 have r:=ae o
 clear o
 go_enter Tryz.func52,Tryz.ntmps52
 go_wp2
 rw [show (p.length:Int)+5-4=(n:Int) by rw [r.out];omega]
 rw [show p.length+5=n+4 by rw [r.out]]
 go_quiet ((first | (go_at_call 95;exact sg s1 (by simp;omega)) | (go_at_call 96;exact oE a b c d w _)))
 go_wp2_with (go_at_call 85;refine (gE _ _ _).mono ?_;rintro e w' ⟨rfl,rfl⟩)
 go_ret3
 refine ⟨_,rfl,?_,(((Below.refl _ w).drewN nq).alloc (ah _) _)⟩
 rw [show (p.length:Int)+1=(n:Int) by rw [r.out];omega]
 exact iT.new (w.drewN nq) w.heap.size 3 n (ah _)
def gX (l:List UInt8):(UInt8×List UInt8)⊕(Nat×Nat) :=
 if l.length<5 then .inr (1,l.length)
 else match l.drop (l.length-4) with
  | [a,b,c,d]=>if Db (l.take (l.length-4))=lQ a b c d then .inl (l.headD 0,(l.take (l.length-4)).drop 1) else .inr (3,l.length-4)
  | _ => .inr (0,0)
theorem nh (k:UInt8) (p:List UInt8) (a b c d:UInt8):gX (k::p++[a,b,c,d])=if Db (k::p)=lQ a b c d then .inl (k,p) else .inr (3,p.length+1):=by
 have h1:(k::p++[a,b,c,d]).length-4=(k::p).length:=by simp
 unfold gX
 rw [aw (by simp),h1,eB,ep]
 simp
theorem uh (l:List UInt8) (h:¬l.length<5):∃ k p a b c d,l=k::p++[a,b,c,d]:=by
 cases l with
 | nil=>simp at h
 | cons k r =>
  have i:r=r.take (r.length-4)++r.drop (r.length-4):=(cy _ _).symm
  have hd:(r.drop (r.length-4)).length=4:=by simp at h⊢;omega
  match hq:r.drop (r.length-4),hd with
  | [a,b,c,d],_=>exact ⟨k,r.take (r.length-4),a,b,c,d,by rw [hq] at i;rw [aX,←i]⟩
def Bo (l:List UInt8) (w:World) (e:Ending) (w':World):Prop :=
 Below w.heap.size w w'∧match gX l with
  | .inl (k,p)=>∃ v',e = .returned (.tuple #[.int .u8 k.toNat,v',.nilIface])∧OwnS w' w.heap.size 1 v' p.length (u8s p)
  | .inr (k,n)=>∃ ev,e = .returned (.tuple #[.int .u8 0,.slice none 0 0,ev])∧iT w' w.heap.size ev k n
theorem rA (v:Value) (l:List UInt8) (w:World) (j:BytesAt w v l) (hl:l.length≤gx) :
  Calls Tryz.prog 52 #[v] w (Bo l w):=by
 by_cases h:l.length<5
 ·refine (ym v l w j h).mono fun e w' ⟨ev,h1,h2,h3⟩=>⟨h3,?_⟩
  unfold gX
  rw [aF h]
  exact ⟨ev,h1,h2⟩
 ·obtain ⟨k,p,a,b,c,d,rfl⟩:=uh l h
  have i:p.length+1≤gx:=by simp at hl;omega
  by_cases heq:Db (k::p)=lQ a b c d
  ·refine (zz v k p a b c d w j i heq).mono fun e w' ⟨v',h1,h2,h3⟩=>⟨h3,?_⟩
   rw [nh,aF heq]
   exact ⟨v',h1,h2⟩
  ·refine (Bq v k p a b c d w j i heq).mono fun e w' ⟨ev,h1,h2,h3⟩=>⟨h3,?_⟩
   rw [nh,aw heq]
   exact ⟨ev,h1,h2⟩
theorem H9 (n:Nat) (o:n<4294967296) (a b c d:UInt8):zp n=[a,b,c,d]↔n=lQ a b c d:=by
 have ha:=a.toNat_lt
 have q:=b.toNat_lt
 have hc:=c.toNat_lt
 have hd:=d.toNat_lt
 unfold zp lQ
 constructor
 ·intro h
  simp only [fm,and_true] at h
  obtain ⟨h1,h2,h3,h4⟩:=h
  have i:=bB UInt8.toNat h1
  have j:=bB UInt8.toNat h2
  have l:=bB UInt8.toNat h3
  have m:=bB UInt8.toNat h4
  simp at i j l m
  omega
 ·intro h
  simp only [fm,and_true,←eu]
  simp
  omega
end Go.Proofs.YtkkfmkhbdoeglaaGreatDoor
namespace Go.Proofs.YtkkfmkhbdoeglaaGreatDoor
open Go.RowKit
structure ShapesVar (w:World):Prop where
 two:2≤w.heap.size
 c0:w.cell? ⟨1,0,none⟩=some (.int .i64 6)
 c1:w.cell? ⟨1,1,none⟩=some (.int .i64 4)
 c2:w.cell? ⟨1,2,none⟩=some (.int .i64 5)
 c3:w.cell? ⟨1,3,none⟩=some (.int .i64 4)
 c4:w.cell? ⟨1,4,none⟩=some (.int .i64 2)
 c5:w.cell? ⟨1,5,none⟩=some (.int .i64 2)
theorem ShapesVar.fW {w w':World} (h:ShapesVar w) (hs:w.heap.size≤w'.heap.size) (b:w'.heap[1]?=w.heap[1]?):ShapesVar w':=by
 have e:∀ i,w'.cell? ⟨1,i,none⟩=w.cell? ⟨1,i,none⟩:=fun i=>aU (a:=⟨1,i,none⟩) b
 exact ⟨aI h.two hs,by rw [e,h.c0],by rw [e,h.c1],by rw [e,h.c2],by rw [e,h.c3],by rw [e,h.c4],by rw [e,h.c5]⟩
theorem ShapesVar.new {w w':World} (h:ShapesVar w) (b:Below w.heap.size w w'):ShapesVar w' :=
 h.fW b.size (b.block _ (fP h.c0))
theorem ShapesVar.alloc {w:World} (h:ShapesVar w) (o:Obj):ShapesVar (w.alloc o):=h.new ((Below.refl _ w).alloc (ah _) o)
def iX (t:Int) (k:List UInt8):Value := .agg #[.int .i64 t,.string ⟨k.toArray⟩]
def fN (t:Int):Nat:=if t=0 then 6 else if t=1 then 5 else 2
def fZ (t:Int):Nat:=if t=0 then 4 else if t=1 then 4 else 2
def isVersionB (v:Nat):Bool:=decide (0<v)&&decide (v<18446744073709551615)
def iw (t:Int) (k:List UInt8):Bool :=
 if t=0 then match k with | [a,_,_,_,_,_]=>a.toNat%2==0 | _=>false
 else if t=1 then match k with | [a,b,c,d,e]=>decide (e.toNat≤32)&&(lQ a b c d*2^e.toNat%4294967296==0) | _=>false
 else match k with | [_,_]=>true | _=>false
def gG (t:Int) (k:List UInt8):Bool :=
 if t=2 then match k with | [a,b]=>(a.toNat==0 || a.toNat==6 || a.toNat==17)&&decide (b.toNat≤1) | _=>false
 else match k with | [a,b,c,d]=>lQ a b c d != 0 | _=>false
theorem vH {t:Int} {k:List UInt8} (h:k.length≠fN t):iw t k=false:=by
 unfold iw
 unfold fN at h
 split
 ·split
  ·simp_all
  ·rfl
 ·split
  ·split
   ·simp_all
   ·rfl
  ·split
   ·simp_all
   ·rfl
theorem sj {t:Int} {k:List UInt8} (b:0≤t) (h2:t<3) (h:k.length≠fZ t):gG t k=false:=by
 unfold gG
 unfold fZ at h
 split
 ·split
  ·simp_all
  ·rfl
 ·split
  ·exfalso
   have:t=0∨t=1:=by omega
   rcases this with rfl | rfl <;> simp_all
  ·rfl
theorem jh (v:Nat) (w:World):Calls Tryz.prog 100 #[.int .u64 v] w fun e w'=>e = .returned (.bool (isVersionB v))∧w=w':=by
 unfold isVersionB
 by_cases i:0<v
 ·by_cases h1:v<18446744073709551615
  ·have b:(0:Int)<v:=by omega
   have d:(v:Int)<18446744073709551615:=by omega
   go_enter Tryz.func100,Tryz.ntmps100
   go_wp2
   go_ret
   exact ⟨by simp [i,h1],rfl⟩
  ·have b:(0:Int)<v:=by omega
   have d:¬(v:Int)<18446744073709551615:=by omega
   go_enter Tryz.func100,Tryz.ntmps100
   go_wp2
   go_ret
   exact ⟨by simp,rfl⟩
 ·obtain rfl:v=0:=by omega
  go_enter Tryz.func100,Tryz.ntmps100
  go_wp2
  go_ret
  exact ⟨rfl,rfl⟩
theorem DW (t:Int) (k:List UInt8) (w:World) (b:ShapesVar w) (i:0≤t) (h2:t<3) (hk:k.length≠fN t) (_hl:k.length≤gx) :
  Calls Tryz.prog 139 #[iX t k] w fun e w'=>e = .returned (.bool false)∧Below w.heap.size w w':=by
 unfold iX
 have j:=b.two
 have c0:=fun o=>(b.alloc o).c0
 have c2:=fun o=>(b.alloc o).c2
 have c4:=fun o=>(b.alloc o).c4
 unfold fN at hk
 unfold gx at _hl
 have:t=0∨t=1∨t=2:=by omega
 rcases this with rfl | rfl | rfl
 ·have d:¬(k.length:Int)=6:=by simp at hk;omega
  go_enter Tryz.func139,Tryz.ntmps139
  go_wp2
  go_ret
  exact ⟨rfl,(Below.refl _ w).alloc (ah _) _⟩
 ·have d:¬(k.length:Int)=5:=by simp at hk;omega
  go_enter Tryz.func139,Tryz.ntmps139
  go_wp2
  go_ret
  exact ⟨rfl,(Below.refl _ w).alloc (ah _) _⟩
 ·have d:¬(k.length:Int)=2:=by simp at hk;omega
  go_enter Tryz.func139,Tryz.ntmps139
  go_wp2
  go_ret
  exact ⟨rfl,(Below.refl _ w).alloc (ah _) _⟩
theorem GU {k:List UInt8} (h:k.length=6):∃ a b c d e f,k=[a,b,c,d,e,f]:=by
 match k,h with
 | [a,b,c,d,e,f],_=>exact ⟨a,b,c,d,e,f,rfl⟩
theorem GS {k:List UInt8} (h:k.length=5):∃ a b c d e,k=[a,b,c,d,e]:=by
 match k,h with
 | [a,b,c,d,e],_=>exact ⟨a,b,c,d,e,rfl⟩
theorem GR {k:List UInt8} (h:k.length=4):∃ a b c d,k=[a,b,c,d]:=by
 match k,h with
 | [a,b,c,d],_=>exact ⟨a,b,c,d,rfl⟩
theorem uI {k:List UInt8} (h:k.length=2):∃ a b,k=[a,b]:=by
 match k,h with
 | [a,b],_=>exact ⟨a,b,rfl⟩
theorem Cf (t:Int) (k:List UInt8) (w:World) (i:ShapesVar w) (q:0≤t) (h2:t<3) (hk:k.length=fN t) :
  Calls Tryz.prog 139 #[iX t k] w fun e w'=>e = .returned (.bool (iw t k))∧Below w.heap.size w w':=by
 unfold iX iw
 have r:=i.two
 have c0:=fun o=>(i.alloc o).c0
 have c2:=fun o=>(i.alloc o).c2
 have c4:=fun o=>(i.alloc o).c4
 unfold fN at hk
 have:t=0∨t=1∨t=2:=by omega
 rcases this with rfl | rfl | rfl
 ·obtain ⟨a,b,c,d,e,f,rfl⟩:=GU hk
  have ha:=a.toNat_lt
  have i0:∀ w,(Instr.index 9 (.string ⟨[a,b,c,d,e,f].toArray⟩) (.int .i64 0)).run Tryz.prog w = .ok (.int .u8 a.toNat) w:=fun w=>iF Tryz.underlying9 _ _ 0 a (by decide) rfl w
  have s:bits BinOp.and IntKind.u8 (a.toNat:Int) 1=((a.toNat%2:Nat):Int):=by
   rw [show (1:Int)=((1:Nat):Int) from rfl,u8_and_nat _ _ ha (by omega),Nat.and_one_is_mod]
  go_enter Tryz.func139,Tryz.ntmps139
  go_wp2
  go_ret
  have he:((a.toNat:Int)%2==0)=(a.toNat%2==0):=by
   rcases de a.toNat with h | h
   ·rw [h,show ((a.toNat:Int)%2)=0 by omega];rfl
   ·rw [h,show ((a.toNat:Int)%2)=1 by omega];rfl
  exact ⟨by simp [he],(Below.refl _ w).alloc (ah _) _⟩
 ·obtain ⟨a,b,c,d,e,rfl⟩:=GS hk
  have he:=e.toNat_lt
  have i4:∀ w,(Instr.index 9 (.string ⟨[a,b,c,d,e].toArray⟩) (.int .i64 4)).run Tryz.prog w = .ok (.int .u8 e.toNat) w:=fun w=>iF Tryz.underlying9 _ _ 4 e (by decide) rfl w
  by_cases m:e.toNat≤32
  ·have j:(e.toNat:Int)≤32:=by omega
   have hq:((lQ a b c d:Int)*2^e.toNat%4294967296==0)=(lQ a b c d*2^e.toNat%4294967296==0):=by
    have l:((lQ a b c d:Int)*2^e.toNat%4294967296)=((lQ a b c d*2^e.toNat%4294967296:Nat):Int):=by rw [Int.natCast_emod,Int.natCast_mul,Int.natCast_pow];rfl
    rw [l]
    cases lQ a b c d*2^e.toNat%4294967296
    ·rfl
    ·simp;omega
   go_enter Tryz.func139,Tryz.ntmps139
   go_wp2
   go_quiet ((first | (go_at_call 96;exact Calls.quiet_of (nL a b c d [e] _ (by simp)))))
   go_wp2
   go_ret
   exact ⟨by simp,((Below.refl _ w).alloc (ah _) _).drewN _⟩
  ·have j:¬(e.toNat:Int)≤32:=by omega
   have hd:decide ((e.toNat:Int)≤32)=false:=bm j
   go_enter Tryz.func139,Tryz.ntmps139
   go_wp2
   go_quiet ((first | (go_at_call 96;exact Calls.quiet_of (nL a b c d [e] _ (by simp)))))
   go_wp2
   go_ret
   exact ⟨by simp,((Below.refl _ w).alloc (ah _) _).drewN _⟩
 ·obtain ⟨a,b,rfl⟩:=uI hk
  go_enter Tryz.func139,Tryz.ntmps139
  go_wp2
  go_ret
  exact ⟨rfl,(Below.refl _ w).alloc (ah _) _⟩
theorem oG (t:Int) (k:List UInt8) (w:World) (b:ShapesVar w) (d:0≤t) (h2:t<3) (hl:k.length≤gx) :
  Calls Tryz.prog 139 #[iX t k] w fun e w'=>e = .returned (.bool (iw t k))∧Below w.heap.size w w':=by
 by_cases hk:k.length=fN t
 ·exact Cf t k w b d h2 hk
 ·rw [vH hk]
  exact DW t k w b d h2 hk hl
theorem Af (t:Int) (k:List UInt8) (w:World) (b:ShapesVar w) (i:0≤t) (h2:t<3) (hk:k.length≠fZ t) (_hl:k.length≤gx) :
  Calls Tryz.prog 140 #[.int .i64 t,.string ⟨k.toArray⟩] w fun e w'=>e = .returned (.bool false)∧Below w.heap.size w w':=by
 have j:=b.two
 have c1:=b.c1
 have c3:=b.c3
 have c5:=b.c5
 unfold fZ at hk
 unfold gx at _hl
 have:t=0∨t=1∨t=2:=by omega
 rcases this with rfl | rfl | rfl
 ·have d:¬(k.length:Int)=4:=by simp at hk;omega
  go_enter Tryz.func140,Tryz.ntmps140
  go_wp2
  go_ret
  exact ⟨rfl,Below.refl _ w⟩
 ·have d:¬(k.length:Int)=4:=by simp at hk;omega
  go_enter Tryz.func140,Tryz.ntmps140
  go_wp2
  go_ret
  exact ⟨rfl,Below.refl _ w⟩
 ·have d:¬(k.length:Int)=2:=by simp at hk;omega
  go_enter Tryz.func140,Tryz.ntmps140
  go_wp2
  go_ret
  exact ⟨rfl,Below.refl _ w⟩
theorem yM (t:Int) (a b c d:UInt8) (w:World) (i:ShapesVar w) (j:0≤t) (h2:t<2) :
  Calls Tryz.prog 140 #[.int .i64 t,.string ⟨[a,b,c,d].toArray⟩] w fun e w'=>e = .returned (.bool (lQ a b c d != 0))∧Below w.heap.size w w':=by
 have l:=i.two
 have c1:=i.c1
 have c3:=i.c3
 have hq:((lQ a b c d:Int) != 0)=(lQ a b c d != 0):=by
  cases lQ a b c d
  ·rfl
  ·rw [dI];simp;omega
 have:t=0∨t=1:=by omega
 rcases this with rfl | rfl
 all_goals
  go_enter Tryz.func140,Tryz.ntmps140
  go_wp2_with fail
  refine (nL a b c d [] _ (by simp)).mono ?_
  rintro e w1 ⟨rfl,n,rfl⟩
  go_wp2
  go_ret
  exact ⟨by simp,(Below.refl _ w).drewN _⟩
theorem Ae (a b:UInt8) (w:World) (l:ShapesVar w) :
  Calls Tryz.prog 140 #[.int .i64 2,.string ⟨[a,b].toArray⟩] w fun e w'=>e = .returned (.bool ((a.toNat==0 || a.toNat==6 || a.toNat==17)&&decide (b.toNat≤1)))∧Below w.heap.size w w':=by
 have r:=l.two
 have c5:=l.c5
 have i0:∀ w,(Instr.index 9 (.string ⟨[a,b].toArray⟩) (.int .i64 0)).run Tryz.prog w = .ok (.int .u8 a.toNat) w:=fun w=>iF Tryz.underlying9 _ _ 0 a (by decide) rfl w
 have i1:∀ w,(Instr.index 9 (.string ⟨[a,b].toArray⟩) (.int .i64 1)).run Tryz.prog w = .ok (.int .u8 b.toNat) w:=fun w=>iF Tryz.underlying9 _ _ 1 b (by decide) rfl w
 have hd:decide ((b.toNat:Int)≤1)=decide (b.toNat≤1):=by
  rw [dI];simp;omega
 have hc:∀ n:Nat,((a.toNat:Int)==n)=(a.toNat==n):=fun n=>by
  rw [dI,bj,bj];omega
 have j:=hc 0
 have h6:=hc 6
 have d:=hc 17
 have ha:=a.toNat_lt
 have s:=b.toNat_lt
 clear hc
 cases m:(a.toNat==0) <;> cases o:(a.toNat==6) <;> cases i:(a.toNat==17)
 all_goals
  rw [m] at j
  rw [o] at h6
  rw [i] at d
  have e0:((a.toNat:Int)==0)=_:=j
  have u:((a.toNat:Int)==6)=_:=h6
  have q:((a.toNat:Int)==17)=_:=d
  clear j h6 d m o i
  go_enter Tryz.func140,Tryz.ntmps140
  go_wp2
  go_ret
  exact ⟨by simp,Below.refl _ w⟩
theorem p8 (t:Int) (k:List UInt8) (w:World) (i:ShapesVar w) (j:0≤t) (h2:t<3) (hl:k.length≤gx) :
  Calls Tryz.prog 140 #[.int .i64 t,.string ⟨k.toArray⟩] w fun e w'=>e = .returned (.bool (gG t k))∧Below w.heap.size w w':=by
 by_cases hk:k.length=fZ t
 ·by_cases l:t=2
  ·subst l
   obtain ⟨a,b,rfl⟩:=uI hk
   exact Ae a b w i
  ·have h4:k.length=4:=by unfold fZ at hk;split at hk <;> simp_all;omega
   obtain ⟨a,b,c,d,rfl⟩:=GR h4
   have e:gG t [a,b,c,d]=(lQ a b c d != 0):=by unfold gG;rw [aw l]
   rw [e]
   exact yM t a b c d w i j (by omega)
 ·rw [sj j h2 hk]
  exact Af t k w i j h2 hk hl
end Go.Proofs.YtkkfmkhbdoeglaaGreatDoor
namespace Go.Proofs.YtkkfmkhbdoeglaaGreatDoor
open Go.RowKit
def j4 (v:Nat):List UInt8:=(List.range 8).map fun i=>UInt8.ofNat (v / 2^(56-8*i))
theorem fY (v:Nat):(j4 v).length=8:=by simp [j4]
theorem zH (v k:Nat) (h:k<8):(j4 v).take (k+1)=(j4 v).take k++[UInt8.ofNat (v / 2^(56-8*k))]:=by
 rw [aO (by rw [fY];exact h)]
 simp [j4]
theorem pc (w:World) (k:UInt8):BytesAt (w.alloc (.cells #[.int .u8 (k.toNat:Int)] 5)) (.slice (some ⟨w.heap.size,0,none⟩) 1 1) [k] :=
 (OwnS.new w #[.int .u8 (k.toNat:Int)] 5 0 0 0 1 1 1 (aL _) (by omega) (by decide) (by simp) (.inl (by omega))).bytes (l:=[k])
theorem rK (base:Nat) (bv:Value) (l:List UInt8) (v:Nat) (w:World) (q:OwnS w base 1 bv l.length (u8s l)) (u:base≤w.heap.size) (hl:l.length≤gx) (_hv:v<18446744073709551616) :
  Calls Tryz.prog 113 #[bv,.int .u64 v] w fun e w'=>∃ o,e = .returned o∧OwnS w' base 1 o (l.length+8) (u8s (l++j4 v))∧Below base w w':=by
 unfold gx at hl
 go_enter Tryz.func113,Tryz.ntmps113
 go_wp2
 go_loopw [0,6] (fun x i wr=>∃ k:Nat,k≤8∧i = .int .i64 k∧OwnS wr base 1 x (l++(j4 v).take k).length (u8s (l++(j4 v).take k))∧Below base w wr) (fun _ i _=>8-(intOf i).toNat)
 case atStart=>exact ⟨0,by omega,rfl,by simpa using q,Below.refl _ _⟩
 case round =>
  obtain ⟨k,hk,rfl,b,d⟩:=hrel
  by_cases h8:k<8
  ·have r:((UInt8.ofNat (v / 2^(56-8*k))).toNat:Int)=(v:Int) / 2^(56-8*k)%256:=by simp
   have j:=pc wr (UInt8.ofNat (v / 2^(56-8*k)))
   rw [r] at j
   have y:=d.size
   have H:=ae (zH v k h8)
   have D:=ae r
   clear r
   have B:(k:Int)<8:=by omega
   have C:(l++(j4 v).take k).length≤140737488355100:=by rw [ar,aA,fY];omega
   go_wp2_with (at_builtin;refine ml rfl (.tmp 9) (.tmp 16) rfl base _ _ (l++(j4 v).take k) rfl (b.below ((Below.refl _ wr).alloc (ah _) _)) [UInt8.ofNat (v / 2^(56-8*k))] j (by simp only [au,aJ];omega) (by simp;omega) ?_;intro v1 w1 m _ s)
   go_roundw
   case rel =>
    refine ⟨k+1,by omega,by go_num,?_,(d.alloc (by omega) _).trans s⟩
    rw [H.out,←bg]
    rw [ar]
    exact m
   case measure=>simp [intOf];omega
  ·obtain rfl:k=8:=by omega
   rw [aS (by rw [fY];omega)] at b
   go_wp2
   go_ret
   refine ⟨_,rfl,?_,d⟩
   rw [ar,fY] at b
   exact b
end Go.Proofs.YtkkfmkhbdoeglaaGreatDoor
namespace Go.Proofs.YtkkfmkhbdoeglaaGreatDoor
open Go.RowKit
structure Cu where
 l:List UInt8
 at':Nat
 to:Nat
 f:Option (Nat×Nat)
def Cu.take (c:Cu) (n:Nat):Cu×List UInt8 :=
 match c.f with
 | some _=>(c,List.replicate n 0)
 | none=>if c.l.length<c.to+n then ({c with f:=some (1,c.to)},List.replicate n 0) else ({c with at':=c.to,to:=c.to+n},(c.l.drop c.to).take n)
def Cu.jr (c:Cu) (ok:Bool) (k:Nat):Cu :=
 match c.f with
 | some _=>c
 | none=>if ok then c else {c with f:=some (k,c.at')}
def Cu.ended (c:Cu):Cu :=
 match c.f with
 | some _=>c
 | none=>if c.to<c.l.length then {c with f:=some (2,c.to)} else c
def uQ (w:World) (base:Nat) (fp:Option Addr) (f:Option (Nat×Nat)):Prop :=
 match f with
 | none=>fp=none
 | some (k,n)=>∃ g,fp=some ⟨g,0,none⟩∧base≤g∧w.heap[g]?=some (.cells #[.int .i64 k,.int .i64 n,.nilIface] 166 (0,0))
def CurAt (w:World) (base c:Nat) (cu:Cu):Prop :=
 cu.to≤cu.l.length∧cu.at'≤cu.to∧cu.l.length≤gx∧base≤c∧
 ∃ v fp,w.heap[c]?=some (.cells #[v,.int .i64 cu.at',.int .i64 cu.to,.pointer fp] 211 (0,0))∧BytesAt w v cu.l∧(∀ b,v.ownBlock=some b→b<c)∧uQ w base fp cu.f
theorem uQ.fW {w w':World} {base:Nat} {fp:Option Addr} {f:Option (Nat×Nat)} (h:uQ w base fp f) (b:∀ g,base≤g→(∃ k n,w.heap[g]?=some (.cells #[.int .i64 k,.int .i64 n,.nilIface] 166 (0,0)))→w'.heap[g]?=w.heap[g]?):uQ w' base fp f:=by
 cases f with
 | none=>exact h
 | some x =>
  obtain ⟨g,h1,h2,h3⟩:=h
  exact ⟨g,h1,h2,by rw [b g h2 ⟨_,_,h3⟩];exact h3⟩
theorem CurAt.lt {w:World} {base c:Nat} {cu:Cu} (h:CurAt w base c cu):c<w.heap.size:=by
 obtain ⟨h1,h2,h3,h4,v,fp,h5,h6⟩:=h
 exact fI h5
theorem CurAt.fW {w w':World} {base c:Nat} {cu:Cu} (h:CurAt w base c cu) (b:Below w.heap.size w w'):CurAt w' base c cu:=by
 obtain ⟨h1,h2,h3,h4,v,fp,h5,h6,h7,h8⟩:=h
 refine ⟨h1,h2,h3,h4,v,fp,fK b (fI h5) h5,h6.below b,h7,h8.fW fun g _ ⟨k,n,d⟩=>b.block g (fI d)⟩
theorem CurAt.grown {w w':World} {base c:Nat} {cu:Cu} {r:Nat} (h:CurAt w base c cu) (d:w.grownBy w' (some r)) (m:c<r) (j:∀ k n,w.heap[r]?≠some (.cells #[.int .i64 k,.int .i64 n,.nilIface] 166 (0,0))):CurAt w' base c cu:=by
 obtain ⟨h1,h2,h3,h4,v,fp,h5,h6,h7,h8⟩:=h
 refine ⟨h1,h2,h3,h4,v,fp,?_,fR.grown h6 d ?_,h7,h8.fW fun g _ ⟨k,n,i⟩ => ?_⟩
 ·rw [d.block c (fI h5) (fun e=>by cases e;omega)]
  exact h5
 ·intro b l e
  cases e
  exact absurd (h7 _ l) (by omega)
 ·exact d.block g (fI i) (fun e=>by cases e;exact j k n i)
theorem grownBy_set {w w1:World} {c:Nat} (b:Below w.heap.size w w1) (i:Nat) (v:Value):w.grownBy (w1.setCell ⟨c,i,none⟩ v) (some c) :=
 ⟨b.os,b.tape,b.output,by rw [size_setCell];exact b.size,fun k hk d=>(Below.heap_setCell w1 ⟨c,i,none⟩ v k (fun e=>d (by rw [e]))).trans (b.block k hk)⟩
theorem grownBy_alloc {w w1:World} {r:Option Nat} (b:w.grownBy w1 r) (o:Obj):w.grownBy (w1.alloc o) r :=
 ⟨b.os,b.tape,b.output,aI b.size (by simp),fun k hk d=>(heap_alloc_old _ _ (aC hk b.size)).trans (b.block k hk d)⟩
theorem gC {w w1:World} {c:Nat} (b:w.grownBy w1 (some c)) (i:Nat) (v:Value):w.grownBy (w1.setCell ⟨c,i,none⟩ v) (some c) :=
 ⟨b.os,b.tape,b.output,by rw [size_setCell];exact b.size,fun k hk d=>(Below.heap_setCell w1 ⟨c,i,none⟩ v k (fun e=>d (by rw [e]))).trans (b.block k hk d)⟩
theorem om {w w1:World} {r:Option Nat} (b:w.grownBy w1 r) (m:Nat):w.grownBy (w1.drewN m) r:=⟨b.os,b.tape,b.output,b.size,b.block⟩
theorem BytesAt.cap' {w:World} {a:Option Addr} {n cap cap':Nat} {l:List UInt8} (h:BytesAt w (.slice a n cap) l) (hc:n≤cap'):BytesAt w (.slice a n cap') l:=by
 obtain ⟨hl,j,b,he,i,d⟩:=h
 cases he
 exact ⟨hl,a,cap',rfl,hc,d⟩
theorem Bh (w:World) (n:Nat) (b:n≤100):BytesAt (w.alloc (.cells (madeCells #[.int .u8 0] n) 5)) (.slice (some ⟨w.heap.size,0,none⟩) n n) (List.replicate n 0):=by
 have hm:maxLen=9223372036854775807:=rfl
 have d:(madeCells #[Value.int .u8 0] n).size=n:=by simp [madeCells]
 have h:=OwnS.new w (madeCells #[.int .u8 0] n) 5 0 0 0 1 n n (aL _) (ah _) (by omega) (by omega) (.inl (by omega))
 have e:(madeCells #[Value.int .u8 0] n).toList.take (n*1)=u8s (List.replicate n 0):=by
  rw [ey,Nat.mul_one,aS (by simp)]
  simp [u8s]
 rw [e] at h
 exact h.bytes
theorem CW (base c:Nat) (l:List UInt8) (at' to k p n:Nat) (w:World) (h:CurAt w base c ⟨l,at',to,some (k,p)⟩) (i:n≤100) :
  Calls Tryz.prog 121 #[.pointer (some ⟨c,0,none⟩),.int .i64 n] w fun e w'=>∃ v,e = .returned v∧BytesAt w' v (List.replicate n 0)∧v.ownBlock≠some c∧Below w.heap.size w w':=by
 obtain ⟨h1,h2,h3,h4,v,fp,h5,h6,h7,g,rfl,h8⟩:=h
 have c0:w.cell? ⟨c,0,none⟩=some (v):=af w c 0 _ _ _ h5
 have c1:w.cell? ⟨c,1,none⟩=some (.int .i64 at'):=af w c 1 _ _ _ h5
 have c2:w.cell? ⟨c,2,none⟩=some (.int .i64 to):=af w c 2 _ _ _ h5
 have c3:w.cell? ⟨c,3,none⟩=some (.pointer (some ⟨g,0,none⟩)):=af w c 3 _ _ _ h5
 have b:=fI h5
 clear h5
 have d:∀ w,(Instr.makeSlice 59 (.int .i64 n) (.int .i64 n)).run Tryz.prog w = .ok (.slice (some ⟨w.heap.size,0,none⟩) n n) (w.alloc (.cells (madeCells #[.int .u8 0] n) 5)):=fun w =>
  run_make_row' 59 5 (.int .u8 0) 1 Tryz.underlying59 (by kernel_rfl) rfl .i64 .i64 n (by omega) (by omega) w
 go_enter Tryz.func121,Tryz.ntmps121
 go_wp2
 go_quiet (fail)
 go_wp2
 go_ret
 exact ⟨_,rfl,Bh _ n (by omega),by simp [Value.ownBlock];omega,((Below.refl _ w).drewN _).alloc (ah _) _⟩
theorem CX (base c:Nat) (l:List UInt8) (at' to n:Nat) (w:World) (h:CurAt w base c ⟨l,at',to,none⟩) (x:base≤w.heap.size) (y:n≤100) (hs:l.length<to+n) :
  Calls Tryz.prog 121 #[.pointer (some ⟨c,0,none⟩),.int .i64 n] w fun e w'=>∃ v,e = .returned v∧BytesAt w' v (List.replicate n 0)∧v.ownBlock≠some c∧CurAt w' base c ⟨l,at',to,some (1,to)⟩∧w.grownBy w' (some c):=by
 obtain ⟨h1,h2,h3,h4,v,fp,h5,h6,j,h8⟩:=h
 have h7:v.ownBlock≠some c:=fun e=>dD _ (j c e)
 obtain ⟨a,cap,rfl,B,-⟩:=h6.opened
 obtain rfl:fp=none:=h8
 have c0:w.cell? ⟨c,0,none⟩=some (.slice a l.length cap):=af w c 0 _ _ _ h5
 have c1:w.cell? ⟨c,1,none⟩=some (.int .i64 at'):=af w c 1 _ _ _ h5
 have c2:w.cell? ⟨c,2,none⟩=some (.int .i64 to):=af w c 2 _ _ _ h5
 have c3:w.cell? ⟨c,3,none⟩=some (.pointer none):=af w c 3 _ _ _ h5
 have f3:=ao w c 3 _ _ h5
 have m:=fI h5
 have C:=ae h5
 simp only [] at h1 h2 h3
 unfold gx at h3
 clear h5
 have F:(l.length:Int)-to<n:=by omega
 have G:∀ w,(Instr.makeSlice 59 (.int .i64 n) (.int .i64 n)).run Tryz.prog w = .ok (.slice (some ⟨w.heap.size,0,none⟩) n n) (w.alloc (.cells (madeCells #[.int .u8 0] n) 5)):=fun w =>
  run_make_row' 59 5 (.int .u8 0) 1 Tryz.underlying59 (by kernel_rfl) rfl .i64 .i64 n (by omega) (by omega) w
 go_enter Tryz.func121,Tryz.ntmps121
 go_wp2
 go_quiet (fail)
 go_wp2_with (go_at_call 85;refine (gE _ _ _).mono ?_;rintro e w1 ⟨rfl,d⟩;have o:Below w.heap.size w w1:=(by rw [d];exact ((Below.refl _ w).drewN _).alloc (ah _) _);have i:=ae (fK o m C.out);have g1:w1.heap[w.heap.size]?=some (.cells #[.int .i64 1,.int .i64 to,.nilIface] 166 (0,0)):=(by rw [d];exact fL (w.drewN _) _);have s:=ae g1;clear g1;have d3:w1.cell? ⟨c,3,none⟩=some (.pointer none):=af _ c 3 _ _ _ i.out;have I:w1.frozen? ⟨c,3,none⟩=false:=ao _ c 3 _ _ i.out;have r:c<w1.heap.size:=fI i.out;clear d)
 go_ret
 have u:=fI s.out
 have D:=heap_setCell w1 c 3 (.pointer (some ⟨w.heap.size,0,none⟩)) i.out
 have q:w.grownBy (w1.setCell ⟨c,3,none⟩ (.pointer (some ⟨w.heap.size,0,none⟩))) (some c):=grownBy_set o _ _
 refine ⟨_,rfl,by have z:=Bh (w1.setCell ⟨c,3,none⟩ (.pointer (some ⟨w.heap.size,0,none⟩))) n y;rw [size_setCell] at z;exact z,by simp [Value.ownBlock];omega,⟨h1,h2,by simp only [];unfold gx;omega,h4,.slice a l.length cap,some ⟨w.heap.size,0,none⟩,?_,?_,j,w.heap.size,rfl,x,?_⟩,grownBy_alloc q _⟩
 ·rw [heap_alloc_old _ _ (by rw [size_setCell];exact r),D];rfl
 ·exact fR.grown (h6) (grownBy_alloc q _) (fun b E e=>h7 (by rw [E,e]))
 ·rw [heap_alloc_old _ _ (by rw [size_setCell];exact u)]
  exact (Below.heap_setCell w1 ⟨c,3,none⟩ _ w.heap.size (Nat.ne_of_gt m)).trans s.out
theorem ED (base c:Nat) (l:List UInt8) (at' to n:Nat) (w:World) (h:CurAt w base c ⟨l,at',to,none⟩) (F:n≤100) (C:1≤n) (hs:to+n≤l.length) :
  Calls Tryz.prog 121 #[.pointer (some ⟨c,0,none⟩),.int .i64 n] w fun e w'=>∃ v,e = .returned v∧BytesAt w' v ((l.drop to).take n)∧v.ownBlock≠some c∧CurAt w' base c ⟨l,to,to+n,none⟩∧w.grownBy w' (some c):=by
 obtain ⟨h1,h2,h3,h4,v,fp,h5,h6,d,h8⟩:=h
 have h7:v.ownBlock≠some c:=fun e=>dD _ (d c e)
 obtain ⟨a,cap,rfl,o,q⟩:=h6.opened
 obtain rfl:fp=none:=h8
 obtain ⟨b,off,rfl,-⟩:=q 0 (by simp only [] at hs⊢;omega)
 have c0:w.cell? ⟨c,0,none⟩=some (.slice (some ⟨b,off,none⟩) l.length cap):=af w c 0 _ _ _ h5
 have c1:w.cell? ⟨c,1,none⟩=some (.int .i64 at'):=af w c 1 _ _ _ h5
 have c2:w.cell? ⟨c,2,none⟩=some (.int .i64 to):=af w c 2 _ _ _ h5
 have c3:w.cell? ⟨c,3,none⟩=some (.pointer none):=af w c 3 _ _ _ h5
 have f1:=ao w c 1 _ _ h5
 have f2:=ao w c 2 _ _ h5
 have f3:=ao w c 3 _ _ h5
 have D:=fI h5
 have x:=ae h5
 have G:=ae q
 simp only [] at h1 h2 h3 o
 unfold gx at h3
 clear h5 q
 have I:(to:Int)≤to+n:=by omega
 have J:(to:Int)+n≤cap:=by omega
 have M:to+n≤cap:=by omega
 have N:¬(to:Int)+n<0:=by omega
 have E:¬(l.length:Int)-to<n:=by omega
 go_enter Tryz.func121,Tryz.ntmps121
 go_wp2
 go_quiet (fail)
 go_wp2
 go_region
 all_goals (go_wp2;go_quiet (fail);go_wp2)
 go_ret
 have y:to+n-to=n:=by omega
 have r:=heap_setCell w c 1 (.int .i64 to) x.out
 have s:=heap_setCell (w.setCell ⟨c,1,none⟩ (.int .i64 to)) c 2 (.int .i64 (to+n:Nat)) r
 have i:∀ k m,w.grownBy ((((w.drewN k).setCell ⟨c,1,none⟩ (.int .i64 to)).setCell ⟨c,2,none⟩ (.int .i64 (to+n:Nat))).drewN m) (some c):=fun k m =>
  om (gC (grownBy_set ((Below.refl _ w).drewN k) 1 _) 2 _) m
 have j:∀ k m,BytesAt ((((w.drewN k).setCell ⟨c,1,none⟩ (.int .i64 to)).setCell ⟨c,2,none⟩ (.int .i64 (to+n:Nat))).drewN m) (.slice (some ⟨b,off,none⟩) l.length cap) l:=fun k m =>
  fR.grown h6 (i k m) (fun b B e=>h7 (by rw [B,e]))
 refine ⟨_,rfl,?_,h7,⟨hs,ei _ _,by simp only [];unfold gx;omega,h4,.slice (some ⟨b,off,none⟩) l.length cap,none,s,j _ _,d,rfl⟩,i _ _⟩
 have u:(l.take (to+n)).drop to=(l.drop to).take n:=by rw [List.drop_take,y]
 rw [←u]
 exact ((j _ _).sub to (to+n) (ei _ _) hs).cap' (ah _)
theorem kx {w w':World} (b:Below w.heap.size w w') (r:Option Nat):w.grownBy w' r:=⟨b.os,b.tape,b.output,b.size,fun k hk _=>b.block k hk⟩
theorem jH (base c:Nat) (cu:Cu) (n:Nat) (w:World) (h:CurAt w base c cu) (i:base≤w.heap.size) (b:n≤100) (d:1≤n) :
  Calls Tryz.prog 121 #[.pointer (some ⟨c,0,none⟩),.int .i64 n] w fun e w'=>∃ v,e = .returned v∧BytesAt w' v (cu.take n).2∧v.ownBlock≠some c∧CurAt w' base c (cu.take n).1∧w.grownBy w' (some c):=by
 obtain ⟨l,at',to,f⟩:=cu
 cases f with
 | some x =>
  obtain ⟨k,p⟩:=x
  exact (CW base c l at' to k p n w h b).mono fun e w' ⟨v,h1,h2,h3,h4⟩=>⟨v,h1,h2,h3,h.fW h4,kx h4 _⟩
 | none =>
  by_cases hs:l.length<to+n
  ·simp only [Cu.take,aF hs]
   exact CX base c l at' to n w h i b hs
  ·simp only [Cu.take,aw hs]
   exact ED base c l at' to n w h b d (by omega)
theorem CurAt.se {w w1:World} {base c:Nat} {l:List UInt8} {at' to:Nat} (h:CurAt w base c ⟨l,at',to,none⟩) (q:base≤w.heap.size) (k n:Nat) (m:Nat)
  (hw:w1=(w.drewN m).alloc (.cells #[.int .i64 k,.int .i64 n,.nilIface] 166)) :
  CurAt (w1.setCell ⟨c,3,none⟩ (.pointer (some ⟨w.heap.size,0,none⟩))) base c ⟨l,at',to,some (k,n)⟩∧w.grownBy (w1.setCell ⟨c,3,none⟩ (.pointer (some ⟨w.heap.size,0,none⟩))) (some c):=by
 obtain ⟨h1,h2,h3,h4,v,fp,h5,h6,d,h8⟩:=h
 have h7:v.ownBlock≠some c:=fun e=>dD _ (d c e)
 have i:=fI h5
 have j:Below w.heap.size w w1:=by rw [hw];exact ((Below.refl _ w).drewN _).alloc (ah _) _
 have g1:w1.heap[w.heap.size]?=some (.cells #[.int .i64 k,.int .i64 n,.nilIface] 166 (0,0)):=by rw [hw];exact fL (w.drewN _) _
 have o:=grownBy_set j 3 (.pointer (some ⟨w.heap.size,0,none⟩)) (c:=c)
 refine ⟨⟨h1,h2,h3,h4,v,some ⟨w.heap.size,0,none⟩,heap_setCell w1 c 3 _ (fK j i h5),fR.grown h6 o (fun b r e=>h7 (by rw [r,e])),d,w.heap.size,rfl,q,?_⟩,o⟩
 exact (Below.heap_setCell w1 ⟨c,3,none⟩ _ w.heap.size (Nat.ne_of_gt i)).trans g1
theorem D4 (base c:Nat) (cu:Cu) (ok:Bool) (k:Nat) (w:World) (h:CurAt w base c cu) (b:cu.f≠none∨ok=true) :
  Calls Tryz.prog 142 #[.pointer (some ⟨c,0,none⟩),.bool ok,.int .i64 k] w fun e w'=>e = .returned (.tuple #[])∧CurAt w' base c (cu.jr ok k)∧w.grownBy w' (some c):=by
 have hm:cu.jr ok k=cu:=by
  unfold Cu.jr
  rcases b with b | b
  ·cases hc:cu.f with
   | none=>exact absurd hc b
   | some x=>rfl
  ·cases hc:cu.f with
   | none=>simp [b]
   | some x=>rfl
 rw [hm]
 have H:=ae h
 obtain ⟨h1,h2,h3,h4,v,fp,h5,h6,h7,h8⟩:=h
 have c3:w.cell? ⟨c,3,none⟩=some (.pointer fp):=af w c 3 _ _ _ h5
 have l:=fI h5
 clear h5 h6 hm
 by_cases d:ok=true
 ·subst d
  by_cases hc:fp=none
  ·subst hc
   go_enter Tryz.func142,Tryz.ntmps142
   go_wp2
   go_end0
   exact ⟨rfl,H.out,kx (Below.refl _ w) _⟩
  ·obtain ⟨a,rfl⟩:=eU.1 hc
   go_enter Tryz.func142,Tryz.ntmps142
   go_wp2
   go_end0
   exact ⟨rfl,H.out,kx (Below.refl _ w) _⟩
 ·have i:cu.f≠none:=b.resolve_right d
  obtain ⟨x,j⟩:=eU.1 i
  rw [j] at h8
  obtain ⟨g,rfl,-,-⟩:=h8
  clear b i j
  go_enter Tryz.func142,Tryz.ntmps142
  go_wp2
  go_end0
  exact ⟨rfl,H.out,kx (Below.refl _ w) _⟩
theorem Cv (base c:Nat) (l:List UInt8) (at' to k:Nat) (w:World) (h:CurAt w base c ⟨l,at',to,none⟩) (m:base≤w.heap.size) :
  Calls Tryz.prog 142 #[.pointer (some ⟨c,0,none⟩),.bool false,.int .i64 k] w fun e w'=>e = .returned (.tuple #[])∧CurAt w' base c ⟨l,at',to,some (k,at')⟩∧w.grownBy w' (some c):=by
 have H:=ae h
 obtain ⟨h1,h2,h3,h4,v,fp,h5,h6,h7,h8⟩:=h
 obtain rfl:fp=none:=h8
 have c3:w.cell? ⟨c,3,none⟩=some (.pointer none):=af w c 3 _ _ _ h5
 have c1:w.cell? ⟨c,1,none⟩=some (.int .i64 at'):=af w c 1 _ _ _ h5
 have j:=ae h5
 have b:=fI h5
 clear h5 h6
 go_enter Tryz.func142,Tryz.ntmps142
 go_wp2_with (go_at_call 85;refine (gE _ _ _).mono ?_;rintro e w1 ⟨rfl,d⟩;have o:=ae d;have i:Below w.heap.size w w1:=(by rw [d];exact (Below.refl _ w).alloc (ah _) _);have d3:w1.cell? ⟨c,3,none⟩=some (.pointer none):=af _ c 3 _ _ _ (fK i b j.out);have r:w1.frozen? ⟨c,3,none⟩=false:=ao _ c 3 _ _ (fK i b j.out);have q:c<w1.heap.size:=fI (fK i b j.out);clear d)
 go_end0
 exact ⟨rfl,H.out.se m k at' 0 o.out⟩
theorem iK (base c:Nat) (cu:Cu) (ok:Bool) (k:Nat) (w:World) (h:CurAt w base c cu) (d:base≤w.heap.size) :
  Calls Tryz.prog 142 #[.pointer (some ⟨c,0,none⟩),.bool ok,.int .i64 k] w fun e w'=>e = .returned (.tuple #[])∧CurAt w' base c (cu.jr ok k)∧w.grownBy w' (some c):=by
 by_cases b:cu.f≠none∨ok=true
 ·exact D4 base c cu ok k w h b
 ·obtain ⟨l,at',to,f⟩:=cu
  have h1:f=none:=by simpa using (not_or.1 b).1
  have h2:ok=false:=by simpa using (not_or.1 b).2
  subst h1 h2
  exact Cv base c l at' to k w h d
end Go.Proofs.YtkkfmkhbdoeglaaGreatDoor
namespace Go.Proofs.YtkkfmkhbdoeglaaGreatDoor
open Go.RowKit
def iL (l:List UInt8):Nat:=l.foldl (fun v x=>v*256+x.toNat) 0
theorem Ec (l:List UInt8) (x:UInt8):iL (l++[x])=iL l*256+x.toNat:=by simp [iL]
theorem qM (l:List UInt8) (k:Nat) (h:k<l.length):iL (l.take (k+1))=iL (l.take k)*256+l[k].toNat:=by
 rw [aO h,Ec]
theorem qL:∀ (k:Nat) (l:List UInt8),k≤l.length→iL (l.take k)<256^k
 | 0,l,_=>by simp [iL]
 | k+1,l,h=>by
  have ih:=qL k l (by omega)
  have b:=(l[k]'(by omega)).toNat_lt
  rw [qM l k (by omega),Nat.pow_succ]
  omega
theorem BM (base c:Nat) (cu:Cu) (w:World) (h:CurAt w base c cu) (d:cu.f≠none∨¬cu.to<cu.l.length) :
  Calls Tryz.prog 143 #[.pointer (some ⟨c,0,none⟩)] w fun e w'=>e = .returned (.tuple #[])∧CurAt w' base c cu.ended∧w.grownBy w' (some c):=by
 have hm:cu.ended=cu:=by
  unfold Cu.ended
  cases hc:cu.f with
  | some x=>rfl
  | none=>simp [d.resolve_left (fun k=>k hc)]
 rw [hm]
 have H:=ae h
 obtain ⟨h1,h2,h3,h4,v,fp,h5,h6,h7,h8⟩:=h
 obtain ⟨a,cap,rfl,j,-⟩:=h6.opened
 have c0:w.cell? ⟨c,0,none⟩=some (.slice a cu.l.length cap):=af w c 0 _ _ _ h5
 have c2:w.cell? ⟨c,2,none⟩=some (.int .i64 cu.to):=af w c 2 _ _ _ h5
 have c3:w.cell? ⟨c,3,none⟩=some (.pointer fp):=af w c 3 _ _ _ h5
 have o:=fI h5
 clear h5 h6 hm
 cases b:fp with
 | some p =>
  subst b
  go_enter Tryz.func143,Tryz.ntmps143
  go_wp2
  go_quiet (fail)
  go_wp2
  go_end0
  exact ⟨rfl,H.out.fW ((Below.refl _ w).drewN _),kx ((Below.refl _ w).drewN _) _⟩
 | none =>
  subst b
  have i:cu.f=none:=by
   cases hc:cu.f with
   | none=>rfl
   | some x=>rw [hc] at h8;obtain ⟨g,m,_⟩:=h8;cases m
  have hle:¬(cu.to:Int)<cu.l.length:=by have:=d.resolve_left (fun k=>k i);omega
  go_enter Tryz.func143,Tryz.ntmps143
  go_wp2
  go_quiet (fail)
  go_wp2
  go_end0
  exact ⟨rfl,H.out.fW ((Below.refl _ w).drewN _),kx ((Below.refl _ w).drewN _) _⟩
theorem zY (base c:Nat) (l:List UInt8) (at' to:Nat) (w:World) (h:CurAt w base c ⟨l,at',to,none⟩) (m:base≤w.heap.size) (hs:to<l.length) :
  Calls Tryz.prog 143 #[.pointer (some ⟨c,0,none⟩)] w fun e w'=>e = .returned (.tuple #[])∧CurAt w' base c ⟨l,at',to,some (2,to)⟩∧w.grownBy w' (some c):=by
 have H:=ae h
 obtain ⟨h1,h2,h3,h4,v,fp,h5,h6,h7,h8⟩:=h
 obtain ⟨a,cap,rfl,o,-⟩:=h6.opened
 obtain rfl:fp=none:=h8
 have c0:w.cell? ⟨c,0,none⟩=some (.slice a l.length cap):=af w c 0 _ _ _ h5
 have c2:w.cell? ⟨c,2,none⟩=some (.int .i64 to):=af w c 2 _ _ _ h5
 have c3:w.cell? ⟨c,3,none⟩=some (.pointer none):=af w c 3 _ _ _ h5
 have j:=ae h5
 have b:=fI h5
 have s:(to:Int)<l.length:=by omega
 clear h5 h6
 go_enter Tryz.func143,Tryz.ntmps143
 go_wp2
 go_quiet (fail)
 go_wp2_with (go_at_call 85;refine (gE _ _ _).mono ?_;rintro e w1 ⟨rfl,d⟩;have q:=ae d;have i:Below w.heap.size w w1:=(by rw [d];exact ((Below.refl _ w).drewN _).alloc (ah _) _);have d3:w1.cell? ⟨c,3,none⟩=some (.pointer none):=af _ c 3 _ _ _ (fK i b j.out);have u:w1.frozen? ⟨c,3,none⟩=false:=ao _ c 3 _ _ (fK i b j.out);have r:c<w1.heap.size:=fI (fK i b j.out);clear d)
 go_end0
 exact ⟨rfl,H.out.se m 2 to _ q.out⟩
theorem xC (base c:Nat) (cu:Cu) (w:World) (h:CurAt w base c cu) (d:base≤w.heap.size) :
  Calls Tryz.prog 143 #[.pointer (some ⟨c,0,none⟩)] w fun e w'=>e = .returned (.tuple #[])∧CurAt w' base c cu.ended∧w.grownBy w' (some c):=by
 by_cases b:cu.f≠none∨¬cu.to<cu.l.length
 ·exact BM base c cu w h b
 ·obtain ⟨l,at',to,f⟩:=cu
  have h1:f=none:=by simpa using (not_or.1 b).1
  have h2:to<l.length:=Decidable.not_not.1 (not_or.1 b).2
  subst h1
  simp only [Cu.ended,aF h2]
  exact zY base c l at' to w h d h2
theorem Cu.take_length (cu:Cu) (n:Nat):(cu.take n).2.length=n:=by
 unfold Cu.take
 cases cu.f with
 | some x=>simp
 | none =>
  by_cases h:cu.l.length<cu.to+n
  ·simp [h]
  ·simp [h];omega
theorem mo (base c:Nat) (cu:Cu) (w:World) (h:CurAt w base c cu) (u:base≤w.heap.size) :
  Calls Tryz.prog 120 #[.pointer (some ⟨c,0,none⟩)] w fun e w'=>e = .returned (.int .u64 (iL (cu.take 8).2))∧CurAt w' base c (cu.take 8).1∧w.grownBy w' (some c):=by
 obtain ⟨l,hl⟩:∃ l,l=(cu.take 8).2:=⟨_,rfl⟩
 have hlen:l.length=8:=by rw [hl,Cu.take_length]
 have x:=ae hl
 rw [←hl]
 clear hl
 go_enter Tryz.func120,Tryz.ntmps120
 go_wp2_with (go_at_call 121;refine (jH base c cu 8 _ h u (by decide) (by decide)).mono ?_;rintro e w1 ⟨v,rfl,d,m,o,q⟩;rw [←x.out] at d;obtain ⟨a,cap,rfl,y,r⟩:=d.opened;have B:=ae r;clear r d m)
 go_loop [3,9] (fun c i=>∃ k:Nat,k≤8∧i = .int .i64 k∧c = .int .u64 (iL (l.take k))) (fun _ i=>8-(intOf i).toNat)
 case atStart=>exact ⟨0,by omega,rfl,by simp [iL]⟩
 case round =>
  obtain ⟨k,hk,rfl,rfl⟩:=hrel
  by_cases h8:k<8
  ·have j:=qL k l (by omega)
   have hle:iL (l.take k)<256^7:=aC j (eR (by decide) (by omega))
   have H:=ae (qM l k (by omega))
   obtain ⟨b,off,rfl,s⟩:=B.out k (by omega)
   have D:=(l[k]'(by omega)).toNat_lt
   generalize iL (l.take k)=v at *
   clear j
   have d:v<72057594037927936:=hle
   clear hle
   go_wp2
   go_round
   case rel =>
    refine ⟨k+1,by omega,by go_num,?_⟩
    have C:v*256 ||| (l[k]'(by omega)).toNat=v*256+(l[k]'(by omega)).toNat:=nat_join 8 _ _ (by omega) (by omega)
    rw [show ((v:Int)*256)=((v*256:Nat):Int) by omega,u64_or_nat _ _ (by omega) (by omega),C,H.out]
   case measure=>simp [intOf];omega
  ·obtain rfl:k=8:=by omega
   rw [aS (by omega)]
   go_wp2
   go_ret
   exact ⟨rfl,o,q⟩
end Go.Proofs.YtkkfmkhbdoeglaaGreatDoor
namespace Go.Proofs.YtkkfmkhbdoeglaaGreatDoor
open Go.RowKit
abbrev K:=Int×List UInt8
def kV (x:K):Value:=iX x.1 x.2
theorem gT (em:Bool) (x:K) (w:World):(Instr.checkKey em 10000 94 (kV x)).run Tryz.prog w = .ok () w:=by
 have h:∀ n,(Instr.checkKey em (n+2) 94 (kV x)).run Tryz.prog w = .ok () w:=by
  intro n
  have h1:(part 3 #[Value.int .i64 x.1,.string ⟨x.2.toArray⟩] 0).run Tryz.prog w = .ok (.int .i64 x.1) w:=cP w (by kernel_rfl) rfl
  have h2:(part 9 #[Value.int .i64 x.1,.string ⟨x.2.toArray⟩] 1).run Tryz.prog w = .ok (.string ⟨x.2.toArray⟩) w:=cP w (by kernel_rfl) rfl
  simp [Instr.checkKey,kV,iX,aN Tryz.underlying94,aN Tryz.underlying3,aN Tryz.underlying9,h1,h2,Result.andThen]
 exact h 9998
theorem sP (x y:K) (w:World):(Op.equal 94 (kV x) (kV y)).run Tryz.prog w = .ok (x==y) w:=by
 have h1:∀ x:K,(part 3 #[Value.int .i64 x.1,.string ⟨x.2.toArray⟩] 0).run Tryz.prog w = .ok (.int .i64 x.1) w:=fun x=>cP w (by kernel_rfl) rfl
 have h2:∀ x:K,(part 9 #[Value.int .i64 x.1,.string ⟨x.2.toArray⟩] 1).run Tryz.prog w = .ok (.string ⟨x.2.toArray⟩) w:=fun x=>cP w (by kernel_rfl) rfl
 obtain ⟨a,b⟩:=x
 obtain ⟨c,d⟩:=y
 have hd:∀ n,(Op.equalIn (n+2) 94 (iX a b) (iX c d)).run Tryz.prog w = .ok ((a,b)==(c,d)) w:=by
  intro n
  have l:((⟨b.toArray⟩:ByteArray)==⟨d.toArray⟩)=(b==d):=by
   cases i:(b==d) with
   | true=>rw [bj] at i;subst i;exact (cR _ _).2 rfl
   | false =>
    rw [aD] at i
    cases o:((⟨b.toArray⟩:ByteArray)==⟨d.toArray⟩) with
    | false=>rfl
    | true =>
     have:=(cR _ _).1 o
     simp at this
     exact absurd this i
  have j:Tryz.prog.underlying 94=some (.struct (Tryz.prog.fieldsOf 94)):=by kernel_rfl
  have q:Tryz.prog.stoodInHeld 94=false:=by kernel_rfl
  have r:=TypeDesc.struct.inj (Option.some.inj (j.symm.trans Tryz.underlying94))
  have s:∀ m (x y:Int),(Op.equalIn (m+1) 3 (.int .i64 x) (.int .i64 y)).run Tryz.prog w = .ok (x==y) w:=fun m x y=>by simp [Op.equalIn,aN Tryz.underlying3]
  have u:∀ m (x y:ByteArray),(Op.equalIn (m+1) 9 (.string x) (.string y)).run Tryz.prog w = .ok (x==y) w:=fun m x y=>by simp [Op.equalIn,aN Tryz.underlying9]
  unfold iX
  rw [ft w (n+1) 94 _ _ j q,r]
  simp only [Op.eqFields]
  rw [aF (by decide),aF (by decide)]
  simp only [bY,h1 (a,b),h1 (c,d),s,bQ]
  show _=Result.ok ((a==c)&&(b==d)) w
  cases B:(a==c) with
  | false=>simp
  | true =>
   simp only [Bool.not_true,ek,df,bY,h2 (a,b),h2 (c,d),u,bQ,l,Bool.true_and]
   cases (b==d) <;> simp
 exact hd 9998
def gJ (k:K):List (K×Value)→Nat→Option (Nat×Value)
 | [],_=>none
 | e::es,i=>if k==e.1 then some (i,e.2) else gJ k es (i+1)
theorem kv (k:K) (w:World):∀ (es:List MapEntry) (l:List (K×Value)) (_:es.map (fun e=>(e.key,e.val))=l.map (fun x=>(kV x.1,x.2))),(Instr.findKey 94 (kV k) es).run Tryz.prog w = .ok (gJ k l 0) w:=by
 have go:∀ (es:List MapEntry) (l:List (K×Value)) (i:Nat) (_:es.map (fun e=>(e.key,e.val))=l.map (fun x=>(kV x.1,x.2))),(Instr.findAsking 94 (kV k) es i).run Tryz.prog w = .ok (gJ k l i) w:=by
  intro es
  induction es with
  | nil =>
   intro l i h
   cases l with
   | nil=>rfl
   | cons x l=>cases h
  | cons e es ih =>
   intro l i h
   cases l with
   | nil=>cases h
   | cons x l =>
    rw [bq,bq] at h
    have h1:=(List.cons.inj h).1
    have h2:=(List.cons.inj h).2
    have b:e.key=kV x.1:=(Prod.mk.inj h1).1
    have d:e.val=x.2:=(Prod.mk.inj h1).2
    unfold Instr.findAsking gJ
    rw [bY,b,sP]
    cases hk:(k==x.1) with
    | false =>
     rw [bQ]
     exact ih l (i+1) h2
    | true =>
     rw [d]
     rfl
 intro es l h
 rw [run_findKey_eq w (k:=94) (by rw [Tryz.underlying94])]
 exact go es l 0 h
theorem oK (x:K) (w:World):(Instr.keyThatStays (kV x) (kV x)).run Tryz.prog w = .ok (kV x) w:=by
 have h:∀ n,Instr.sameBits (n+2) (kV x) (kV x)=true:=by
  intro n
  simp [Instr.sameBits,kV,iX]
  exact (cR _ _).2 rfl
 have b:Instr.sameBits 10000 (kV x) (kV x)=true:=h 9998
 simp only [Instr.keyThatStays,b,dL]
 rfl
def fS (w:World) (r:Nat) (l:List (K×Value)):Prop :=
 ∃ es clock,w.heap[r]?=some (.map es clock)∧es.toList.map (fun e=>(e.key,e.val))=l.map (fun x=>(kV x.1,x.2))∧(∀ e∈es.toList,e.born<clock)∧(es.toList.map (·.born)).Nodup∧(l.map (·.1)).Nodup
theorem fS.lt {w:World} {r:Nat} {l:List (K×Value)} (h:fS w r l):r<w.heap.size:=by
 obtain ⟨es,clock,h,_⟩:=h
 exact fI h
theorem fS.fW {w w':World} {r:Nat} {l:List (K×Value)} (h:fS w r l) (b:w'.heap[r]?=w.heap[r]?):fS w' r l:=by
 obtain ⟨es,clock,h,x⟩:=h
 exact ⟨es,clock,b.trans h,x⟩
theorem fS.new (w:World):fS (w.alloc (.map #[] 0)) w.heap.size []:=⟨#[],0,fL _ _,rfl,by simp,by simp,by simp⟩
def nk (k:K) (l:List (K×Value)):Option Value:=(l.find? (fun x=>k==x.1)).map (·.2)
theorem kK (k:K):∀ (l:List (K×Value)) (i:Nat),(gJ k l i).map (·.2)=nk k l
 | [],i=>rfl
 | x::l,i=>by
  unfold gJ nk
  rw [dW]
  cases h:(k==x.1) with
  | true=>rfl
  | false=>exact kK k l (i+1)
theorem o9 (k:K):∀ (l:List (K×Value)) (i:Nat),(∀ x∈l,x.1≠k)→gJ k l i=none
 | [],i,_=>rfl
 | x::l,i,h=>by
  unfold gJ
  have:(k==x.1)=false:=by rw [aD];exact fun e=>h x ck e.symm
  rw [this]
  exact o9 k l (i+1) fun y b=>h y (aT _ b)
section
variable {w:World} {r:Nat} {l:List (K×Value)} {mt e:TypeId} {z:Value}
theorem fS.lookup (h:fS w r l) (d:Tryz.prog.underlying mt=some (.map 94 e)) (m:(zeroValue e).run Tryz.prog w = .ok z w) (k:K) :
  (Instr.lookup mt (.map (some r)) (kV k) false).run Tryz.prog w = .ok ((nk k l).getD z) w:=by
 obtain ⟨es,clock,j,hl,_⟩:=h
 have b:=kv k w es.toList l hl
 rw [←kK k l 0]
 cases hk:gJ k l 0 with
 | none =>
  rw [hk] at b
  simp [Instr.lookup,aN d,aM j,gT,b,m,Result.andThen]
 | some x =>
  rw [hk] at b
  obtain ⟨i,v⟩:=x
  simp [Instr.lookup,aN d,aM j,gT,b,Result.andThen]
theorem fS.kM (h:fS w r l) (d:Tryz.prog.underlying mt=some (.map 94 e)) (m:(zeroValue e).run Tryz.prog w = .ok z w) (k:K) :
  (Instr.lookup mt (.map (some r)) (kV k) true).run Tryz.prog w = .ok (.tuple #[(nk k l).getD z,.bool (nk k l).isSome]) w:=by
 obtain ⟨es,clock,j,hl,_⟩:=h
 have b:=kv k w es.toList l hl
 rw [←kK k l 0]
 cases hk:gJ k l 0 with
 | none =>
  rw [hk] at b
  simp [Instr.lookup,aN d,aM j,gT,b,m,Result.andThen]
 | some x =>
  rw [hk] at b
  obtain ⟨i,v⟩:=x
  simp [Instr.lookup,aN d,aM j,gT,b,Result.andThen]
end
end Go.Proofs.YtkkfmkhbdoeglaaGreatDoor
namespace Go.Proofs.YtkkfmkhbdoeglaaGreatDoor
open Go.RowKit Go.WideElems Go.WideMaps Go.ChangeMaps
def mD (k:K) (v:Value) (l:List (K×Value)):List (K×Value) :=
 match gJ k l 0 with
 | some (j,_)=>l.set j (k,v)
 | none=>l++[(k,v)]
def vA (k:K) (l:List (K×Value)):List (K×Value) :=
 match gJ k l 0 with
 | some (j,_)=>l.eraseIdx j
 | none=>l
theorem jw (k:K):∀ (l:List (K×Value)) (i j:Nat) (v:Value),gJ k l i=some (j,v)→i≤j∧l[j-i]?=some (k,v)
 | [],_,_,_,h=>by simp [gJ] at h
 | x::l,i,j,v,h=>by
  unfold gJ at h
  cases hk:(k==x.1) with
  | true =>
   rw [hk,aF rfl] at h
   cases h
   rw [bj] at hk
   subst hk
   simp
  | false =>
   rw [hk,aw (by simp)] at h
   obtain ⟨h1,h2⟩:=jw k l (i+1) j v h
   refine ⟨by omega,?_⟩
   rw [show j-i=(j-(i+1))+1 by omega,aY]
   exact h2
theorem iI (k:K):∀ (l:List (K×Value)) (i:Nat),gJ k l i=none→∀ x∈l,x.1≠k
 | [],_,_,x,b=>by simp at b
 | y::l,i,h,x,b=>by
  unfold gJ at h
  cases hk:(k==y.1) with
  | true=>rw [hk,aF rfl] at h;cases h
  | false =>
   rw [hk,aw (by simp)] at h
   rcases aV.1 b with rfl | b
   ·rw [aD] at hk
    exact fun e=>hk e.symm
   ·exact iI k l (i+1) h x b
theorem oJ {l:List (K×Value)} {j:Nat} {k:K} {v u:Value} (h:l[j]?=some (k,u)):(l.set j (k,v)).map (·.1)=l.map (·.1):=by
 rw [cZ]
 exact set_self _ _ _ (by rw [bh,h];rfl)
theorem gi {w:World} {r:Nat} {es:Array MapEntry} {clock:Nat} {b:Obj} (h:w.heap[r]?=some (.map es clock)):w.grownBy (setBlock w r b) (some r) :=
 ⟨rfl,rfl,rfl,by simp [setBlock],fun k _ hk=>heap_setBlock_other h _ (fun e=>hk (by rw [e]))⟩
theorem fX {w:World} {r:Nat} {o b:Obj} (h:w.heap[r]?=some o):(setBlock w r b).heap[r]?=some b:=by
 have d:=fI h
 simp [setBlock,d]
section
variable {w:World} {r:Nat} {l:List (K×Value)} {mt e:TypeId} {z:Value}
theorem fS.entry (h:fS w r l) (S:Tryz.prog.underlying mt=some (.map 94 e)) (X:∀ u:World,(zeroValue e).run Tryz.prog u = .ok z u) (k:K) :
  ∃ m st,(∀ n,(Instr.mapEntry mt (.map (some r)) (kV k)).run Tryz.prog (w.drewN n) = .ok (.tuple #[(nk k l).getD z,goInt st]) (m.drewN n))∧fS m r (mD k ((nk k l).getD z) l)∧w.grownBy m (some r)∧m.heap.size=w.heap.size∧
   ∀ v,∃ D,(∀ n,(Instr.entryStore mt (.map (some r)) (goInt st) v).run Tryz.prog (m.drewN n) = .ok () (D.drewN n))∧fS D r (mD k v l)∧m.grownBy D (some r)∧D.heap.size=m.heap.size:=by
 obtain ⟨es,clock,B,hl,hc,E,hk⟩:=h
 have F:∀ n,(Instr.findKey 94 (kV k) es.toList).run Tryz.prog (w.drewN n) = .ok (gJ k l 0) (w.drewN n):=fun n=>kv k (w.drewN n) es.toList l hl
 have q:∀ n,(w.drewN n).heap[r]?=some (.map es clock):=fun n=>B
 rw [←kK k l 0]
 unfold mD
 cases s:gJ k l 0 with
 | none =>
  rw [s] at F
  have O:=iI k l 0 s
  have G:(es.push ⟨kV k,z,clock⟩).toList.map (·.born)=es.toList.map (·.born)++[clock]:=by simp
  have C:((es.push ⟨kV k,z,clock⟩).toList.map (·.born)).Nodup:=by
   rw [G]
   refine cj.2 ⟨E,by simp,fun a ha c y U => ?_⟩
   simp only [az] at y
   obtain ⟨x,d,rfl⟩:=aB.1 ha
   have:=hc x d
   omega
  have M:∀ v:Value,((l++[(k,v)]).map (·.1)).Nodup:=fun v=>by
   rw [bC]
   refine cj.2 ⟨hk,by simp,fun a ha c y U => ?_⟩
   simp at y
   obtain ⟨x,d,rfl⟩:=aB.1 ha
   exact O x d (U.trans y)
  have N:∀ v:Value,∀ x∈(es.push ⟨kV k,v,clock⟩).toList,x.born<clock+1:=by
   intro v x d
   simp at d
   rcases d with d | rfl
   ·have:=hc x (by simpa using d);omega
   ·simp
  have b:(setBlock w r (.map (es.push ⟨kV k,z,clock⟩) (clock+1))).heap[r]?=some (.map (es.push ⟨kV k,z,clock⟩) (clock+1)):=fX B
  refine ⟨setBlock w r (.map (es.push ⟨kV k,z,clock⟩) (clock+1)),clock,fun n => ?_,⟨_,_,b,by simp [hl],N z,C,M _⟩,gi B,by simp [setBlock],
   fun v=>⟨setBlock (setBlock w r (.map (es.push ⟨kV k,z,clock⟩) (clock+1))) r (.map (es.push ⟨kV k,v,clock⟩) (clock+1)),fun n => ?_,⟨_,_,fX b,by simp [hl],N v,by simpa using C,M _⟩,gi b,by simp [setBlock]⟩⟩
  ·simp [Instr.mapEntry,aN S,aM (q n),gT,F,X,bf _ (q n),Result.andThen]
   rfl
  ·have o:(es.push ⟨kV k,z,clock⟩).findIdx? (fun e=>((e.born:Nat):Int)==((clock:Nat):Int))=some es.size:=by
    rw [findIdx_arr]
    exact findIdx_born (l:=(es.push ⟨kV k,z,clock⟩).toList) (j:=es.size) (e0:=⟨kV k,z,clock⟩) C (by simp)
   have Q:(es.push ⟨kV k,z,clock⟩).modify es.size (fun e => {e with val:=v})=es.push ⟨kV k,v,clock⟩:=by
    apply Array.ext'
    rw [bJ,fC,fC,←dh,modify_last]
   have i:((setBlock w r (.map (es.push ⟨kV k,z,clock⟩) (clock+1))).drewN n).heap[r]?=some (.map (es.push ⟨kV k,z,clock⟩) (clock+1)):=b
   simp [Instr.entryStore,aM i,asInt,asIntOf,goInt,o,Q,bf _ i,Result.andThen]
   rfl
 | some x =>
  obtain ⟨j,u⟩:=x
  rw [s] at F
  obtain ⟨-,I⟩:=jw k l 0 j u s
  rw [cL] at I
  have V:∃ e0,es.toList[j]?=some e0∧e0.key=kV k∧e0.val=u:=by
   have h1:(es.toList.map (fun e=>(e.key,e.val)))[j]?=some (kV k,u):=by rw [hl,bh,I];rfl
   rw [bh] at h1
   obtain ⟨e0,h2,h3⟩:=cw.1 h1
   exact ⟨e0,h2,(Prod.mk.inj h3).1,(Prod.mk.inj h3).2⟩
  obtain ⟨e0,h2,h3,h4⟩:=V
  have W:es[j]?=some e0:=by simpa using h2
  have J:es.modify j (fun e => {e with key:=kV k})=es:=by
   apply Array.ext'
   rw [bJ,cY _ _ _ _ h2]
   have:({e0 with key:=kV k} : MapEntry)=e0:=by rw [←h3]
   rw [this]
   exact set_self _ _ _ h2
  have R:l.set j (k,u)=l:=set_self _ _ _ I
  simp only [dX,bT,R]
  have b:(setBlock w r (.map es clock)).heap[r]?=some (.map es clock):=fX B
  refine ⟨setBlock w r (.map es clock),e0.born,fun n => ?_,⟨_,_,b,hl,hc,E,hk⟩,gi B,by simp [setBlock],
   fun v=>⟨setBlock (setBlock w r (.map es clock)) r (.map (es.modify j (fun e => {e with val:=v})) clock),fun n => ?_,⟨_,_,fX b,?_,?_,?_,?_⟩,gi b,by simp [setBlock]⟩⟩
  ·simp [Instr.mapEntry,aN S,aM (q n),gT,F,W,h3,oK,J,bf _ (q n),Result.andThen]
   rfl
  ·have o:es.findIdx? (fun e=>((e.born:Nat):Int)==((e0.born:Nat):Int))=some j:=by
    rw [findIdx_arr]
    exact findIdx_born E h2
   have i:((setBlock w r (.map es clock)).drewN n).heap[r]?=some (.map es clock):=b
   simp [Instr.entryStore,aM i,asInt,asIntOf,goInt,o,bf _ i,Result.andThen]
   rfl
  ·rw [bJ,cY _ _ _ _ h2,cZ,hl,cZ,h3]
  ·intro x d
   rw [bJ,cY _ _ _ _ h2] at d
   rcases cT d with d | rfl
   ·exact hc x d
   ·exact hc e0 (aZ h2)
  ·rw [bJ,cY _ _ _ _ h2,cZ]
   rw [set_self _ _ _ (by rw [bh,h2];rfl)]
   exact E
  ·rw [oJ I]
   exact hk
end
end Go.Proofs.YtkkfmkhbdoeglaaGreatDoor
namespace Go.Proofs.YtkkfmkhbdoeglaaGreatDoor
open Go.RowKit Go.WideElems Go.ChangeMaps
section
variable {w:World} {r:Nat} {l:List (K×Value)} {mt e:TypeId} {z:Value}
theorem fS.update (h:fS w r l) (D:Tryz.prog.underlying mt=some (.map 94 e)) (k:K) (v:Value) :
  ∃ q,(∀ n,(Instr.mapUpdate mt (.map (some r)) (kV k) v).run Tryz.prog (w.drewN n) = .ok () (q.drewN n))∧fS q r (mD k v l)∧w.grownBy q (some r)∧q.heap.size=w.heap.size:=by
 obtain ⟨es,clock,o,hl,hc,E,hk⟩:=h
 have s:∀ n,(Instr.findKey 94 (kV k) es.toList).run Tryz.prog (w.drewN n) = .ok (gJ k l 0) (w.drewN n):=fun n=>kv k (w.drewN n) es.toList l hl
 have d:∀ n,(w.drewN n).heap[r]?=some (.map es clock):=fun n=>o
 unfold mD
 cases i:gJ k l 0 with
 | none =>
  rw [i] at s
  have B:=iI k l 0 i
  have y:(es.push ⟨kV k,v,clock⟩).toList.map (·.born)=es.toList.map (·.born)++[clock]:=by simp
  have F:((es.push ⟨kV k,v,clock⟩).toList.map (·.born)).Nodup:=by
   rw [y]
   refine cj.2 ⟨E,by simp,fun a ha c m G => ?_⟩
   simp only [az] at m
   obtain ⟨x,b,rfl⟩:=aB.1 ha
   have:=hc x b
   omega
  have I:((l++[(k,v)]).map (·.1)).Nodup:=by
   rw [bC]
   refine cj.2 ⟨hk,by simp,fun a ha c m G => ?_⟩
   simp at m
   obtain ⟨x,b,rfl⟩:=aB.1 ha
   exact B x b (G.trans m)
  have J:∀ x∈(es.push ⟨kV k,v,clock⟩).toList,x.born<clock+1:=by
   intro x b
   simp at b
   rcases b with b | rfl
   ·have:=hc x (by simpa using b);omega
   ·simp
  refine ⟨setBlock w r (.map (es.push ⟨kV k,v,clock⟩) (clock+1)),fun n => ?_,⟨_,_,fX o,by simp [hl],J,F,I⟩,gi o,by simp [setBlock]⟩
  simp [Instr.mapUpdate,aN D,aM (d n),gT,s,bf _ (d n),Result.andThen]
  rfl
 | some x =>
  obtain ⟨j,u⟩:=x
  rw [i] at s
  obtain ⟨-,C⟩:=jw k l 0 j u i
  rw [cL] at C
  have M:∃ e0,es.toList[j]?=some e0∧e0.key=kV k∧e0.val=u:=by
   have h1:(es.toList.map (fun e=>(e.key,e.val)))[j]?=some (kV k,u):=by rw [hl,bh,C];rfl
   rw [bh] at h1
   obtain ⟨e0,h2,h3⟩:=cw.1 h1
   exact ⟨e0,h2,(Prod.mk.inj h3).1,(Prod.mk.inj h3).2⟩
  obtain ⟨e0,h2,h3,h4⟩:=M
  have N:es[j]?=some e0:=by simpa using h2
  refine ⟨setBlock w r (.map (es.modify j (fun e => {e with key:=kV k,val:=v})) clock),fun n => ?_,⟨_,_,fX o,?_,?_,?_,?_⟩,gi o,by simp [setBlock]⟩
  ·simp [Instr.mapUpdate,aN D,aM (d n),gT,s,N,h3,oK,bf _ (d n),Result.andThen]
   rfl
  ·rw [bJ,cY _ _ _ _ h2,cZ,hl,cZ]
  ·intro x b
   rw [bJ,cY _ _ _ _ h2] at b
   rcases cT b with b | rfl
   ·exact hc x b
   ·exact hc e0 (aZ h2)
  ·rw [bJ,cY _ _ _ _ h2,cZ]
   rw [set_self _ _ _ (by rw [bh,h2];rfl)]
   exact E
  ·show ((l.set j (k,v)).map (·.1)).Nodup
   rw [oJ C]
   exact hk
theorem ix {α β:Type} (f : α→β):∀ (l:List α) (j:Nat),(l.eraseIdx j).map f=(l.map f).eraseIdx j
 | [],_=>by simp
 | x::l,0=>rfl
 | x::l,j+1=>by simp [ix f l j]
theorem fS.delete (h:fS w r l) (s:Tryz.prog.underlying mt=some (.map 94 e)) (k:K) (t2 ty:TypeId) :
  ∃ m,(∀ n,(Builtin.delete_ #[mt,t2] ty #[.map (some r),kV k]).run Tryz.prog (w.drewN n) = .ok (.tuple #[]) (m.drewN n))∧fS m r (vA k l)∧w.grownBy m (some r)∧m.heap.size=w.heap.size:=by
 obtain ⟨es,clock,i,hl,hc,y,hk⟩:=h
 have o:∀ n,(Instr.findKey 94 (kV k) es.toList).run Tryz.prog (w.drewN n) = .ok (gJ k l 0) (w.drewN n):=fun n=>kv k (w.drewN n) es.toList l hl
 have d:∀ n,(w.drewN n).heap[r]?=some (.map es clock):=fun n=>i
 unfold vA
 cases q:gJ k l 0 with
 | none =>
  rw [q] at o
  refine ⟨setBlock w r (.map es clock),fun n => ?_,⟨_,_,fX i,hl,hc,y,hk⟩,gi i,by simp [setBlock]⟩
  simp [Builtin.delete_,aN s,aM (d n),gT,o,bf _ (d n),Result.andThen]
  rfl
 | some x =>
  obtain ⟨j,u⟩:=x
  rw [q] at o
  have b:(es.eraseIdxIfInBounds j).toList=es.toList.eraseIdx j:=by
   unfold Array.eraseIdxIfInBounds
   split
   ·simp
   ·rw [List.eraseIdx_of_length_le (by rw [dh];omega)]
  refine ⟨setBlock w r (.map (es.eraseIdxIfInBounds j) clock),fun n => ?_,⟨_,_,fX i,?_,?_,?_,?_⟩,gi i,by simp [setBlock]⟩
  ·simp [Builtin.delete_,aN s,aM (d n),gT,o,bf _ (d n),Result.andThen]
   rfl
  ·rw [b,ix,hl,ix]
  ·intro x B
   rw [b] at B
   exact hc x ((dM _ _).subset B)
  ·rw [b,ix]
   exact y.sublist (dM _ _)
  ·show ((l.eraseIdx j).map (·.1)).Nodup
   rw [ix]
   exact hk.sublist (dM _ _)
end
end Go.Proofs.YtkkfmkhbdoeglaaGreatDoor
namespace Go.Proofs.YtkkfmkhbdoeglaaGreatDoor
open Go.RowKit
structure OpB where
 kind:Int
 table:Int
 key:List UInt8
 val:List UInt8
deriving DecidableEq
def yV (o:OpB):Value := .agg #[.int .i64 o.kind,.int .i64 o.table,.string ⟨o.key.toArray⟩,.string ⟨o.val.toArray⟩]
def gM (w:World) (r:Nat) (b:List K):Prop:=fS w r (b.map fun k=>(k,.int .i64 1))
theorem mZ {w w1 w2:World} {c:Option Nat} (h:w.grownBy w1 c) (k:w1.grownBy w2 c):w.grownBy w2 c :=
 ⟨k.os.trans h.os,k.tape.trans h.tape,k.output.trans h.output,aI h.size k.size,fun i d b=>(k.block i (aC d h.size) b).trans (h.block i d b)⟩
theorem yG {w w1 w2:World} {c:Option Nat} {r:Nat} (h:w.grownBy w1 c) (k:w1.grownBy w2 (some r)) (j:w.heap.size≤r):w.grownBy w2 c :=
 ⟨k.os.trans h.os,k.tape.trans h.tape,k.output.trans h.output,aI h.size k.size,fun i b d=>(k.block i (aC b h.size) (fun e=>by cases e;omega)).trans (h.block i b d)⟩
theorem CurAt.qG {w:World} {base c:Nat} {cu:Cu} (h:CurAt w base c cu) (b:cu.f≠none):∃ g,w.cell? ⟨c,3,none⟩=some (.pointer (some ⟨g,0,none⟩)):=by
 obtain ⟨h1,h2,h3,h4,v,fp,h5,h6,h7,h8⟩:=h
 obtain ⟨x,d⟩:=eU.1 b
 rw [d] at h8
 obtain ⟨g,rfl,-,-⟩:=h8
 exact ⟨g,af w c 3 _ _ _ h5⟩
theorem CurAt.jR {w:World} {base c:Nat} {cu:Cu} (h:CurAt w base c cu) (b:cu.f=none):w.cell? ⟨c,3,none⟩=some (.pointer none):=by
 obtain ⟨h1,h2,h3,h4,v,fp,h5,h6,h7,h8⟩:=h
 rw [b] at h8
 obtain rfl:fp=none:=h8
 exact af w c 3 _ _ _ h5
theorem Iq (base c r:Nat) (cu:Cu) (x y:UInt8) (d j:Bool) (w:World) (h:CurAt w base c cu) (hb:base≤w.heap.size) (X:(cu.take 2).2=[x,y])
  (hk:(x.toNat<1∧d=false)∨(1≤x.toNat∧x.toNat<2∧d=true)∨(2≤x.toNat∧x.toNat<3∧d=true)∨(3≤x.toNat∧d=false)) (E:(y.toNat<3∧j=true)∨(3≤y.toNat∧j=false))
  (N:(((cu.take 2).1.jr d 6).jr j 6).f≠none) :
  Calls Tryz.prog 144 #[.pointer (some ⟨c,0,none⟩),.map (some r)] w fun e w'=>e = .returned (yV ⟨x.toNat,y.toNat,[],[]⟩)∧CurAt w' base c (((cu.take 2).1.jr d 6).jr j 6)∧w.grownBy w' (some c):=by
 have hx:=x.toNat_lt
 have hy:=y.toNat_lt
 have Y:=ae (fL w (.cells #[.int .i64 0,.int .i64 0,.string ⟨#[]⟩,.string ⟨#[]⟩] 96))
 have O:=h.lt
 have Z:=ae N
 clear N
 have hd:decide ((y.toNat:Int)<3)=j:=by
  rcases E with ⟨h,rfl⟩ | ⟨h,rfl⟩
  ·exact bZ (by omega)
  ·exact bm (by omega)
 have HD:=ae hd
 have Q:((x.toNat:Int)==1 || (x.toNat:Int)==2)=d:=by
  rcases hk with ⟨h,rfl⟩ | ⟨h,h',rfl⟩ | ⟨h,h',rfl⟩ | ⟨h,rfl⟩
  ·rw [eP,aD,aD];omega
  ·rw [dJ,bj,bj];omega
  ·rw [dJ,bj,bj];omega
  ·rw [eP,aD,aD];omega
 have R:=ae Q
 clear hd E Q
 have S:w.heap.size<(w.alloc (.cells #[.int .i64 0,.int .i64 0,.string ⟨#[]⟩,.string ⟨#[]⟩] 96)).heap.size:=by simp
 go_enter Tryz.func144,Tryz.ntmps144
 go_wp2_with fail
 refine (jH base c cu 2 _ (h.fW ((Below.refl _ w).alloc (ah _) _)) (by simp;omega) (by decide) (by decide)).mono ?_
 rintro e w1 ⟨v,rfl,I,-,F,q⟩
 rw [X] at I
 obtain ⟨a,cap,rfl,J,s⟩:=I.opened
 obtain ⟨b,off,rfl,G⟩:=s 0 (by simp)
 obtain ⟨b',ag,he,U⟩:=s 1 (by simp)
 cases he
 simp only [cC,cn,ee] at G U
 have ak:=fP G
 clear s I
 simp only [au,aJ] at J
 have u:=q.size
 have H1:=ae ((q.block w.heap.size S (fun e=>by cases e;omega)).trans Y.out)
 have al:=F.lt
 go_wp2
 go_region
 have ht:((((x.toNat:Int)==1)=false∧((x.toNat:Int)==2)=false∧d=false)∨(((x.toNat:Int)==1)=true∧d=true)∨(((x.toNat:Int)==1)=false∧((x.toNat:Int)==2)=true∧d=true)):=by
  rw [←R.out]
  cases h1:((x.toNat:Int)==1) <;> cases h2:((x.toNat:Int)==2) <;> simp
 clear hk
 rcases ht with ⟨t1,t2,rfl⟩ | ⟨t1,rfl⟩ | ⟨t1,t2,rfl⟩
 all_goals
  have H2:=ae (fL w1 (.cells #[.int .i64 x.toNat,.int .i64 y.toNat,.string ⟨#[]⟩,.string ⟨#[]⟩] 96))
  go_wp2_with fail
  try rw [R.out]
  refine (iK base c _ _ 6 _ (F.fW (((Below.refl _ w1).alloc (ah _) _).drew)) (by simp at u⊢;omega)).mono ?_
  rintro e w2 ⟨rfl,M,m⟩
  have B:=ae ((m.block w1.heap.size (by simp) (fun e=>by cases e;omega)).trans H2.out)
  have V:=ae ((m.block w.heap.size (by simp at u⊢;omega) (fun e=>by cases e;omega)).trans (fQ w1 _ H1.out))
  have d0:w2.cell? ⟨w1.heap.size,0,none⟩=some (.int .i64 x.toNat):=af _ _ 0 _ _ _ B.out
  have d1:w2.cell? ⟨w1.heap.size,1,none⟩=some (.int .i64 y.toNat):=af _ _ 1 _ _ _ B.out
  have av:=fI B.out
  have W:=m.size
  go_wp2_with fail
  try rw [HD.out]
  refine (iK base c _ _ 6 _ M (by simp at u W⊢;omega)).mono ?_
  rintro e w3 ⟨rfl,l,C⟩
  have D:=ae ((C.block w1.heap.size (fI B.out) (fun e=>by cases e;omega)).trans B.out)
  have i:=ae ((C.block w.heap.size (fI V.out) (fun e=>by cases e;omega)).trans V.out)
  have q0:w3.cell? ⟨w1.heap.size,0,none⟩=some (.int .i64 x.toNat):=af _ _ 0 _ _ _ D.out
  have q1:w3.cell? ⟨w1.heap.size,1,none⟩=some (.int .i64 y.toNat):=af _ _ 1 _ _ _ D.out
  have q2:w3.cell? ⟨w1.heap.size,2,none⟩=some (.string ⟨#[]⟩):=af _ _ 2 _ _ _ D.out
  have q3:w3.cell? ⟨w1.heap.size,3,none⟩=some (.string ⟨#[]⟩):=af _ _ 3 _ _ _ D.out
  have p0:w3.cell? ⟨w.heap.size,0,none⟩=some (.int .i64 0):=af _ _ 0 _ _ _ i.out
  have p1:w3.cell? ⟨w.heap.size,1,none⟩=some (.int .i64 0):=af _ _ 1 _ _ _ i.out
  have p2:w3.cell? ⟨w.heap.size,2,none⟩=some (.string ⟨#[]⟩):=af _ _ 2 _ _ _ i.out
  have p3:w3.cell? ⟨w.heap.size,3,none⟩=some (.string ⟨#[]⟩):=af _ _ 3 _ _ _ i.out
  have e0:=ao _ _ 0 _ _ i.out
  have e1:=ao _ _ 1 _ _ i.out
  have e2:=ao _ _ 2 _ _ i.out
  have e3:=ao _ _ 3 _ _ i.out
  have a3:=fI D.out
  have a4:=fI i.out
  obtain ⟨g,a6⟩:=l.qG Z.out
  have a5:=l.lt
  go_wp2
  refine aK (v:=yV ⟨x.toNat,y.toNat,[],[]⟩) (by simp [results,Tryz.results144,go_sem,yV,p0,p1,p2,p3]) rfl ⟨rfl,?_,?_⟩
  ·exact l.grown (r:=w.heap.size) (gC (gC (gC (grownBy_set (Below.refl _ w3) 0 _) 1 _) 2 _) 3 _) O (fun k n=>by rw [i.out];simp)
  ·have g1:=mZ (kx ((Below.refl _ w).alloc (ah _) _) (some c)) q
   have g2:=fun o=>mZ g1 (kx (((Below.refl _ w1).alloc (ah _) o).drew) (some c))
   exact yG (mZ (mZ (g2 _) m) C) (gC (gC (gC (grownBy_set (Below.refl _ w3) 0 _) 1 _) 2 _) 3 _) (ah _)
end Go.Proofs.YtkkfmkhbdoeglaaGreatDoor
namespace Go.Proofs.YtkkfmkhbdoeglaaGreatDoor
open Go.RowKit
theorem AW (w:World) (l:List UInt8) (hl:l.length≤gx) :
  ∃ cap,(convert 9 59 (.string ⟨l.toArray⟩)).run Tryz.prog w = .ok (.slice (some ⟨w.heap.size,0,none⟩) l.length cap)
   (w.drew.alloc (.cells (bytesRow ⟨l.toArray⟩ cap) 5 ((bytesRow ⟨l.toArray⟩ cap).size,(bytesRow ⟨l.toArray⟩ cap).size+1)))∧
   OwnS (w.drew.alloc (.cells (bytesRow ⟨l.toArray⟩ cap) 5 ((bytesRow ⟨l.toArray⟩ cap).size,(bytesRow ⟨l.toArray⟩ cap).size+1))) w.heap.size 1 (.slice (some ⟨w.heap.size,0,none⟩) l.length cap) l.length (u8s l):=by
 have hs:(⟨l.toArray⟩:ByteArray).size=l.length:=by simp [ByteArray.size]
 have h:=run_bytes_of_string (P:=Tryz.prog) w 9 59 5 ⟨l.toArray⟩ Tryz.underlying9 Tryz.underlying59 Tryz.underlying5
 rw [hs] at h
 refine ⟨_,h,?_⟩
 have b:=grownCap_ge w l.length 0 5
 have hmx:maxLen=9223372036854775807:=rfl
 have d:=grownCap_le_maxLen w l.length 0 5 (by unfold gx at hl;omega)
 have i:(bytesRow ⟨l.toArray⟩ (grownCap w l.length 0 5)).size=grownCap w l.length 0 5:=by
  simp [bytesRow]
  omega
 have:=OwnS.new w.drew (bytesRow ⟨l.toArray⟩ (grownCap w l.length 0 5)) 5 (bytesRow ⟨l.toArray⟩ (grownCap w l.length 0 5)).size ((bytesRow ⟨l.toArray⟩ (grownCap w l.length 0 5)).size+1) w.heap.size 1 l.length (grownCap w l.length 0 5) (ah _) b d (by omega) (.inr (by omega))
 have e:(bytesRow ⟨l.toArray⟩ (grownCap w l.length 0 5)).toList.take (l.length*1)=u8s l:=by
  simp [bytesRow,u8s]
 rw [e] at this
 exact this
theorem Bd {o:Oper} {a:Act} {K:Act→World→Prop} {Q:Exit→Act→World→Prop} {w:World} (x:Operand) (d:o.op = .convert 9 59 x) (l:List UInt8) (i:a.eval x = .string ⟨l.toArray⟩) (hl:l.length≤gx)
  (h:∀ cap w',OwnS w' w.heap.size 1 (.slice (some ⟨w.heap.size,0,none⟩) l.length cap) l.length (u8s l)→Below w.heap.size w w'→w.heap.size<w'.heap.size→K (a.put o.dst (.slice (some ⟨w.heap.size,0,none⟩) l.length cap)) w'):o.wp Tryz.prog a w K Q:=by
 obtain ⟨cap,j,b⟩:=AW w l hl
 have m:Below w.heap.size w (w.drew.alloc (.cells (bytesRow ⟨l.toArray⟩ cap) 5 ((bytesRow ⟨l.toArray⟩ cap).size,(bytesRow ⟨l.toArray⟩ cap).size+1))):=((Below.refl _ w).drew).alloc (ah _) _
 unfold Oper.wp execOp
 simp only [d,i,bY,j,bQ]
 exact h cap _ b m (by simp)
theorem lr {ops:Array Oper} {rest:List Oper} {o:Oper} {a:Act} {Q:Exit→Act→World→Prop} {w:World} (b:o.guard=none) (x:Operand) (d:o.op = .convert 9 59 x) (l:List UInt8) (i:a.eval x = .string ⟨l.toArray⟩) (hl:l.length≤gx)
  (h:∀ cap w',OwnS w' w.heap.size 1 (.slice (some ⟨w.heap.size,0,none⟩) l.length cap) l.length (u8s l)→Below w.heap.size w w'→w.heap.size<w'.heap.size→wpList Tryz.prog ops Q rest (a.put o.dst (.slice (some ⟨w.heap.size,0,none⟩) l.length cap)) w'):wpList Tryz.prog ops Q (o::rest) a w :=
 fc b fun _ hK=>Bd x d l i hl fun cap w' h1 h2 h3=>hK _ _ (h cap w' h1 h2 h3)
theorem zm {o:Oper} {a:Act} {K:Act→World→Prop} {Q:Exit→Act→World→Prop} {w:World} (x:Operand) (b:o.op = .convert 59 9 x) (l:List UInt8) (d:BytesAt w (a.eval x) l)
  (h:K (a.put o.dst (.string ⟨l.toArray⟩)) w):o.wp Tryz.prog a w K Q:=by
 unfold Oper.wp execOp
 simp only [b,bY,d.convert,bQ]
 exact h
theorem gF {ops:Array Oper} {rest:List Oper} {o:Oper} {a:Act} {Q:Exit→Act→World→Prop} {w:World} (b:o.guard=none) (x:Operand) (d:o.op = .convert 59 9 x) (l:List UInt8) (i:BytesAt w (a.eval x) l)
  (h:wpList Tryz.prog ops Q rest (a.put o.dst (.string ⟨l.toArray⟩)) w):wpList Tryz.prog ops Q (o::rest) a w :=
 fc b fun _ hK=>zm x d l i (hK _ _ h)
def byteOf (n:Int):UInt8:=UInt8.ofNat (n%256).toNat
theorem yr (n:Int):((byteOf n).toNat:Int)=n%256:=by
 unfold byteOf
 simp
 omega
theorem mu (kind:Int) (l:List UInt8) (w:World) (hl:l.length≤gx) :
  Calls Tryz.prog 27 #[.int .i64 kind,.string ⟨l.toArray⟩] w fun e w'=>e = .returned (.string ⟨(sealB (byteOf kind) l).toArray⟩)∧Below w.heap.size w w':=by
 have m:=ae (yr kind)
 go_enter Tryz.func27,Tryz.ntmps27
 go_wp2_with (first
  | (refine lr rfl (.tmp 7) rfl l rfl hl ?_;intro cap w1 b i o)
  | (go_at_call 58;rw [←m.out];refine (zx (byteOf kind) _ l _ b.bytes hl).mono ?_;rintro e w2 ⟨v2,rfl,d,j⟩)
  | (refine gF rfl (.tmp 9) rfl _ d.bytes ?_))
 go_ret
 exact ⟨rfl,i.trans (j.mono (by omega))⟩
end Go.Proofs.YtkkfmkhbdoeglaaGreatDoor
namespace Go.Proofs.YtkkfmkhbdoeglaaGreatDoor
open Go.RowKit
end Go.Proofs.YtkkfmkhbdoeglaaGreatDoor
namespace Go.Proofs.YtkkfmkhbdoeglaaGreatDoor
open Go.RowKit
theorem carry {w w':World} {c b:Nat} {o:Obj} (i:w.grownBy w' (some c)) (h:w.heap[b]?=some o) (d:b≠c):w'.heap[b]?=some o :=
 (i.block b (fI h) (fun e=>d (by cases e;rfl))).trans h
theorem BytesAt.name {w:World} {v:Value} {l:List UInt8} (h:BytesAt w v l):∃ m,m=l∧BytesAt w v m:=⟨l,rfl,h⟩
theorem Cu.nm (cu:Cu) (k:Nat):cu.jr true k=cu:=by
 unfold Cu.jr
 cases cu.f <;> rfl
theorem ShapesVar.grown {w w':World} {c:Nat} (h:ShapesVar w) (b:w.grownBy w' (some c)) (hc:2≤c):ShapesVar w' :=
 h.fW b.size (b.block _ (fP h.c0) (fun e=>by cases e;omega))
theorem fS.jR {w:World} {r:Nat} {l:List (K×Value)} (h:fS w r l):∀ k n:Int,w.heap[r]?≠some (.cells #[.int .i64 k,.int .i64 n,.nilIface] 166 (0,0)):=fun k n e=>by
 obtain ⟨es,clock,h,_⟩:=h
 rw [h] at e
 cases e
theorem CurAt.eq {w:World} {base c:Nat} {cu cu':Cu} (h:CurAt w base c cu) (e:cu=cu'):CurAt w base c cu':=e▸h
theorem lP (k:K) (v:Value) (l:List (K×Value)):nk k (mD k v l)=some v:=by
 have go:∀ (l:List (K×Value)) (i:Nat),nk k (match gJ k l i with | some (j,_)=>l.set (j-i) (k,v) | none=>l++[(k,v)])=some v:=by
  intro l
  induction l with
  | nil=>intro i;simp [gJ,nk]
  | cons x l ih =>
   intro i
   unfold gJ
   cases hk:(k==x.1) with
   | true=>simp [nk]
   | false =>
    rw [aw (by simp)]
    have h:=ih (i+1)
    cases b:gJ k l (i+1) with
    | none =>
     rw [b] at h
     unfold nk at h⊢
     rw [aX,dW,hk]
     exact h
    | some y =>
     obtain ⟨j,u⟩:=y
     rw [b] at h
     have d:=(jw k l (i+1) j u b).1
     unfold nk at h⊢
     simp only at h⊢
     rw [show j-i=(j-(i+1))+1 by omega,aq,dW,hk]
     exact h
 have h:=go l 0
 unfold mD
 cases b:gJ k l 0 with
 | none=>rw [b] at h;exact h
 | some y =>
  obtain ⟨j,u⟩:=y
  rw [b] at h
  exact h
theorem rU (k:K) (b:List K):(nk k (b.map fun k=>(k,(Value.int .i64 1)))).getD (.int .i64 0) = .int .i64 (if b.contains k then 1 else 0):=by
 unfold nk
 induction b with
 | nil=>rfl
 | cons x b ih =>
  rw [bq,dW,List.contains_cons]
  cases hk:(k==x) with
  | true=>rfl
  | false=>simpa using ih
def Cu.lZ (C:Cu) (i T:Int) (l:List K) (b j:Nat):Cu×OpB :=
 let d:=((C.take b).1.jr (iw T (C.take b).2) 7).jr (!(l.contains (T,(C.take b).2))) 8
 if i=1 then ((d.take j).1.jr (gG T (d.take j).2) 9,⟨i,T,(C.take b).2,(d.take j).2⟩)
 else (d,⟨i,T,(C.take b).2,[]⟩)
theorem Cu.rJ {cu:Cu} {ok:Bool} {k:Nat} (h:(cu.jr ok k).f=none):cu.f=none∧ok=true:=by
 unfold Cu.jr at h
 cases hc:cu.f with
 | some x=>rw [hc] at h;rw [hc] at h;cases h
 | none =>
  rw [hc] at h
  cases ok with
  | true=>exact ⟨rfl,rfl⟩
  | false=>cases h
theorem Cu.Gd {cu:Cu} {n:Nat} (h:(cu.take n).1.f=none):cu.f=none:=by
 unfold Cu.take at h
 cases hc:cu.f with
 | some x=>rw [hc] at h;rw [hc] at h;cases h
 | none=>rfl
theorem tV {C:Cu} {i T:Int} {b:List K} {d j:Nat} (h:(C.lZ i T b d j).1.f=none):b.contains (T,(C.take d).2)=false:=by
 unfold Cu.lZ at h
 simp only at h
 split at h
 ·simpa using (Cu.rJ (Cu.Gd (Cu.rJ h).1)).2
 ·simpa using (Cu.rJ h).2
theorem qQ (k:K) (b:List K) (h:b.contains k=false):mD k (.int .i64 1) (b.map fun k=>(k,(Value.int .i64 1)))=(b++[k]).map fun k=>(k,(Value.int .i64 1)):=by
 have d:gJ k (b.map fun k=>(k,(Value.int .i64 1))) 0=none:=o9 k _ 0 fun x i=>by
  obtain ⟨y,j,rfl⟩:=aB.1 i
  intro e
  have:b.contains k=true:=by rw [List.contains_iff_mem];exact e▸j
  rw [h] at this
  cases this
 unfold mD
 rw [d]
 simp
theorem Ext.grow {S:Nat→Prop} {a w w':World} {i:Nat} (h:Ext S a w) (g:w.grownBy w' (some i)) (b:S i∨a.heap.size≤i):Ext S a w' :=
 ⟨g.os.trans h.os,g.tape.trans h.tape,g.output.trans h.output,aI h.size g.size,fun k hk hs=>(g.block k (aC hk h.size) (fun e=>by cases e;rcases b with b | b;exact hs b;omega)).trans (h.block k hk hs)⟩
theorem Ext.qj {S:Nat→Prop} {a w w':World} (h:Ext S a w) (g:Below w.heap.size w w'):Ext S a w' :=
 ⟨g.os.trans h.os,g.tape.trans h.tape,g.output.trans h.output,aI h.size g.size,fun k hk hs=>(g.block k (aC hk h.size)).trans (h.block k hk hs)⟩
end Go.Proofs.YtkkfmkhbdoeglaaGreatDoor
