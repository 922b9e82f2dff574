/- A part of what is proved here: lemmas and contracts of single functions. No condition but those that each names. -/
import Derived.Test.YtkkfmkhbdoeglabGreatDoorG00
import Derived.BigQuiet
import Derived.Deep.AppendSrc
import Derived.Deep.QuietTactic
import Derived.Deep.RegionHeld3
import Derived.Handy
import Derived.Lib.Hide
import Derived.Test.YtkkfmkhbdoeglabGreatDoorProg
import Derived.WalkKit
import Derived.WalkLawsBesides
import Derived.WalkSpells
import Derived.Test.YtkkfmkhbdoeglabGreatDoorG01
set_option maxHeartbeats 800000
set_option maxRecDepth 100000
namespace Go.Proofs.YtkkfmkhbdoeglabGreatDoor
open Go.RowKit
def gF:Nat:=140737488355000
def u8s (l:List UInt8):List Value:=l.map fun x => .int .u8 (x.toNat:Int)
theorem iY (l:List UInt8):(u8s l).length=l.length:=by simp [u8s]
theorem j8 (l m:List UInt8):u8s (l++m)=u8s l++u8s m:=by simp [u8s]
theorem Ig (l:List UInt8) (i:Nat) (h:i<l.length):(u8s l)[i]?=some (.int .u8 (l[i].toNat:Int)):=by simp [u8s,h]
theorem fU {w:World} {a:Addr} {v:Value} (h:w.cell? a=some v):a.block<w.heap.size:=by
 unfold World.cell? at h
 split at h
 ·rename_i heq
  exact (cm.1 heq).1
 ·cases h
def fW (w:World) (v:Value) (k n:Nat) (xs:List Value):Prop :=
 xs.length=n*k∧∃ a cap,v = .slice a n cap∧n≤cap∧∀ i (h:i<xs.length),∃ b off,a=some ⟨b,off,none⟩∧w.cell? ⟨b,off+i,none⟩=some xs[i]
def BytesAt (w:World) (v:Value) (l:List UInt8):Prop:=fW w v 1 l.length (u8s l)
theorem BytesAt.opened {w:World} {v:Value} {l:List UInt8} (h:BytesAt w v l) :
  ∃ a cap,v = .slice a l.length cap∧l.length≤cap∧∀ i (h:i<l.length),∃ b off,a=some ⟨b,off,none⟩∧w.cell? ⟨b,off+i,none⟩=some (.int .u8 (l[i].toNat:Int)):=by
 obtain ⟨_,a,cap,rfl,hc,j⟩:=h
 refine ⟨a,cap,rfl,hc,fun i m => ?_⟩
 obtain ⟨b,off,rfl,d⟩:=j i (by rw [iY];exact m)
 exact ⟨b,off,rfl,by rw [d];simp [u8s]⟩
theorem BytesAt.mk' {w:World} {a:Option Addr} {l:List UInt8} {cap:Nat} (hc:l.length≤cap) (m:∀ i (h:i<l.length),∃ b off,a=some ⟨b,off,none⟩∧w.cell? ⟨b,off+i,none⟩=some (.int .u8 (l[i].toNat:Int))) :
  BytesAt w (.slice a l.length cap) l:=by
 refine ⟨by simp [u8s],a,cap,rfl,hc,fun i j => ?_⟩
 obtain ⟨b,off,rfl,d⟩:=m i (by rw [iY] at j;exact j)
 exact ⟨b,off,rfl,by rw [d];simp [u8s]⟩
theorem fW.frame {w w':World} {v:Value} {k n:Nat} {xs:List Value} (h:fW w v k n xs) (j:∀ b,v.ownBlock=some b→b<w.heap.size→w'.heap[b]?=w.heap[b]?):fW w' v k n xs:=by
 obtain ⟨hl,a,cap,rfl,hc,l⟩:=h
 refine ⟨hl,a,cap,rfl,hc,fun i m => ?_⟩
 obtain ⟨b,off,rfl,d⟩:=l i m
 exact ⟨b,off,rfl,(aU (w:=w) (j b rfl (fU d))).trans d⟩
theorem fW.below {w w':World} {v:Value} {k n:Nat} {xs:List Value} (h:fW w v k n xs) (i:Below w.heap.size w w'):fW w' v k n xs :=
 h.frame fun b _ d=>i.block b d
theorem BytesAt.below {w w':World} {v:Value} {l:List UInt8} (h:BytesAt w v l) (b:Below w.heap.size w w'):BytesAt w' v l:=fW.below h b
theorem fW.nil (w:World) (a:Option Addr) (k cap:Nat):fW w (.slice a 0 cap) k 0 []:=⟨by simp,a,cap,rfl,aM _,fun i h=>absurd h (by simp)⟩
theorem BytesAt.nil (w:World) (a:Option Addr) (cap:Nat):BytesAt w (.slice a 0 cap) []:=fW.nil w a 1 cap
theorem fW.src {P:Program} {w:World} {v:Value} {k n:Nat} {xs:List Value} {i l:TypeId} (hk:P.underlying i=some (.slice l)) (h:fW w v k n xs) (h1:∀ u∈xs,u.oneCell'=true):Src P k i v n xs w:=by
 obtain ⟨hl,a,cap,rfl,hc,d⟩:=h
 cases a with
 | none =>
  have:xs=[]:=by
   cases xs with
   | nil=>rfl
   | cons x xs=>obtain ⟨b,off,s,_⟩:=d 0 (by simp);cases s
  subst this
  have y:(Builtin.firstCells k n (.slice none n cap)).run P w = .ok ([]:List Value).toArray w:=fq w k n n cap
  have m:(Builtin.firstCells k n (.slice none n cap)).run P w.drew = .ok ([]:List Value).toArray w.drew:=fq w.drew k n n cap
  exact ⟨.inl ⟨l,hk⟩,fun _=>rfl,y,m,hl,h1⟩
 | some a =>
  by_cases o:xs=[]
  ·subst o
   exact Src.ofSlice w hk a n cap [] hl (fun j u hu=>by simp at hu) h1
  ·obtain ⟨b,off,ha,_⟩:=d 0 (List.length_pos_iff.2 o)
   obtain rfl:=Option.some.inj ha
   refine Src.ofSlice w hk _ n cap xs hl (fun j u hu => ?_) h1
   obtain ⟨B,C⟩:=aF.1 hu
   obtain ⟨E,D,q,r⟩:=d j B
   cases q
   rw [←C]
   rw [eZ]
   exact r
def OwnS (w:World) (base k:Nat) (v:Value) (n:Nat) (xs:List Value):Prop :=
 xs.length=n*k∧
 ((v = .slice none 0 0∧n=0)∨
  ∃ g off cap,v = .slice (some ⟨g,off,none⟩) n cap∧base≤g∧g<w.heap.size∧n≤cap∧cap≤maxLen∧
   (∀ i (h:i<xs.length),w.cell? ⟨g,off+i,none⟩=some xs[i])∧
   (∀ i,i<cap*k→(w.cell? ⟨g,off+i,none⟩).isSome=true∧w.frozen? ⟨g,off+i,none⟩=false))
theorem OwnS.sliceAt {w:World} {base k:Nat} {v:Value} {n:Nat} {xs:List Value} (h:OwnS w base k v n xs):fW w v k n xs:=by
 obtain ⟨hl,⟨rfl,rfl⟩ | ⟨g,off,cap,rfl,_,_,b,_,hc,_⟩⟩:=h
 ·obtain rfl:xs=[]:=bK (by simpa using hl)
  exact fW.nil w none k 0
 ·exact ⟨hl,_,cap,rfl,b,fun i d=>⟨g,off,rfl,hc i d⟩⟩
theorem OwnS.nil (w:World) (base k:Nat):OwnS w base k (.slice none 0 0) 0 []:=⟨by simp,.inl ⟨rfl,rfl⟩⟩
theorem OwnS.mono {w:World} {base b k:Nat} {v:Value} {n:Nat} {xs:List Value} (h:OwnS w base k v n xs) (d:b≤base):OwnS w b k v n xs:=by
 obtain ⟨hl,h | ⟨g,off,cap,rfl,i,r⟩⟩:=h
 ·exact ⟨hl,.inl h⟩
 ·exact ⟨hl,.inr ⟨g,off,cap,rfl,aH d i,r⟩⟩
theorem OwnS.frame {w w':World} {base k:Nat} {v:Value} {n:Nat} {xs:List Value} (h:OwnS w base k v n xs) (hs:w.heap.size≤w'.heap.size) (l:∀ b,v.ownBlock=some b→b<w.heap.size→w'.heap[b]?=w.heap[b]?):OwnS w' base k v n xs:=by
 obtain ⟨hl,h | ⟨g,off,cap,rfl,m,j,o,hm,hc,q⟩⟩:=h
 ·exact ⟨hl,.inl h⟩
 ·have e:=l g rfl j
  refine ⟨hl,.inr ⟨g,off,cap,rfl,m,by omega,o,hm,fun i d => ?_,fun i d => ?_⟩⟩
  ·rw [aU (a:=⟨g,off+i,none⟩) e];exact hc i d
  ·rw [aU (a:=⟨g,off+i,none⟩) e,cT (a:=⟨g,off+i,none⟩) e];exact q i d
theorem OwnS.below {w w':World} {base k:Nat} {v:Value} {n:Nat} {xs:List Value} (h:OwnS w base k v n xs) (d:Below w.heap.size w w'):OwnS w' base k v n xs :=
 h.frame d.size fun b _ i=>d.block b i
theorem OwnS.grown {w w':World} {base k:Nat} {v:Value} {n:Nat} {xs:List Value} {row:Option Nat} (h:OwnS w base k v n xs) (d:w.grownBy w' row) (j:∀ b,v.ownBlock=some b→row≠some b):OwnS w' base k v n xs :=
 h.frame d.size fun b l i=>d.block b i (fun e=>j b l e.symm)
theorem fW.grown {w w':World} {v:Value} {k n:Nat} {xs:List Value} {row:Option Nat} (h:fW w v k n xs) (i:w.grownBy w' row) (j:∀ b,v.ownBlock=some b→row≠some b):fW w' v k n xs :=
 h.frame fun b l d=>i.block b d (fun e=>j b l e.symm)
theorem fR (w:World) (o:Obj):(w.alloc o).heap[w.heap.size]?=some o:=by
 show (w.heap.push o)[w.heap.size]?=_
 simp
theorem lY (w:World) (C:Array Value) (e:TypeId) (fz:Nat×Nat) (i:Nat):(w.alloc (.cells C e fz)).cell? ⟨w.heap.size,i,none⟩=C[i]?:=by
 unfold World.cell?
 simp only [fR]
 rfl
theorem CG (w:World) (C:Array Value) (e:TypeId) (lo b i:Nat):(w.alloc (.cells C e (lo,b))).frozen? ⟨w.heap.size,i,none⟩=(decide (lo≤i)&&decide (i<b)):=by
 unfold World.frozen?
 simp only [fR]
theorem OwnS.new (w:World) (C:Array Value) (e:TypeId) (lo d:Nat) (base k n cap:Nat) (l:base≤w.heap.size) (j:n≤cap) (hm:cap≤maxLen) (hs:cap*k≤C.size) (o:d≤lo∨cap*k≤lo) :
  OwnS (w.alloc (.cells C e (lo,d))) base k (.slice (some ⟨w.heap.size,0,none⟩) n cap) n (C.toList.take (n*k)):=by
 have m:n*k≤cap*k:=cR _ j
 refine ⟨by rw [az,dh];omega,.inr ⟨w.heap.size,0,cap,rfl,l,by simp,j,hm,fun i b => ?_,fun i b => ?_⟩⟩
 ·rw [bG,lY]
  rw [az,dh] at b
  have:i<C.size:=by omega
  simp [this]
 ·rw [bG,lY,CG]
  have:i<C.size:=by omega
  refine ⟨by simp [this],?_⟩
  simp only [Bool.and_eq_false_iff,decide_eq_false_iff_not]
  omega
theorem rk (b:Nat):∀ (d:List Value) (o:Nat) (w:World) (j:Nat),j≠b→(w.setCells b o d).heap[j]?=w.heap[j]?
 | [],_,_,_,_=>rfl
 | v::d,o,w,j,h=>by
  simp only [World.setCells]
  rw [rk b d _ _ j h]
  exact Below.heap_setCell w ⟨b,o,none⟩ v j h
theorem size_setCells (b:Nat):∀ (d:List Value) (o:Nat) (w:World),(w.setCells b o d).heap.size=w.heap.size
 | [],_,_=>rfl
 | v::d,o,w=>by
  simp only [World.setCells]
  rw [size_setCells b d]
  simp [World.setCell]
theorem oY (b:Nat):∀ (d:List Value) (o:Nat) (w:World),(w.setCells b o d).os=w.os∧(w.setCells b o d).tape=w.tape∧(w.setCells b o d).output=w.output
 | [],_,_=>⟨rfl,rfl,rfl⟩
 | v::d,o,w=>by
  simp only [World.setCells]
  exact oY b d (o+1) (w.setCell ⟨b,o,none⟩ v)
theorem mq (w:World) (b o:Nat) (d:List Value):w.grownBy (w.setCells b o d) (some b) :=
 have h:=oY b d o w
 ⟨h.1,h.2.1,h.2.2,Nat.le_of_eq (size_setCells b d o w).symm,fun k _ hk=>rk b d o w k (fun e=>hk (by rw [e]))⟩
theorem j6 {P:Program} (w:World) (base:Nat) (t s ty e:TypeId) (i:TypeInfo) (z:Value) (G:P.underlying t=some (.slice e)) (I:P.info? e=some i) (V:i.zero=some z) (M:z.cells.size=i.size) (_hsz:0<i.size)
  (v:Value) (n:Nat) (xs:List Value) (l:OwnS w base i.size v n xs) (x:Value) (m:Nat) (news:List Value) (hs:Src P i.size s x m news w)
  (N:n+m≤maxLen) (y:(n+m)*i.bytes≤140737488355328) (D:base≤w.heap.size) :
  ∃ v' w',(Builtin.append_ #[t,s] ty #[v,x]).run P w = .ok v' w'∧OwnS w' base i.size v' (n+m) (xs++news)∧w.grownBy w' v.ownBlock∧
   ((∃ g off cap,v = .slice (some ⟨g,off,none⟩) n cap∧v' = .slice (some ⟨g,off,none⟩) (n+m) cap∧w'=w.setCells g (off+n*i.size) news)∨v' = .slice none 0 0∨∃ cap,v' = .slice (some ⟨w.heap.size,0,none⟩) (n+m) cap∧Below w.heap.size w w'):=by
 have hmx:maxLen=9223372036854775807:=rfl
 have hlen:(xs++news).length=(n+m)*i.size:=by rw [aq,l.1,hs.newsLen,Nat.add_mul]
 have grown:∀ (b:Option Addr) (gr:Nat),gr<n+m→(Builtin.firstCells i.size n (.slice b n gr)).run P w.drew = .ok xs.toArray w.drew→∀ (row:Option Nat),
   ∃ v' w',(Builtin.append_ #[t,s] ty #[.slice b n gr,x]).run P w = .ok v' w'∧OwnS w' base i.size v' (n+m) (xs++news)∧w.grownBy w' row∧∃ cap,v' = .slice (some ⟨w.heap.size,0,none⟩) (n+m) cap∧Below w.heap.size w w':=by
  intro b gr O B row
  have J:=run_append_grow_src (P:=P) w t s ty e i z G I V b n gr xs B x m news hs O (by omega) (growslice_fits O y)
  have Q:=grownCap_ge w (n+m) gr e
  have C:grownCap w (n+m) gr e≤maxLen:=grownCap_le_maxLen w (n+m) gr e N
  refine ⟨_,_,J,?_,⟨rfl,rfl,rfl,by simp,fun k hk _=>heap_alloc_old w.drew _ hk⟩,_,rfl,⟨rfl,rfl,rfl,by simp,fun k hk=>heap_alloc_old w.drew _ hk⟩⟩
  have W:((xs++news).toArray++Builtin.zeroCells z.cells (grownCap w (n+m) gr e-(n+m))).size=grownCap w (n+m) gr e*i.size:=by
   rw [Array.size_append,dC,hlen,size_zeroCells,M,←Nat.add_mul]
   congr 1
   omega
  have:=OwnS.new w.drew ((xs++news).toArray++Builtin.zeroCells z.cells (grownCap w (n+m) gr e-(n+m))) e 0 0 base i.size (n+m) (grownCap w (n+m) gr e) D Q C (Nat.le_of_eq W.symm) (.inl (af _))
  have X:((xs++news).toArray++Builtin.zeroCells z.cells (grownCap w (n+m) gr e-(n+m))).toList.take ((n+m)*i.size)=xs++news:=by
   rw [Array.toList_append,←hlen]
   exact ep
  rw [X] at this
  exact this
 obtain ⟨E,l⟩:=l
 rcases l with ⟨rfl,rfl⟩ | ⟨g,off,cap,rfl,R,S,ak,C,r,d⟩
 ·have Y:xs=[]:=bK (by simpa using E)
  subst Y
  by_cases hm:m=0
  ·subst hm
   have Z:news=[]:=bK (by simpa using hs.newsLen)
   subst Z
   refine ⟨.slice none 0 0,w,?_,OwnS.nil w base i.size,⟨rfl,rfl,rfl,af _,fun _ _ _=>rfl⟩,.inr (.inl rfl)⟩
   have hl:=hs.len w
   have hc:=hs.cells
   rcases hs.kind with ⟨e',hk⟩ | hk <;> simp [Builtin.append_,aL G,aL hk,sizeOf,typeInfo,I,hl,hc]
  ·obtain ⟨v',w',h1,h2,h3,h4⟩:=grown none 0 (by omega) (fq w.drew i.size 0 0 0) none
   exact ⟨v',w',h1,h2,h3,.inr (.inr h4)⟩
 ·by_cases o:n+m≤cap
  ·have al:n*i.size+news.length≤cap*i.size:=by rw [hs.newsLen,←Nat.add_mul];exact cR _ o
   have hc:∀ j,j<news.length→(w.cell? ⟨g,off+n*i.size+j,none⟩).isSome=true:=fun j q=>by
    have:=(d (n*i.size+j) (by omega)).1
    rw [aW];exact this
   have B:∀ j,j<news.length→w.frozen? ⟨g,off+n*i.size+j,none⟩=false:=fun j q=>by
    have:=(d (n*i.size+j) (by omega)).2
    rw [aW];exact this
   have J:=run_append_room_src (P:=P) w t s ty e i G I g off n cap x m news hs o hc B
   refine ⟨_,_,J,⟨hlen,.inr ⟨g,off,cap,rfl,R,by rw [size_setCells];exact S,o,C,fun j q => ?_,fun j q => ?_⟩⟩,mq w g _ _,.inl ⟨g,off,cap,rfl,rfl,rfl⟩⟩
   ·by_cases F:j<xs.length
    ·rw [World.cell?_setCells_out g news (off+n*i.size) w ⟨g,off+j,none⟩ (fun _ _ => .inl (by simp only;omega)),r j F,cW F]
    ·have U:j-xs.length<news.length:=by rw [aq] at q;omega
     have:=World.cell?_setCells_in g news (off+n*i.size) w hc (j-xs.length) U
     rw [show off+n*i.size+(j-xs.length)=off+j by omega] at this
     rw [this,dL (by omega)]
   ·rw [World.frozen?_setCells]
    refine ⟨?_,(d j q).2⟩
    by_cases aa:off+n*i.size≤off+j∧off+j<off+n*i.size+news.length
    ·have:=World.cell?_setCells_in g news (off+n*i.size) w hc (j-n*i.size) (by omega)
     rw [show off+n*i.size+(j-n*i.size)=off+j by omega] at this
     rw [this];rfl
    ·rw [World.cell?_setCells_out g news (off+n*i.size) w ⟨g,off+j,none⟩ (fun _ _=>by simp only;omega)]
     exact (d j q).1
  ·have B:(Builtin.firstCells i.size n (.slice (some ⟨g,off,none⟩) n cap)).run P w.drew = .ok xs.toArray w.drew:=by
    refine run_firstCells_some w.drew i.size n ⟨g,off,none⟩ n cap xs E (fun j u hu => ?_)
    obtain ⟨q,hv⟩:=aF.1 hu
    rw [←hv]
    rw [eZ]
    exact r j q
   obtain ⟨v',w',h1,h2,h3,h4⟩:=grown (some ⟨g,off,none⟩) cap (by omega) B (some g)
   exact ⟨v',w',h1,h2,h3,.inr (.inr h4)⟩
theorem oG {P:Program} {o:Oper} {a:Act} {K:Act→World→Prop} {Q:Exit→Act→World→Prop} {w:World} (s x:Operand) (t j:TypeId)
  (y:o.op = .call {callee := .builtin .append,args:=#[s,x],argTypes:=#[t,j]})
  (base k:Nat) (e:TypeId) (i:TypeInfo) (z:Value) (B:P.underlying t=some (.slice e)) (C:P.info? e=some i) (D:i.zero=some z) (hk:i.size=k) (q:z.cells.size=i.size) (r:0<i.size)
  (v:Value) (n:Nat) (xs:List Value) (E:a.eval s=v) (l:OwnS w base k v n xs) (m:Nat) (news:List Value) (hs:Src P k j (a.eval x) m news w)
  (u:n+m≤maxLen) (b:(n+m)*i.bytes≤140737488355328) (d:base≤w.heap.size)
  (h:∀ v' w',OwnS w' base k v' (n+m) (xs++news)→w.grownBy w' v.ownBlock→
   ((∃ g off cap,v = .slice (some ⟨g,off,none⟩) n cap∧v' = .slice (some ⟨g,off,none⟩) (n+m) cap∧w'=w.setCells g (off+n*k) news)∨v' = .slice none 0 0∨∃ cap,v' = .slice (some ⟨w.heap.size,0,none⟩) (n+m) cap∧Below w.heap.size w w')→
   K (a.put o.dst v') w'):o.wp P a w K Q:=by
 subst hk
 obtain ⟨v',w',F,h1,h2,h3⟩:=j6 (P:=P) w base t j o.type e i z B C D q r v n xs l (a.eval x) m news hs u b d
 unfold Oper.wp execOp
 simp only [y,resolve,invoke,builtin,cn,fM,cg,eF,bq,du,E,F]
 exact h v' w' h1 h2 h3
theorem kq {P:Program} {ops:Array Oper} {rest:List Oper} {o:Oper} {a:Act} {Q:Exit→Act→World→Prop} {w:World} (q:o.guard=none) (s x:Operand) (t j:TypeId)
  (B:o.op = .call {callee := .builtin .append,args:=#[s,x],argTypes:=#[t,j]})
  (base k:Nat) (e:TypeId) (i:TypeInfo) (z:Value) (C:P.underlying t=some (.slice e)) (D:P.info? e=some i) (E:i.zero=some z) (hk:i.size=k) (r:z.cells.size=i.size) (u:0<i.size)
  (v:Value) (n:Nat) (xs:List Value) (F:a.eval s=v) (l:OwnS w base k v n xs) (m:Nat) (news:List Value) (hs:Src P k j (a.eval x) m news w)
  (y:n+m≤maxLen) (b:(n+m)*i.bytes≤140737488355328) (d:base≤w.heap.size)
  (h:∀ v' w',OwnS w' base k v' (n+m) (xs++news)→w.grownBy w' v.ownBlock→
   ((∃ g off cap,v = .slice (some ⟨g,off,none⟩) n cap∧v' = .slice (some ⟨g,off,none⟩) (n+m) cap∧w'=w.setCells g (off+n*k) news)∨v' = .slice none 0 0∨∃ cap,v' = .slice (some ⟨w.heap.size,0,none⟩) (n+m) cap∧Below w.heap.size w w')→
   wpList P ops Q rest (a.put o.dst v') w'):wpList P ops Q (o::rest) a w:=by
 subst hk
 obtain ⟨v',w',G,h1,h2,h3⟩:=j6 (P:=P) w base t j o.type e i z C D E r u v n xs l (a.eval x) m news hs y b d
 refine eK q fun K hK => ?_
 unfold Oper.wp execOp
 simp only [B,resolve,invoke,builtin,cn,fM,cg,eF,bq,du,F,G]
 exact hK _ _ (h v' w' h1 h2 h3)
theorem oE (l:List UInt8):∀ u∈u8s l,u.oneCell'=true:=by
 intro u hu
 obtain ⟨x,_,rfl⟩:=aB.1 hu
 rfl
theorem OwnS.bytes {w:World} {base:Nat} {v:Value} {n:Nat} {l:List UInt8} (h:OwnS w base 1 v n (u8s l)):BytesAt w v l:=by
 have b:n=l.length:=by have:=h.1;rw [iY] at this;omega
 subst b
 exact h.sliceAt
theorem OwnS.gh {w:World} {base k:Nat} {v:Value} {n:Nat} {xs:List Value} (h:OwnS w base k v n xs):∀ g,v.ownBlock=some g→base≤g:=by
 intro g b
 obtain ⟨_,⟨rfl,_⟩ | ⟨i,off,cap,rfl,d,_⟩⟩:=h
 ·cases b
 ·cases b;exact d
theorem ik {w w':World} {base k:Nat} {v:Value} {n:Nat} {xs:List Value} (h:OwnS w base k v n xs) (d:w.grownBy w' v.ownBlock) (b:base≤w.heap.size):Below base w w' :=
 (Below.refl base w).grown d b h.gh
theorem qd:(Tryz.prog.info? 5).map (fun i=>(i.zero,i.size,i.bytes))=some (some (.int .u8 0),1,1):=by kernel_rfl
theorem mF {ops:Array Oper} {rest:List Oper} {o:Oper} {a:Act} {Q:Exit→Act→World→Prop} {w:World} (j:o.guard=none) (s x:Operand)
  (u:o.op = .call {callee := .builtin .append,args:=#[s,x],argTypes:=#[112,112]})
  (base:Nat) (v:Value) (n:Nat) (l:List UInt8) (y:a.eval s=v) (d:OwnS w base 1 v n (u8s l)) (m:List UInt8) (hs:BytesAt w (a.eval x) m)
  (hlen:n+m.length≤140737488355328) (b:base≤w.heap.size)
  (h:∀ v' w',OwnS w' base 1 v' (n+m.length) (u8s (l++m))→w.grownBy w' v.ownBlock→Below base w w'→
   wpList Tryz.prog ops Q rest (a.put o.dst v') w'):wpList Tryz.prog ops Q (o::rest) a w:=by
 obtain ⟨i0,B,q,i,r⟩:=dD qd
 have hmx:maxLen=9223372036854775807:=rfl
 refine kq j s x _ _ u base 1 5 i0 (.int .u8 0) Tryz.underlying112 B q i (by rw [i];rfl) (by omega) v n (u8s l) y d m.length (u8s m) (hs.src Tryz.underlying112 (oE m)) (by omega) (by rw [r];omega) b (fun v' w' h1 h2 _ => ?_)
 rw [←j8] at h1
 exact h v' w' h1 h2 (ik d h2 b)
theorem BytesAt.sub {w:World} {b off cap:Nat} {l:List UInt8} (h:BytesAt w (.slice (some ⟨b,off,none⟩) l.length cap) l) (i j:Nat) (q:i≤j) (r:j≤l.length) :
  BytesAt w (.slice (some ⟨b,off+i,none⟩) (j-i) (cap-i)) ((l.take j).drop i):=by
 obtain ⟨a,cap',he,hc,m⟩:=h.opened
 cases he
 have hl:((l.take j).drop i).length=j-i:=by simp;omega
 rw [←hl]
 refine BytesAt.mk' (by omega) fun k hk=>⟨b,off+i,rfl,?_⟩
 obtain ⟨s,o,ha,d⟩:=m (i+k) (by omega)
 cases ha
 rw [aW,d]
 simp
theorem BytesAt.left {w:World} {b off cap n:Nat} {x y:List UInt8} (h:BytesAt w (.slice (some ⟨b,off,none⟩) n cap) (x++y)):BytesAt w (.slice (some ⟨b,off,none⟩) x.length cap) x:=by
 obtain ⟨a,cap',he,hc,i⟩:=h.opened
 cases he
 simp only [aq] at hc
 refine BytesAt.mk' (by omega) fun k hk=>⟨b,off,rfl,?_⟩
 obtain ⟨l,j,ha,d⟩:=i k (by simp;omega)
 cases ha
 rw [d,cW hk]
theorem BytesAt.right {w:World} {b off cap n:Nat} {x y:List UInt8} (h:BytesAt w (.slice (some ⟨b,off,none⟩) n cap) (x++y)):BytesAt w (.slice (some ⟨b,off+x.length,none⟩) y.length (cap-x.length)) y:=by
 obtain ⟨a,cap',he,hc,i⟩:=h.opened
 cases he
 simp only [aq] at hc
 refine BytesAt.mk' (by omega) fun k hk=>⟨b,off+x.length,rfl,?_⟩
 obtain ⟨l,j,ha,d⟩:=i (x.length+k) (by simp;omega)
 cases ha
 rw [aW,d,dL (by omega)]
 simp
theorem BytesAt.convert {w:World} {v:Value} {l:List UInt8} (h:BytesAt w v l):(convert 112 9 v).run Tryz.prog w = .ok (.string ⟨l.toArray⟩) w:=by
 obtain ⟨a,cap,rfl,hc,i⟩:=h.opened
 cases a with
 | none =>
  have m:l=[]:=by
   cases l with
   | nil=>rfl
   | cons x l=>obtain ⟨b,off,o,_⟩:=i 0 (by simp);cases o
  subst m
  exact run_convert_bytes_nil (P:=Tryz.prog) w 112 5 Tryz.underlying112 Tryz.underlying5 0 cap 9 Tryz.underlying9
 | some a =>
  refine run_convert_bytes_back w 112 9 5 a cap l Tryz.underlying112 Tryz.underlying5 Tryz.underlying9 fun j q => ?_
  obtain ⟨s,r,ha,d⟩:=i j q
  cases ha
  rw [eZ]
  exact d
theorem BytesAt.drewN {w:World} {v:Value} {l:List UInt8} (h:BytesAt w v l) (n:Nat):BytesAt (w.drewN n) v l:=h
theorem qy {ops:Array Oper} {o:Oper} {a:Act} {K:Act→World→Prop} {Q:Exit→Act→World→Prop} {E:Prop} {w:World} (j:o.guard=none) (s x:Operand)
  (u:o.op = .call {callee := .builtin .append,args:=#[s,x],argTypes:=#[112,112]})
  (base:Nat) (v:Value) (n:Nat) (l:List UInt8) (y:a.eval s=v) (d:OwnS w base 1 v n (u8s l)) (m:List UInt8) (hs:BytesAt w (a.eval x) m)
  (hlen:n+m.length≤140737488355328) (b:base≤w.heap.size)
  (h:∀ v' w',OwnS w' base 1 v' (n+m.length) (u8s (l++m))→w.grownBy w' v.ownBlock→Below base w w'→
   K (a.put o.dst v') w'):if Region.wanted o (yielded ops a.tmps)=true then Oper.wp Tryz.prog o a w K Q else E:=by
 have hw:Region.wanted o (yielded ops a.tmps)=true:=by simp [Region.wanted,j]
 rw [aD hw]
 obtain ⟨i0,B,q,i,r⟩:=dD qd
 have hmx:maxLen=9223372036854775807:=rfl
 refine oG s x _ _ u base 1 5 i0 (.int .u8 0) Tryz.underlying112 B q i (by rw [i];rfl) (by omega) v n (u8s l) y d m.length (u8s m) (hs.src Tryz.underlying112 (oE m)) (by omega) (by rw [r];omega) b (fun v' w' h1 h2 _ => ?_)
 rw [←j8] at h1
 exact h v' w' h1 h2 (ik d h2 b)
theorem _root_.Go.RowKit.Below.drewN {B:Nat} {a w:World} (h:Below B a w) (n:Nat):Below B a (w.drewN n):=⟨h.os,h.tape,h.output,h.size,h.block⟩
theorem zw {k:IntKind} {a b:Int} (h:a=b):Ending.returned (.int k a) = .returned (.int k b):=by rw [h]
theorem iI {P:Program} {t:TypeId} (d:P.underlying t=some .string) (l:List UInt8) (k:IntKind) (i:Int) (x:UInt8) (j:0≤i) (m:l[i.toNat]?=some x) (w:World) :
  (Instr.index t (.string ⟨l.toArray⟩) (.int k i)).run P w = .ok (.int .u8 (x.toNat:Int)) w:=by
 obtain ⟨b,o⟩:=aF.1 m
 rw [run_index_string w t ⟨l.toArray⟩ k i d]
 have hs:(⟨l.toArray⟩:ByteArray).size=l.length:=by simp [ByteArray.size]
 rw [dif_pos ⟨j,by rw [hs];omega⟩]
 have:(⟨l.toArray⟩:ByteArray)[i.toNat]'(by rw [hs];exact b)=x:=by rw [←o];rfl
 rw [this]
structure Ext (S:Nat→Prop) (w w':World):Prop where
 os:w'.os=w.os
 tape:w'.tape=w.tape
 output:w'.output=w.output
 size:w.heap.size≤w'.heap.size
 block:∀ k,k<w.heap.size→¬S k→w'.heap[k]?=w.heap[k]?
theorem Ext.refl (S:Nat→Prop) (w:World):Ext S w w:=⟨rfl,rfl,rfl,af _,fun _ _ _=>rfl⟩
theorem Ext.trans {S:Nat→Prop} {a b c:World} (h:Ext S a b) (k:Ext S b c):Ext S a c :=
 ⟨k.os.trans h.os,k.tape.trans h.tape,k.output.trans h.output,aH h.size k.size,fun i d hs=>(k.block i (aC d h.size) hs).trans (h.block i d hs)⟩
theorem Ext.trans' {S:Nat→Prop} {a b c:World} {T:Nat→Prop} (h:Ext S a b) (k:Ext T b c) (j:∀ i,T i→S i∨a.heap.size≤i):Ext S a c :=
 ⟨k.os.trans h.os,k.tape.trans h.tape,k.output.trans h.output,aH h.size k.size,fun i d hs=>(k.block i (aC d h.size) (fun e=>(j i e).elim hs (fun e=>by omega))).trans (h.block i d hs)⟩
theorem Ext.mono {S T:Nat→Prop} {w w':World} (h:Ext S w w') (hs:∀ k,S k→T k):Ext T w w':=⟨h.os,h.tape,h.output,h.size,fun k hk b=>h.block k hk (fun e=>b (hs k e))⟩
theorem Ext.gD {B:Nat} {w w':World} (h:Below B w w'):Ext (fun k=>B≤k) w w':=⟨h.os,h.tape,h.output,h.size,fun k _ hs=>h.block k (by omega)⟩
theorem Ext.fT {S:Nat→Prop} {w w':World} (h:Below w.heap.size w w'):Ext S w w':=⟨h.os,h.tape,h.output,h.size,fun k hk _=>h.block k hk⟩
theorem Ext.below {S:Nat→Prop} {B:Nat} {w w':World} (h:Ext S w w') (b:B≤w.heap.size) (hs:∀ k,k<B→¬S k):Below B w w':=⟨h.os,h.tape,h.output,h.size,fun k hk=>h.block k (by omega) (hs k hk)⟩
theorem Ext.cell {S:Nat→Prop} {w w':World} (h:Ext S w w') {p:Addr} {v:Value} (hs:¬S p.block) (hc:w.cell? p=some v):w'.cell? p=some v :=
 (aU (w:=w) (h.block p.block (fU hc) hs)).trans hc
theorem fO {w:World} {b:Nat} {o:Obj} (h:w.heap[b]?=some o):b<w.heap.size:=(cm.1 h).1
theorem Ext.at {S:Nat→Prop} {w w':World} (h:Ext S w w') {b:Nat} {o:Obj} (hs:¬S b) (d:w.heap[b]?=some o):w'.heap[b]?=some o:=(h.block b (fO d) hs).trans d
theorem fQ {B:Nat} {w w':World} (h:Below B w w') {b:Nat} {o:Obj} (hs:b<B) (d:w.heap[b]?=some o):w'.heap[b]?=some o:=(h.block b hs).trans d
end Go.Proofs.YtkkfmkhbdoeglabGreatDoor
namespace Go.Proofs.YtkkfmkhbdoeglabGreatDoor
open Go.RowKit
theorem _root_.Go.RowKit.Below.tn {w w1 w2:World} (h:Below w.heap.size w w1) (k:Below w1.heap.size w1 w2):Below w.heap.size w w2:=h.trans (k.mono h.size)
theorem _root_.Go.RowKit.Below.al {w w1:World} (h:Below w.heap.size w w1) (o:Obj):Below w.heap.size w (w1.alloc o):=h.alloc h.size o
theorem _root_.Go.RowKit.Below.rf (w:World):Below w.heap.size w w:=Below.refl _ w
theorem heap_setCell (w:World) (b o:Nat) (v:Value) {C:Array Value} {T:TypeId} {fz:Nat×Nat} (h:w.heap[b]?=some (.cells C T fz)) :
  (w.setCell ⟨b,o,none⟩ v).heap[b]?=some (.cells (C.setIfInBounds o v) T fz):=by
 simp only [World.setCell,eM,aD,h]
 rfl
theorem size_setCell (w:World) (a:Addr) (v:Value):(w.setCell a v).heap.size=w.heap.size:=by simp [World.setCell]
theorem Ext.setCell {S:Nat→Prop} {a w:World} (h:Ext S a w) (p:Addr) (v:Value) (b:S p.block∨a.heap.size≤p.block):Ext S a (w.setCell p v) :=
 h.trans' (T:=fun k=>k=p.block) ⟨rfl,rfl,rfl,by rw [size_setCell];exact af _,fun k _ hs=>Below.heap_setCell w p v k hs⟩ (fun i e=>by rw [e];exact b)
theorem Ext.alloc {S:Nat→Prop} {a w:World} (h:Ext S a w) (o:Obj):Ext S a (w.alloc o):=h.trans (Ext.fT ((Below.refl _ w).alloc (af _) o))
theorem Ext.drewN {S:Nat→Prop} {a w:World} (h:Ext S a w) (n:Nat):Ext S a (w.drewN n):=⟨h.os,h.tape,h.output,h.size,h.block⟩
theorem Ext.drew {S:Nat→Prop} {a w:World} (h:Ext S a w):Ext S a w.drew:=⟨h.os,h.tape,h.output,h.size,h.block⟩
theorem fX (w:World) (o:Obj) {b:Nat} {x:Obj} (h:w.heap[b]?=some x):(w.alloc o).heap[b]?=some x:=(Below.heap_alloc w o b (fO h)).trans h
theorem fW.gJ {w:World} {v:Value} {k n:Nat} {xs:List Value} (h:fW w v k n xs) (p:Addr) (u:Value) (d:v.ownBlock≠some p.block):fW (w.setCell p u) v k n xs :=
 h.frame fun b i _=>Below.heap_setCell w p u b (fun e=>d (by rw [i,e]))
theorem BytesAt.gJ {w:World} {v:Value} {l:List UInt8} (h:BytesAt w v l) (p:Addr) (u:Value) (b:v.ownBlock≠some p.block):BytesAt (w.setCell p u) v l:=fW.gJ h p u b
theorem OwnS.apart {w:World} {base k:Nat} {v:Value} {n:Nat} {xs:List Value} (h:OwnS w base k v n xs) {b:Nat} (d:b<base):v.ownBlock≠some b:=fun e=>by have:=h.gh b e;omega
def ErrVar (w:World):Prop:=2≤w.heap.size∧w.cell? ⟨0,0,none⟩=some (.iface 286 (.agg #[.pointer (some ⟨2,128,none⟩)]))
theorem ErrVar.below {B:Nat} {w w':World} (h:ErrVar w) (b:Below B w w') (d:2≤B):ErrVar w' :=
 ⟨aH h.1 b.size,(b.cell (p:=⟨0,0,none⟩) (aC (by decide:0<2) d)).trans h.2⟩
theorem ErrVar.ext {S:Nat→Prop} {w w':World} (h:ErrVar w) (b:Ext S w w') (d:∀ k,S k→2≤k):ErrVar w' :=
 ⟨aH h.1 b.size,b.cell (p:=⟨0,0,none⟩) (fun e=>absurd (d _ e) (by decide)) h.2⟩
theorem ErrVar.new {w w':World} (h:ErrVar w) (b:Below w.heap.size w w'):ErrVar w':=h.below b h.1
end Go.Proofs.YtkkfmkhbdoeglabGreatDoor
namespace Go.Proofs.YtkkfmkhbdoeglabGreatDoor
open Go.RowKit
theorem zC {w:World} (m:List UInt8):Src Tryz.prog 1 9 (.string ⟨m.toArray⟩) m.length (u8s m) w:=by
 have h:=Src.ofString (P:=Tryz.prog) (w:=w) Tryz.underlying9 ⟨m.toArray⟩
 have b:(⟨m.toArray⟩:ByteArray).size=m.length:=by simp [ByteArray.size]
 have d:byteCells ⟨m.toArray⟩=u8s m:=by simp [byteCells,u8s]
 rw [b,d] at h
 exact h
theorem kZ {ops:Array Oper} {rest:List Oper} {o:Oper} {a:Act} {Q:Exit→Act→World→Prop} {w:World} (q:o.guard=none) (s x:Operand) (r:TypeId)
  (C:o.op = .call {callee := .builtin .append,args:=#[s,x],argTypes:=#[112,r]})
  (base:Nat) (v:Value) (n:Nat) (l:List UInt8) (D:a.eval s=v) (i:OwnS w base 1 v n (u8s l)) (m:List UInt8) (hs:Src Tryz.prog 1 r (a.eval x) m.length (u8s m) w)
  (hlen:n+m.length≤140737488355328) (d:base≤w.heap.size)
  (h:∀ v' w',OwnS w' base 1 v' (n+m.length) (u8s (l++m))→w.grownBy w' v.ownBlock→Below base w w'→(∀ b,b<w.heap.size→v.ownBlock≠some b→v'.ownBlock≠some b)→
   wpList Tryz.prog ops Q rest (a.put o.dst v') w'):wpList Tryz.prog ops Q (o::rest) a w:=by
 obtain ⟨i0,E,u,j,y⟩:=dD qd
 have hmx:maxLen=9223372036854775807:=rfl
 refine kq q s x _ _ C base 1 5 i0 (.int .u8 0) Tryz.underlying112 E u j (by rw [j];rfl) (by omega) v n (u8s l) D i m.length (u8s m) hs (by omega) (by rw [y];omega) d (fun v' w' h1 h2 h3 => ?_)
 rw [←j8] at h1
 refine h v' w' h1 h2 (ik i h2 d) fun b F B => ?_
 rcases h3 with ⟨g,off,cap,rfl,rfl,_⟩ | rfl | ⟨cap,rfl,_⟩
 ·exact B
 ·simp [Value.ownBlock]
 ·simp [Value.ownBlock];omega
theorem BytesAt.src {w:World} {v:Value} {m:List UInt8} (h:BytesAt w v m):Src Tryz.prog 1 112 v m.length (u8s m) w:=fW.src Tryz.underlying112 h (oE m)
theorem I2 (w:World) (x y:UInt8) (a b:Int) (d:(x.toNat:Int)=a) (i:(y.toNat:Int)=b):BytesAt (w.alloc (.cells #[.int .u8 a,.int .u8 b] 5)) (.slice (some ⟨w.heap.size,0,none⟩) 2 2) [x,y]:=by
 subst d i
 exact (OwnS.new w #[.int .u8 (x.toNat:Int),.int .u8 (y.toNat:Int)] 5 0 0 0 1 2 2 (aM _) (by omega) (by decide) (by simp) (.inl (by omega))).bytes (l:=[x,y])
theorem OwnS.gP {w:World} {base k:Nat} {v:Value} {n:Nat} {xs:List Value} (h:OwnS w base k v n xs):∀ g,v.ownBlock=some g→g<w.heap.size:=by
 intro g b
 obtain ⟨_,⟨rfl,_⟩ | ⟨i,off,cap,rfl,j,d,_⟩⟩:=h
 ·cases b
 ·cases b;exact d
theorem iN {w w':World} {v:Value} (i:w.grownBy w' v.ownBlock) {b:Nat} {o:Obj} (d:v.ownBlock≠some b) (h:w.heap[b]?=some o):w'.heap[b]?=some o :=
 (i.block b (cm.1 h).1 (fun e=>d e.symm)).trans h
end Go.Proofs.YtkkfmkhbdoeglabGreatDoor
namespace Go.Proofs.YtkkfmkhbdoeglabGreatDoor
open Go.RowKit
theorem gC {w:World} {a:Addr} {v:Value} (o:Obj) (h:w.cell? a=some v):(w.alloc o).cell? a=some v :=
 (aU (w:=w) (heap_alloc_old w o (fU h))).trans h
def uP (w:World) (A:Nat) (v0 v1 v2 v3:Value):World:=(((w.setCell ⟨A,0,none⟩ v0).setCell ⟨A,1,none⟩ v1).setCell ⟨A,2,none⟩ v2).setCell ⟨A,3,none⟩ v3
theorem yA {w:World} {A:Nat} {a0 a1 a2 a3:Value} {T:TypeId} (R:w.heap[A]?=some (.cells #[a0,a1,a2,a3] T (0,0))) (v0 v1 v2 v3:Value):(uP w A v0 v1 v2 v3).heap[A]?=some (.cells #[v0,v1,v2,v3] T (0,0)) :=
 heap_setCell _ _ 3 v3 (heap_setCell _ _ 2 v2 (heap_setCell _ _ 1 v1 (heap_setCell _ _ 0 v0 R)))
theorem zz {w:World} {A:Nat} {a0 a1 a2 a3:Value} {T:TypeId} (R:w.heap[A]?=some (.cells #[a0,a1,a2,a3] T (0,0))) (v0 v1 v2 v3:Value) :
  (uP w A v0 v1 v2 v3).cell? ⟨A,0,none⟩=some v0∧(uP w A v0 v1 v2 v3).cell? ⟨A,1,none⟩=some v1∧(uP w A v0 v1 v2 v3).cell? ⟨A,2,none⟩=some v2∧(uP w A v0 v1 v2 v3).cell? ⟨A,3,none⟩=some v3:=by
 have h:=yA R v0 v1 v2 v3
 exact ⟨ae _ _ 0 _ _ _ h,ae _ _ 1 _ _ _ h,ae _ _ 2 _ _ _ h,ae _ _ 3 _ _ _ h⟩
theorem wV {w:World} {A c i:Nat} {v:Value} (v0 v1 v2 v3:Value) (hc:c≠A) (h:w.cell? ⟨c,i,none⟩=some v):(uP w A v0 v1 v2 v3).cell? ⟨c,i,none⟩=some v :=
 (aU (w:=w) (a:=⟨c,i,none⟩) ((Below.heap_setCell _ ⟨A,3,none⟩ v3 c hc).trans ((Below.heap_setCell _ ⟨A,2,none⟩ v2 c hc).trans ((Below.heap_setCell _ ⟨A,1,none⟩ v1 c hc).trans (Below.heap_setCell w ⟨A,0,none⟩ v0 c hc))))).trans h
theorem pJ {B:Nat} {d w:World} (h:Below B d w) (A:Nat) (v0 v1 v2 v3:Value) (b:B≤A):Below B d (uP w A v0 v1 v2 v3) :=
 (((h.setCell (p:=⟨A,0,none⟩) b _).setCell (p:=⟨A,1,none⟩) b _).setCell (p:=⟨A,2,none⟩) b _).setCell (p:=⟨A,3,none⟩) b _
end Go.Proofs.YtkkfmkhbdoeglabGreatDoor
namespace Go.Proofs.YtkkfmkhbdoeglabGreatDoor
open Go.RowKit
theorem CJ (b:Nat) (j:b<256) (w:World) :
  Calls Tryz.prog 185 #[.int .u8 b] w fun e w'=>e = .returned (.int .u32 (kY 8 b))∧w=w':=by
 go_enter Tryz.func185,Tryz.ntmps185
 go_wp2
 go_loop [3,7] (fun c i=>∃ k:Nat,k≤8∧i = .int .i64 k∧c = .int .u32 (kY k b)) (fun _ i=>8-(intOf i).toNat)
 case atStart=>exact ⟨0,by omega,rfl,by simp [kY]⟩
 case round =>
  obtain ⟨k,hk,rfl,rfl⟩:=hrel
  by_cases h:k<8
  ·have d:=xf k b (by omega)
   have hs:kY (k+1) b=pX (kY k b):=rfl
   have H:=ab hs
   clear hs
   generalize kY k b=c at *
   have ha:bits BinOp.and IntKind.u32 (c:Int) 1=((c%2:Nat):Int):=by
    rw [show (1:Int)=((1:Nat):Int) from rfl,u32_and_nat c 1 d (by decide),nat_mask1]
   have l:bits BinOp.xor IntKind.u32 ((c:Int) / 2) 3988292384=(((c / 2) ^^^ 3988292384:Nat):Int):=by
    rw [show (3988292384:Int)=((3988292384:Nat):Int) from rfl,show ((c:Int) / 2)=((c / 2:Nat):Int) by omega,u32_xor_nat (c / 2) _ (by omega) (by decide)]
   go_wp2
   ·rename_i h1
    have h2:c%2=1:=by have:=a8.1 h1;omega
    go_round
    case rel=>exact ⟨k+1,by omega,by go_num,by rw [H.out,pX,aD h2]⟩
    case measure=>simp [intOf];omega
   ·rename_i h1
    have h2:¬c%2=1:=by have:=aA.1 h1;omega
    go_round
    case rel=>exact ⟨k+1,by omega,by go_num,by rw [H.out,pX,au h2];go_num⟩
    case measure=>simp [intOf];omega
  ·obtain rfl:k=8:=by omega
   go_wp2
   go_ret
   exact ⟨by rfl,rfl⟩
theorem GQ (c:Nat) (x:UInt8):kY 8 ((c%256) ^^^ x.toNat) ^^^ (c / 256)=kY 8 (c ^^^ x.toNat):=(Ek c x.toNat).symm
theorem y8 (c:Nat) (l:List UInt8) (k:Nat) (h:k<l.length):mH c (l.take (k+1))=kY 8 (mH c (l.take k) ^^^ l[k].toNat):=by
 rw [aT h,y7]
theorem D4 (v:Value) (l:List UInt8) (w:World) (o:BytesAt w v l) (hl:l.length≤9223372036854775807) :
  Calls Tryz.prog 149 #[v] w fun e w'=>e = .returned (.int .u32 (DJ l))∧w=w':=by
 obtain ⟨a,cap,rfl,q,d⟩:=o.opened
 have r:=ab d
 clear d
 go_enter Tryz.func149,Tryz.ntmps149
 go_wp2
 go_loop [3,8] (fun c i=>∃ k:Nat,k≤l.length∧i = .int .i64 k∧c = .int .u32 (mH 4294967295 (l.take k))) (fun _ i=>l.length-(intOf i).toNat)
 case atStart=>exact ⟨0,by omega,rfl,by simp [mH]⟩
 case round =>
  obtain ⟨k,hk,rfl,rfl⟩:=hrel
  have j:=vN (l.take k) 4294967295 (by decide)
  by_cases h:k<l.length
  ·have H:=ab (y8 4294967295 l k h)
   obtain ⟨b,off,rfl,m⟩:=r.out k h
   generalize mH 4294967295 (l.take k)=c at *
   have x:=l[k].toNat_lt
   have s:c%256 ^^^ l[k].toNat<256:=fD (n:=8) (by omega) (by omega)
   have u:bits BinOp.xor IntKind.u8 ((c:Int)%256) (l[k].toNat:Int)=((c%256 ^^^ l[k].toNat:Nat):Int):=by
    rw [show ((c:Int)%256)=((c%256:Nat):Int) by omega,u8_xor_nat _ _ (by omega) (by omega)]
   have hs:=xf 8 (c%256 ^^^ l[k].toNat) (by omega)
   go_wp2_with (go_at_call 185;refine (CJ _ s _).mono ?_;rintro e w' ⟨rfl,rfl⟩)
   go_round
   case rel =>
    refine ⟨k+1,by omega,by go_num,?_⟩
    rw [show ((c:Int) / 256)=((c / 256:Nat):Int) by omega,u32_xor_nat _ _ hs (by omega),GQ,H.out]
   case measure=>simp [intOf];omega
  ·obtain rfl:k=l.length:=by omega
   rw [bC] at *
   go_wp2
   go_ret
   refine ⟨zw ?_,rfl⟩
   rw [show IntKind.u32.max=((4294967295:Nat):Int) from rfl,u32_xor_nat _ _ (by decide) j,Nat.xor_comm]
   rfl
def lW (a b c d:UInt8):Nat:=a.toNat*16777216+b.toNat*65536+c.toNat*256+d.toNat
theorem Hb (a b c d:UInt8):bits BinOp.or IntKind.u32 (bits BinOp.or IntKind.u32 (bits BinOp.or IntKind.u32 ((a.toNat:Int)*16777216) ((b.toNat:Int)*65536)) ((c.toNat:Int)*256)) (d.toNat:Int)=(lW a b c d:Int):=by
 have ha:=a.toNat_lt
 have m:=b.toNat_lt
 have hc:=c.toNat_lt
 have hd:=d.toNat_lt
 have i:a.toNat*16777216 ||| b.toNat*65536=a.toNat*16777216+b.toNat*65536:=nat_join 24 _ _ (by omega) (by omega)
 have j:(a.toNat*16777216+b.toNat*65536) ||| c.toNat*256=a.toNat*16777216+b.toNat*65536+c.toNat*256:=nat_join 16 _ _ (by omega) (by omega)
 have l:(a.toNat*16777216+b.toNat*65536+c.toNat*256) ||| d.toNat=a.toNat*16777216+b.toNat*65536+c.toNat*256+d.toNat:=nat_join 8 _ _ (by omega) (by omega)
 rw [show ((a.toNat:Int)*16777216)=((a.toNat*16777216:Nat):Int) by omega,show ((b.toNat:Int)*65536)=((b.toNat*65536:Nat):Int) by omega,show ((c.toNat:Int)*256)=((c.toNat*256:Nat):Int) by omega,
  u32_or_nat _ _ (by omega) (by omega),i,u32_or_nat _ _ (by omega) (by omega),j,u32_or_nat _ _ (by omega) (by omega),l]
 rfl
theorem oe (a b c d:UInt8) (r:List UInt8) (w:World) (_hr:r.length≤9223372036854775000) :
  Calls Tryz.prog 150 #[.string ⟨(a::b::c::d::r).toArray⟩] w fun e w'=>e = .returned (.int .u32 (lW a b c d))∧∃ n,w'=w.drewN n:=by
 have ha:=a.toNat_lt
 have i:=b.toNat_lt
 have hc:=c.toNat_lt
 have hd:=d.toNat_lt
 go_enter Tryz.func150,Tryz.ntmps150
 go_wp2
 have i0:∀ w,(Instr.index 9 (.string ⟨(a::b::c::d::r).toArray⟩) (.int .i64 0)).run Tryz.prog w = .ok (.int .u8 a.toNat) w:=fun w=>iI Tryz.underlying9 _ _ 0 a (by decide) rfl w
 have i1:∀ w,(Instr.index 9 (.string ⟨(a::b::c::d::r).toArray⟩) (.int .i64 1)).run Tryz.prog w = .ok (.int .u8 b.toNat) w:=fun w=>iI Tryz.underlying9 _ _ 1 b (by decide) rfl w
 have i2:∀ w,(Instr.index 9 (.string ⟨(a::b::c::d::r).toArray⟩) (.int .i64 2)).run Tryz.prog w = .ok (.int .u8 c.toNat) w:=fun w=>iI Tryz.underlying9 _ _ 2 c (by decide) rfl w
 have i3:∀ w,(Instr.index 9 (.string ⟨(a::b::c::d::r).toArray⟩) (.int .i64 3)).run Tryz.prog w = .ok (.int .u8 d.toNat) w:=fun w=>iI Tryz.underlying9 _ _ 3 d (by decide) rfl w
 go_quiet (fail)
 go_wp2
 go_ret
 exact ⟨zw (Hb a b c d),_,rfl⟩
theorem gI (k n:Int) (w:World) :
  Calls Tryz.prog 107 #[.int .i64 k,.int .i64 n] w fun e w'=>e = .returned (.pointer (some ⟨w.heap.size,0,none⟩))∧w'=w.alloc (.cells #[.int .i64 k,.int .i64 n,.nilIface] 186):=by
 go_enter Tryz.func107,Tryz.ntmps107
 go_wp2
 go_ret
 exact ⟨rfl,rfl⟩
def zP (n:Nat):List UInt8:=[UInt8.ofNat (n / 16777216),UInt8.ofNat (n / 65536),UInt8.ofNat (n / 256),UInt8.ofNat n]
def sealB (kind:UInt8) (l:List UInt8):List UInt8:=kind::l++zP (DJ (kind::l))
theorem IB (w:World) (c:Nat) (hc:c<4294967296):BytesAt (w.alloc (.cells #[.int .u8 ((c:Int) / 16777216),.int .u8 ((c:Int) / 65536%256),.int .u8 ((c:Int) / 256%256),.int .u8 ((c:Int)%256)] 5)) (.slice (some ⟨w.heap.size,0,none⟩) 4 4) (zP c):=by
 have h:=OwnS.new w #[.int .u8 ((c:Int) / 16777216),.int .u8 ((c:Int) / 65536%256),.int .u8 ((c:Int) / 256%256),.int .u8 ((c:Int)%256)] 5 0 0 0 1 4 4 (aM _) (by omega) (by decide) (by simp) (.inl (by omega))
 have e:(#[Value.int .u8 ((c:Int) / 16777216),.int .u8 ((c:Int) / 65536%256),.int .u8 ((c:Int) / 256%256),.int .u8 ((c:Int)%256)]:Array Value).toList.take (4*1)=u8s (zP c):=by
  simp [u8s,zP]
  omega
 rw [e] at h
 exact h.bytes
theorem zX (kind:UInt8) (v:Value) (l:List UInt8) (w:World) (s:BytesAt w v l) (hl:l.length≤gF) :
  Calls Tryz.prog 121 #[.int .u8 kind.toNat,v] w fun e w'=>∃ v',e = .returned v'∧OwnS w' w.heap.size 1 v' (l.length+5) (u8s (sealB kind l))∧Below w.heap.size w w':=by
 have o:BytesAt (w.alloc (.cells #[.int .u8 kind.toNat] 5)) v l:=s.below ((Below.refl _ w).alloc (af _) _)
 have j:OwnS (w.alloc (.cells #[.int .u8 kind.toNat] 5)) w.heap.size 1 (.slice (some ⟨w.heap.size,0,none⟩) 1 1) 1 (u8s [kind]):=OwnS.new w #[.int .u8 kind.toNat] 5 0 0 w.heap.size 1 1 1 (af _) (by omega) (by decide) (by simp) (.inl (by omega))
 unfold gF at hl
 have m:=ab hl
 clear hl
 go_enter Tryz.func121,Tryz.ntmps121
 go_wp2_with (at_builtin;refine mF rfl (.tmp 8) (.tmp 9) rfl w.heap.size (.slice (some ⟨w.heap.size,0,none⟩) 1 1) 1 [kind] rfl j l o (by have:=m.out;omega) (by simp) ?_;intro v1 w1 b _ d)
 refine (D4 v1 (kind::l) _ b.bytes (by have:=m.out;simp;omega)).mono ?_
 rintro e w2 ⟨rfl,rfl⟩
 have q:=FH (kind::l)
 have u:=ab (show sealB kind l=kind::l++zP (DJ (kind::l)) from rfl)
 generalize DJ (kind::l)=c at *
 go_wp2_with (at_builtin;refine mF rfl (.tmp 13) (.tmp 25) rfl w.heap.size v1 (1+l.length) ([kind]++l) rfl (b.below ((Below.refl _ w1).alloc (af _) _)) (zP c) (IB w1 c q) (by have:=m.out;simp [zP];omega) (by have:=d.size;simp at this⊢;omega) ?_;intro v2 w2 i _ r)
 go_ret
 refine ⟨v2,rfl,?_,?_⟩
 ·rw [u.out]
  have x:1+l.length+(zP c).length=l.length+5:=by simp [zP];omega
  rw [←x]
  exact i
 ·exact (((Below.refl _ w).alloc (af _) _).trans d).trans (((Below.refl _ w1).alloc (by have:=d.size;simp at this;omega) _).trans r)
def ja (w:World) (base:Nat) (v:Value) (k n:Int):Prop :=
 ∃ g,v = .iface 171 (.pointer (some ⟨g,0,none⟩))∧base≤g∧w.heap[g]?=some (.cells #[.int .i64 k,.int .i64 n,.nilIface] 186 (0,0))
theorem ja.new (w:World) (base:Nat) (k n:Int) (h:base≤w.heap.size):ja (w.alloc (.cells #[.int .i64 k,.int .i64 n,.nilIface] 186)) base (.iface 171 (.pointer (some ⟨w.heap.size,0,none⟩))) k n :=
 ⟨_,rfl,h,fR _ _⟩
theorem yT (v:Value) (l:List UInt8) (w:World) (b:BytesAt w v l) (hl:l.length<5) :
  Calls Tryz.prog 110 #[v] w fun e w'=>∃ ev,e = .returned (.tuple #[.int .u8 0,.slice none 0 0,ev])∧ja w' w.heap.size ev 1 l.length∧Below w.heap.size w w':=by
 obtain ⟨a,cap,rfl,d,i⟩:=b.opened
 clear i b
 go_enter Tryz.func110,Tryz.ntmps110
 go_wp2_with (go_at_call 107;refine (gI _ _ _).mono ?_;rintro e w' ⟨rfl,rfl⟩)
 go_ret3
 exact ⟨_,rfl,ja.new w _ _ _ (af _),(Below.refl _ w).alloc (af _) _⟩
theorem sC {v:Value} {l:List UInt8} {w:World} {n:Nat} (d:BytesAt w v l) (hl:l.length≤gF) :
  Calls Tryz.prog 149 #[v] (w.drewN n) fun e b=>e = .returned (.int .u32 (DJ l))∧∃ m,b=w.drewN m :=
 (D4 v l (w.drewN n) (d.drewN n) (by unfold gF at hl;omega)).mono fun _ _ ⟨h1,h2⟩=>⟨h1,n,h2.symm⟩
theorem oT (a b c d:UInt8) (w:World) (n:Nat) :
  Calls Tryz.prog 150 #[.string ⟨[a,b,c,d].toArray⟩] (w.drewN n) fun e i=>e = .returned (.int .u32 (lW a b c d))∧∃ m,i=w.drewN m :=
 Calls.quiet_of (oe a b c d [] (w.drewN n) (by simp))
theorem zZ (v:Value) (k:UInt8) (p:List UInt8) (a b c d:UInt8) (w:World) (o:BytesAt w v (k::p++[a,b,c,d])) (hl:p.length+1≤gF) (heq:DJ (k::p)=lW a b c d) :
  Calls Tryz.prog 110 #[v] w fun e w'=>∃ v',e = .returned (.tuple #[.int .u8 k.toNat,v',.nilIface])∧OwnS w' w.heap.size 1 v' p.length (u8s p)∧Below w.heap.size w w':=by
 obtain ⟨a0,cap,rfl,q,u⟩:=o.opened
 obtain ⟨i,off,rfl,r⟩:=u 0 (by simp)
 have hlen:(k::p++[a,b,c,d]).length=p.length+5:=by simp
 have G:p.length≤9223372036854775000:=by unfold gF at hl;omega
 have D:p.length+5≤cap:=by rw [←hlen];exact q
 obtain ⟨n,s⟩:∃ n,n=p.length+1:=⟨_,rfl⟩
 have s1:BytesAt w (.slice (some ⟨i,off,none⟩) n cap) (k::p):=by rw [s];exact o.left
 have s2:BytesAt w (.slice (some ⟨i,off+n,none⟩) 4 (cap-n)) [a,b,c,d]:=by rw [s];exact o.right
 have F:BytesAt w (.slice (some ⟨i,off+1,none⟩) (n-1) (cap-1)) p:=by rw [s];exact BytesAt.right (x:=[k]) (y:=p) o.left
 have E:∀ m,(convert 112 9 (.slice (some ⟨i,off+n,none⟩) 4 (cap-n))).run Tryz.prog (w.drewN m) = .ok (.string ⟨[a,b,c,d].toArray⟩) (w.drewN m):=fun m=>(s2.drewN m).convert
 have B:=fU r
 have I:n≤cap:=by omega
 have J:1≤n:=by omega
 have M:n+4≤cap:=by omega
 have N:(0:Int)<(n:Int)+4:=by omega
 have O:(1:Int)≤(n:Int):=by omega
 have n6:¬cap=1:=by omega
 rw [hlen]
 clear u q hlen o
 simp only [aX,cj,cz] at r
 have C:=ab s
 clear s
 go_enter Tryz.func110,Tryz.ntmps110
 go_wp2
 rw [show (p.length:Int)+5-4=(n:Int) by rw [C.out];omega]
 rw [show p.length+5=n+4 by rw [C.out]]
 go_quiet ((first | (go_at_call 149;exact sC s1 (by simp;omega)) | (go_at_call 150;exact oT a b c d w _)))
 go_wp2
 go_region_held3 (fun w'=>w'.cell? ⟨i,off,none⟩=some (.int .u8 k.toNat)) (first | go_keep | exact (j.cell (p:=⟨i,off,none⟩) B).trans r)
  ((refine qy rfl _ (.tmp 33) rfl w.heap.size (.slice none 0 0) 0 [] rfl (OwnS.nil _ _ _) p (by exact F) (by unfold gF at hl;omega) (by simp) ?_;intro v1 w1 l _ j))
 go_wp2
 go_ret3
 rw [bG,aO] at l
 exact ⟨v1,rfl,l,⟨j.os,j.tape,j.output,j.size,j.block⟩⟩
theorem BX (v:Value) (k:UInt8) (p:List UInt8) (a b c d:UInt8) (w:World) (j:BytesAt w v (k::p++[a,b,c,d])) (hl:p.length+1≤gF) (heq:¬DJ (k::p)=lW a b c d) :
  Calls Tryz.prog 110 #[v] w fun e w'=>∃ ev,e = .returned (.tuple #[.int .u8 0,.slice none 0 0,ev])∧ja w' w.heap.size ev 3 (p.length+1)∧Below w.heap.size w w':=by
 obtain ⟨a0,cap,rfl,l,s⟩:=j.opened
 obtain ⟨i,off,rfl,q⟩:=s 0 (by simp)
 have hlen:(k::p++[a,b,c,d]).length=p.length+5:=by simp
 have E:p.length≤9223372036854775000:=by unfold gF at hl;omega
 have u:p.length+5≤cap:=by rw [←hlen];exact l
 obtain ⟨n,o⟩:∃ n,n=p.length+1:=⟨_,rfl⟩
 have s1:BytesAt w (.slice (some ⟨i,off,none⟩) n cap) (k::p):=by rw [o];exact j.left
 have s2:BytesAt w (.slice (some ⟨i,off+n,none⟩) 4 (cap-n)) [a,b,c,d]:=by rw [o];exact j.right
 have G:BytesAt w (.slice (some ⟨i,off+1,none⟩) (n-1) (cap-1)) p:=by rw [o];exact BytesAt.right (x:=[k]) (y:=p) j.left
 have B:∀ m,(convert 112 9 (.slice (some ⟨i,off+n,none⟩) 4 (cap-n))).run Tryz.prog (w.drewN m) = .ok (.string ⟨[a,b,c,d].toArray⟩) (w.drewN m):=fun m=>(s2.drewN m).convert
 have F:=fU q
 have C:((DJ (k::p):Int)==(lW a b c d:Int))=false:=by rw [aA];omega
 have D:((DJ (k::p):Int) != (lW a b c d:Int))=true:=by rw [bne_iff_ne];omega
 have I:n≤cap:=by omega
 have J:1≤n:=by omega
 have M:n+4≤cap:=by omega
 have N:(0:Int)<(n:Int)+4:=by omega
 have O:(1:Int)≤(n:Int):=by omega
 have n6:¬cap=1:=by omega
 rw [hlen]
 clear s l hlen j
 simp only [aX,cj,cz] at q
 have r:=ab o
 clear o
 go_enter Tryz.func110,Tryz.ntmps110
 go_wp2
 rw [show (p.length:Int)+5-4=(n:Int) by rw [r.out];omega]
 rw [show p.length+5=n+4 by rw [r.out]]
 go_quiet ((first | (go_at_call 149;exact sC s1 (by simp;omega)) | (go_at_call 150;exact oT a b c d w _)))
 go_wp2_with (go_at_call 107;refine (gI _ _ _).mono ?_;rintro e w' ⟨rfl,rfl⟩)
 go_ret3
 refine ⟨_,rfl,?_,(((Below.refl _ w).drewN nq).alloc (af _) _)⟩
 rw [show (p.length:Int)+1=(n:Int) by rw [r.out];omega]
 exact ja.new (w.drewN nq) w.heap.size 3 n (af _)
def ig (l:List UInt8):(UInt8×List UInt8)⊕(Nat×Nat) :=
 if l.length<5 then .inr (1,l.length)
 else match l.drop (l.length-4) with
  | [a,b,c,d]=>if DJ (l.take (l.length-4))=lW a b c d then .inl (l.headD 0,(l.take (l.length-4)).drop 1) else .inr (3,l.length-4)
  | _ => .inr (0,0)
theorem nC (k:UInt8) (p:List UInt8) (a b c d:UInt8):ig (k::p++[a,b,c,d])=if DJ (k::p)=lW a b c d then .inl (k,p) else .inr (3,p.length+1):=by
 have h1:(k::p++[a,b,c,d]).length-4=(k::p).length:=by simp
 unfold ig
 rw [au (by simp),h1,eB,ep]
 simp
theorem uG (l:List UInt8) (h:¬l.length<5):∃ k p a b c d,l=k::p++[a,b,c,d]:=by
 cases l with
 | nil=>simp at h
 | cons k r =>
  have i:r=r.take (r.length-4)++r.drop (r.length-4):=(cw _ _).symm
  have hd:(r.drop (r.length-4)).length=4:=by simp at h⊢;omega
  match hq:r.drop (r.length-4),hd with
  | [a,b,c,d],_=>exact ⟨k,r.take (r.length-4),a,b,c,d,by rw [hq] at i;rw [aX,←i]⟩
def BV (l:List UInt8) (w:World) (e:Ending) (w':World):Prop :=
 Below w.heap.size w w'∧match ig l with
  | .inl (k,p)=>∃ v',e = .returned (.tuple #[.int .u8 k.toNat,v',.nilIface])∧OwnS w' w.heap.size 1 v' p.length (u8s p)
  | .inr (k,n)=>∃ ev,e = .returned (.tuple #[.int .u8 0,.slice none 0 0,ev])∧ja w' w.heap.size ev k n
theorem rH (v:Value) (l:List UInt8) (w:World) (j:BytesAt w v l) (hl:l.length≤gF) :
  Calls Tryz.prog 110 #[v] w (BV l w):=by
 by_cases h:l.length<5
 ·refine (yT v l w j h).mono fun e w' ⟨ev,h1,h2,h3⟩=>⟨h3,?_⟩
  unfold ig
  rw [aD h]
  exact ⟨ev,h1,h2⟩
 ·obtain ⟨k,p,a,b,c,d,rfl⟩:=uG l h
  have i:p.length+1≤gF:=by simp at hl;omega
  by_cases heq:DJ (k::p)=lW a b c d
  ·refine (zZ v k p a b c d w j i heq).mono fun e w' ⟨v',h1,h2,h3⟩=>⟨h3,?_⟩
   rw [nC,aD heq]
   exact ⟨v',h1,h2⟩
  ·refine (BX v k p a b c d w j i heq).mono fun e w' ⟨ev,h1,h2,h3⟩=>⟨h3,?_⟩
   rw [nC,au heq]
   exact ⟨ev,h1,h2⟩
theorem IC (n:Nat) (o:n<4294967296) (a b c d:UInt8):zP n=[a,b,c,d]↔n=lW a b c d:=by
 have ha:=a.toNat_lt
 have q:=b.toNat_lt
 have hc:=c.toNat_lt
 have hd:=d.toNat_lt
 unfold zP lW
 constructor
 ·intro h
  simp only [fw,and_true] at h
  obtain ⟨h1,h2,h3,h4⟩:=h
  have i:=aZ UInt8.toNat h1
  have j:=aZ UInt8.toNat h2
  have l:=aZ UInt8.toNat h3
  have m:=aZ UInt8.toNat h4
  simp at i j l m
  omega
 ·intro h
  simp only [fw,and_true,←eu]
  simp
  omega
end Go.Proofs.YtkkfmkhbdoeglabGreatDoor
namespace Go.Proofs.YtkkfmkhbdoeglabGreatDoor
open Go.RowKit
structure ShapesVar (w:World):Prop where
 two:2≤w.heap.size
 c0:w.cell? ⟨1,0,none⟩=some (.int .i64 6)
 c1:w.cell? ⟨1,1,none⟩=some (.int .i64 4)
 c2:w.cell? ⟨1,2,none⟩=some (.int .i64 5)
 c3:w.cell? ⟨1,3,none⟩=some (.int .i64 4)
 c4:w.cell? ⟨1,4,none⟩=some (.int .i64 2)
 c5:w.cell? ⟨1,5,none⟩=some (.int .i64 2)
theorem ShapesVar.gr {w w':World} (h:ShapesVar w) (hs:w.heap.size≤w'.heap.size) (b:w'.heap[1]?=w.heap[1]?):ShapesVar w':=by
 have e:∀ i,w'.cell? ⟨1,i,none⟩=w.cell? ⟨1,i,none⟩:=fun i=>aU (a:=⟨1,i,none⟩) b
 exact ⟨aH h.two hs,by rw [e,h.c0],by rw [e,h.c1],by rw [e,h.c2],by rw [e,h.c3],by rw [e,h.c4],by rw [e,h.c5]⟩
theorem ShapesVar.new {w w':World} (h:ShapesVar w) (b:Below w.heap.size w w'):ShapesVar w' :=
 h.gr b.size (b.block _ (fU h.c0))
theorem ShapesVar.alloc {w:World} (h:ShapesVar w) (o:Obj):ShapesVar (w.alloc o):=h.new ((Below.refl _ w).alloc (af _) o)
def jh (t:Int) (k:List UInt8):Value := .agg #[.int .i64 t,.string ⟨k.toArray⟩]
def fS (t:Int):Nat:=if t=0 then 6 else if t=1 then 5 else 2
def gw (t:Int):Nat:=if t=0 then 4 else if t=1 then 4 else 2
def isVersionB (v:Nat):Bool:=decide (0<v)&&decide (v<18446744073709551615)
def iz (t:Int) (k:List UInt8):Bool :=
 if t=0 then match k with | [a,_,_,_,_,_]=>a.toNat%2==0 | _=>false
 else if t=1 then match k with | [a,b,c,d,e]=>decide (e.toNat≤32)&&(lW a b c d*2^e.toNat%4294967296==0) | _=>false
 else match k with | [_,_]=>true | _=>false
def gL (t:Int) (k:List UInt8):Bool :=
 if t=2 then match k with | [a,b]=>(a.toNat==0 || a.toNat==6 || a.toNat==17)&&decide (b.toNat≤1) | _=>false
 else match k with | [a,b,c,d]=>lW a b c d != 0 | _=>false
theorem wk {t:Int} {k:List UInt8} (h:k.length≠fS t):iz t k=false:=by
 unfold iz
 unfold fS at h
 split
 ·split
  ·simp_all
  ·rfl
 ·split
  ·split
   ·simp_all
   ·rfl
  ·split
   ·simp_all
   ·rfl
theorem sE {t:Int} {k:List UInt8} (b:0≤t) (h2:t<3) (h:k.length≠gw t):gL t k=false:=by
 unfold gL
 unfold gw at h
 split
 ·split
  ·simp_all
  ·rfl
 ·split
  ·exfalso
   have:t=0∨t=1:=by omega
   rcases this with rfl | rfl <;> simp_all
  ·rfl
theorem jO (v:Nat) (w:World):Calls Tryz.prog 158 #[.int .u64 v] w fun e w'=>e = .returned (.bool (isVersionB v))∧w=w':=by
 unfold isVersionB
 by_cases i:0<v
 ·by_cases h1:v<18446744073709551615
  ·have b:(0:Int)<v:=by omega
   have d:(v:Int)<18446744073709551615:=by omega
   go_enter Tryz.func158,Tryz.ntmps158
   go_wp2
   go_ret
   exact ⟨by simp [i,h1],rfl⟩
  ·have b:(0:Int)<v:=by omega
   have d:¬(v:Int)<18446744073709551615:=by omega
   go_enter Tryz.func158,Tryz.ntmps158
   go_wp2
   go_ret
   exact ⟨by simp,rfl⟩
 ·obtain rfl:v=0:=by omega
  go_enter Tryz.func158,Tryz.ntmps158
  go_wp2
  go_ret
  exact ⟨rfl,rfl⟩
theorem EH (t:Int) (k:List UInt8) (w:World) (b:ShapesVar w) (i:0≤t) (h2:t<3) (hk:k.length≠fS t) (_hl:k.length≤gF) :
  Calls Tryz.prog 171 #[jh t k] w fun e w'=>e = .returned (.bool false)∧Below w.heap.size w w':=by
 unfold jh
 have j:=b.two
 have c0:=fun o=>(b.alloc o).c0
 have c2:=fun o=>(b.alloc o).c2
 have c4:=fun o=>(b.alloc o).c4
 unfold fS at hk
 unfold gF at _hl
 have:t=0∨t=1∨t=2:=by omega
 rcases this with rfl | rfl | rfl
 ·have d:¬(k.length:Int)=6:=by simp at hk;omega
  go_enter Tryz.func171,Tryz.ntmps171
  go_wp2
  go_ret
  exact ⟨rfl,(Below.refl _ w).alloc (af _) _⟩
 ·have d:¬(k.length:Int)=5:=by simp at hk;omega
  go_enter Tryz.func171,Tryz.ntmps171
  go_wp2
  go_ret
  exact ⟨rfl,(Below.refl _ w).alloc (af _) _⟩
 ·have d:¬(k.length:Int)=2:=by simp at hk;omega
  go_enter Tryz.func171,Tryz.ntmps171
  go_wp2
  go_ret
  exact ⟨rfl,(Below.refl _ w).alloc (af _) _⟩
theorem Hu {k:List UInt8} (h:k.length=6):∃ a b c d e f,k=[a,b,c,d,e,f]:=by
 match k,h with
 | [a,b,c,d,e,f],_=>exact ⟨a,b,c,d,e,f,rfl⟩
theorem Ht {k:List UInt8} (h:k.length=5):∃ a b c d e,k=[a,b,c,d,e]:=by
 match k,h with
 | [a,b,c,d,e],_=>exact ⟨a,b,c,d,e,rfl⟩
theorem Hs {k:List UInt8} (h:k.length=4):∃ a b c d,k=[a,b,c,d]:=by
 match k,h with
 | [a,b,c,d],_=>exact ⟨a,b,c,d,rfl⟩
theorem vg {k:List UInt8} (h:k.length=2):∃ a b,k=[a,b]:=by
 match k,h with
 | [a,b],_=>exact ⟨a,b,rfl⟩
theorem CM (t:Int) (k:List UInt8) (w:World) (i:ShapesVar w) (q:0≤t) (h2:t<3) (hk:k.length=fS t) :
  Calls Tryz.prog 171 #[jh t k] w fun e w'=>e = .returned (.bool (iz t k))∧Below w.heap.size w w':=by
 unfold jh iz
 have r:=i.two
 have c0:=fun o=>(i.alloc o).c0
 have c2:=fun o=>(i.alloc o).c2
 have c4:=fun o=>(i.alloc o).c4
 unfold fS at hk
 have:t=0∨t=1∨t=2:=by omega
 rcases this with rfl | rfl | rfl
 ·obtain ⟨a,b,c,d,e,f,rfl⟩:=Hu hk
  have ha:=a.toNat_lt
  have i0:∀ w,(Instr.index 9 (.string ⟨[a,b,c,d,e,f].toArray⟩) (.int .i64 0)).run Tryz.prog w = .ok (.int .u8 a.toNat) w:=fun w=>iI Tryz.underlying9 _ _ 0 a (by decide) rfl w
  have s:bits BinOp.and IntKind.u8 (a.toNat:Int) 1=((a.toNat%2:Nat):Int):=by
   rw [show (1:Int)=((1:Nat):Int) from rfl,u8_and_nat _ _ ha (by omega),Nat.and_one_is_mod]
  go_enter Tryz.func171,Tryz.ntmps171
  go_wp2
  go_ret
  have he:((a.toNat:Int)%2==0)=(a.toNat%2==0):=by
   rcases de a.toNat with h | h
   ·rw [h,show ((a.toNat:Int)%2)=0 by omega];rfl
   ·rw [h,show ((a.toNat:Int)%2)=1 by omega];rfl
  exact ⟨by simp [he],(Below.refl _ w).alloc (af _) _⟩
 ·obtain ⟨a,b,c,d,e,rfl⟩:=Ht hk
  have he:=e.toNat_lt
  have i4:∀ w,(Instr.index 9 (.string ⟨[a,b,c,d,e].toArray⟩) (.int .i64 4)).run Tryz.prog w = .ok (.int .u8 e.toNat) w:=fun w=>iI Tryz.underlying9 _ _ 4 e (by decide) rfl w
  by_cases m:e.toNat≤32
  ·have j:(e.toNat:Int)≤32:=by omega
   have hq:((lW a b c d:Int)*2^e.toNat%4294967296==0)=(lW a b c d*2^e.toNat%4294967296==0):=by
    have l:((lW a b c d:Int)*2^e.toNat%4294967296)=((lW a b c d*2^e.toNat%4294967296:Nat):Int):=by rw [Int.natCast_emod,Int.natCast_mul,Int.natCast_pow];rfl
    rw [l]
    cases lW a b c d*2^e.toNat%4294967296
    ·rfl
    ·simp;omega
   go_enter Tryz.func171,Tryz.ntmps171
   go_wp2
   go_quiet ((first | (go_at_call 150;exact Calls.quiet_of (oe a b c d [e] _ (by simp)))))
   go_wp2
   go_ret
   exact ⟨by simp,((Below.refl _ w).alloc (af _) _).drewN _⟩
  ·have j:¬(e.toNat:Int)≤32:=by omega
   have hd:decide ((e.toNat:Int)≤32)=false:=bY j
   go_enter Tryz.func171,Tryz.ntmps171
   go_wp2
   go_quiet ((first | (go_at_call 150;exact Calls.quiet_of (oe a b c d [e] _ (by simp)))))
   go_wp2
   go_ret
   exact ⟨by simp,((Below.refl _ w).alloc (af _) _).drewN _⟩
 ·obtain ⟨a,b,rfl⟩:=vg hk
  go_enter Tryz.func171,Tryz.ntmps171
  go_wp2
  go_ret
  exact ⟨rfl,(Below.refl _ w).alloc (af _) _⟩
theorem oV (t:Int) (k:List UInt8) (w:World) (b:ShapesVar w) (d:0≤t) (h2:t<3) (hl:k.length≤gF) :
  Calls Tryz.prog 171 #[jh t k] w fun e w'=>e = .returned (.bool (iz t k))∧Below w.heap.size w w':=by
 by_cases hk:k.length=fS t
 ·exact CM t k w b d h2 hk
 ·rw [wk hk]
  exact EH t k w b d h2 hk hl
theorem AH (t:Int) (k:List UInt8) (w:World) (b:ShapesVar w) (i:0≤t) (h2:t<3) (hk:k.length≠gw t) (_hl:k.length≤gF) :
  Calls Tryz.prog 172 #[.int .i64 t,.string ⟨k.toArray⟩] w fun e w'=>e = .returned (.bool false)∧Below w.heap.size w w':=by
 have j:=b.two
 have c1:=b.c1
 have c3:=b.c3
 have c5:=b.c5
 unfold gw at hk
 unfold gF at _hl
 have:t=0∨t=1∨t=2:=by omega
 rcases this with rfl | rfl | rfl
 ·have d:¬(k.length:Int)=4:=by simp at hk;omega
  go_enter Tryz.func172,Tryz.ntmps172
  go_wp2
  go_ret
  exact ⟨rfl,Below.refl _ w⟩
 ·have d:¬(k.length:Int)=4:=by simp at hk;omega
  go_enter Tryz.func172,Tryz.ntmps172
  go_wp2
  go_ret
  exact ⟨rfl,Below.refl _ w⟩
 ·have d:¬(k.length:Int)=2:=by simp at hk;omega
  go_enter Tryz.func172,Tryz.ntmps172
  go_wp2
  go_ret
  exact ⟨rfl,Below.refl _ w⟩
theorem zn (t:Int) (a b c d:UInt8) (w:World) (i:ShapesVar w) (j:0≤t) (h2:t<2) :
  Calls Tryz.prog 172 #[.int .i64 t,.string ⟨[a,b,c,d].toArray⟩] w fun e w'=>e = .returned (.bool (lW a b c d != 0))∧Below w.heap.size w w':=by
 have l:=i.two
 have c1:=i.c1
 have c3:=i.c3
 have hq:((lW a b c d:Int) != 0)=(lW a b c d != 0):=by
  cases lW a b c d
  ·rfl
  ·rw [dI];simp;omega
 have:t=0∨t=1:=by omega
 rcases this with rfl | rfl
 all_goals
  go_enter Tryz.func172,Tryz.ntmps172
  go_wp2_with fail
  refine (oe a b c d [] _ (by simp)).mono ?_
  rintro e w1 ⟨rfl,n,rfl⟩
  go_wp2
  go_ret
  exact ⟨by simp,(Below.refl _ w).drewN _⟩
theorem AG (a b:UInt8) (w:World) (l:ShapesVar w) :
  Calls Tryz.prog 172 #[.int .i64 2,.string ⟨[a,b].toArray⟩] w fun e w'=>e = .returned (.bool ((a.toNat==0 || a.toNat==6 || a.toNat==17)&&decide (b.toNat≤1)))∧Below w.heap.size w w':=by
 have r:=l.two
 have c5:=l.c5
 have i0:∀ w,(Instr.index 9 (.string ⟨[a,b].toArray⟩) (.int .i64 0)).run Tryz.prog w = .ok (.int .u8 a.toNat) w:=fun w=>iI Tryz.underlying9 _ _ 0 a (by decide) rfl w
 have i1:∀ w,(Instr.index 9 (.string ⟨[a,b].toArray⟩) (.int .i64 1)).run Tryz.prog w = .ok (.int .u8 b.toNat) w:=fun w=>iI Tryz.underlying9 _ _ 1 b (by decide) rfl w
 have hd:decide ((b.toNat:Int)≤1)=decide (b.toNat≤1):=by
  rw [dI];simp;omega
 have hc:∀ n:Nat,((a.toNat:Int)==n)=(a.toNat==n):=fun n=>by
  rw [dI,a8,a8];omega
 have j:=hc 0
 have h6:=hc 6
 have d:=hc 17
 have ha:=a.toNat_lt
 have s:=b.toNat_lt
 clear hc
 cases m:(a.toNat==0) <;> cases o:(a.toNat==6) <;> cases i:(a.toNat==17)
 all_goals
  rw [m] at j
  rw [o] at h6
  rw [i] at d
  have e0:((a.toNat:Int)==0)=_:=j
  have u:((a.toNat:Int)==6)=_:=h6
  have q:((a.toNat:Int)==17)=_:=d
  clear j h6 d m o i
  go_enter Tryz.func172,Tryz.ntmps172
  go_wp2
  go_ret
  exact ⟨by simp,Below.refl _ w⟩
theorem qe (t:Int) (k:List UInt8) (w:World) (i:ShapesVar w) (j:0≤t) (h2:t<3) (hl:k.length≤gF) :
  Calls Tryz.prog 172 #[.int .i64 t,.string ⟨k.toArray⟩] w fun e w'=>e = .returned (.bool (gL t k))∧Below w.heap.size w w':=by
 by_cases hk:k.length=gw t
 ·by_cases l:t=2
  ·subst l
   obtain ⟨a,b,rfl⟩:=vg hk
   exact AG a b w i
  ·have h4:k.length=4:=by unfold gw at hk;split at hk <;> simp_all;omega
   obtain ⟨a,b,c,d,rfl⟩:=Hs h4
   have e:gL t [a,b,c,d]=(lW a b c d != 0):=by unfold gL;rw [au l]
   rw [e]
   exact zn t a b c d w i j (by omega)
 ·rw [sE j h2 hk]
  exact AH t k w i j h2 hk hl
end Go.Proofs.YtkkfmkhbdoeglabGreatDoor
namespace Go.Proofs.YtkkfmkhbdoeglabGreatDoor
open Go.RowKit
def be8 (v:Nat):List UInt8:=(List.range 8).map fun i=>UInt8.ofNat (v / 2^(56-8*i))
theorem gm (v:Nat):(be8 v).length=8:=by simp [be8]
theorem Af (v k:Nat) (h:k<8):(be8 v).take (k+1)=(be8 v).take k++[UInt8.ofNat (v / 2^(56-8*k))]:=by
 rw [aT (by rw [gm];exact h)]
 simp [be8]
theorem qn (w:World) (k:UInt8):BytesAt (w.alloc (.cells #[.int .u8 (k.toNat:Int)] 5)) (.slice (some ⟨w.heap.size,0,none⟩) 1 1) [k] :=
 (OwnS.new w #[.int .u8 (k.toNat:Int)] 5 0 0 0 1 1 1 (aM _) (by omega) (by decide) (by simp) (.inl (by omega))).bytes (l:=[k])
theorem rS (base:Nat) (bv:Value) (l:List UInt8) (v:Nat) (w:World) (q:OwnS w base 1 bv l.length (u8s l)) (u:base≤w.heap.size) (hl:l.length≤gF) (_hv:v<18446744073709551616) :
  Calls Tryz.prog 160 #[bv,.int .u64 v] w fun e w'=>∃ o,e = .returned o∧OwnS w' base 1 o (l.length+8) (u8s (l++be8 v))∧Below base w w':=by
 unfold gF at hl
 go_enter Tryz.func160,Tryz.ntmps160
 go_wp2
 go_loopw [0,6] (fun x i wr=>∃ k:Nat,k≤8∧i = .int .i64 k∧OwnS wr base 1 x (l++(be8 v).take k).length (u8s (l++(be8 v).take k))∧Below base w wr) (fun _ i _=>8-(intOf i).toNat)
 case atStart=>exact ⟨0,by omega,rfl,by simpa using q,Below.refl _ _⟩
 case round =>
  obtain ⟨k,hk,rfl,b,d⟩:=hrel
  by_cases h8:k<8
  ·have r:((UInt8.ofNat (v / 2^(56-8*k))).toNat:Int)=(v:Int) / 2^(56-8*k)%256:=by simp
   have j:=qn wr (UInt8.ofNat (v / 2^(56-8*k)))
   rw [r] at j
   have y:=d.size
   have H:=ab (Af v k h8)
   have D:=ab r
   clear r
   have B:(k:Int)<8:=by omega
   have C:(l++(be8 v).take k).length≤140737488355100:=by rw [aq,az,gm];omega
   go_wp2_with (at_builtin;refine mF rfl (.tmp 9) (.tmp 16) rfl base _ _ (l++(be8 v).take k) rfl (b.below ((Below.refl _ wr).alloc (af _) _)) [UInt8.ofNat (v / 2^(56-8*k))] j (by simp only [ar,aJ];omega) (by simp;omega) ?_;intro v1 w1 m _ s)
   go_roundw
   case rel =>
    refine ⟨k+1,by omega,by go_num,?_,(d.alloc (by omega) _).trans s⟩
    rw [H.out,←bj]
    rw [aq]
    exact m
   case measure=>simp [intOf];omega
  ·obtain rfl:k=8:=by omega
   rw [aQ (by rw [gm];omega)] at b
   go_wp2
   go_ret
   refine ⟨_,rfl,?_,d⟩
   rw [aq,gm] at b
   exact b
end Go.Proofs.YtkkfmkhbdoeglabGreatDoor
