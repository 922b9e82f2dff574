/- A part of what is proved here: lemmas and contracts of single functions. No condition but those that each names. -/
import Derived.Test.YtkkfmkhbdoeglaaGreatDoorG00
import Derived.Deep.DeepCutAuto
import Derived.RangeFuncNested
import Derived.Test.YtkkfmkhbdoeglaaGreatDoorG09
import Derived.Test.YtkkfmkhbdoeglaaGreatDoorG11
import Derived.Test.YtkkfmkhbdoeglaaGreatDoorG17
import Derived.Test.YtkkfmkhbdoeglaaGreatDoorG18
set_option maxHeartbeats 4000000
set_option maxRecDepth 100000
namespace Go.Proofs.YtkkfmkhbdoeglaaGreatDoor
open Go.RowKit
theorem p4 {F:Fence} (hF:∀ f,F.fn f) {nF:Nat} {ops:Array Oper} {rest:List Oper} {o:Oper} {a:Act} {Q:Exit→Act→World→Prop} {w:World} (j:o.guard=none) (s x:Operand)
  (u:o.op = .call {callee := .builtin .append,args:=#[s,x],argTypes:=#[59,59]})
  (base:Nat) (v:Value) (n:Nat) (l:List UInt8) (y:a.eval s=v) (d:OwnS w base 1 v n (u8s l)) (B:CellsOf w v 5) (m:List UInt8) (hs:BytesAt w (a.eval x) m)
  (hlen:n+m.length≤140737488355328) (b:base≤w.heap.size)
  (h:∀ v' w',OwnS w' base 1 v' (n+m.length) (u8s (l++m))→w.grownBy w' v.ownBlock→CellsOf w' v' 5→Below base w w'→
   wpListIn F nF Tryz.prog ops Q rest (a.put o.dst v') w'):wpListIn F nF Tryz.prog ops Q (o::rest) a w:=by
 obtain ⟨i0,C,q,i,r⟩:=dP oY
 have hmx:maxLen=9223372036854775807:=rfl
 refine ki hF j s x _ _ u base 1 5 i0 (.int .u8 0) Tryz.underlying59 C q i (by rw [i];rfl) (by omega) v n (u8s l) y d B m.length (u8s m) (fH.src Tryz.underlying59 hs (mY m)) (by omega) (by rw [r];omega) b (fun v' w' h1 h2 h3 => ?_)
 rw [←jE] at h1
 exact h v' w' h1 h2 h3 (gU d h2 b)
theorem lS {F:Fence} (hF:∀ f,F.fn f) {nF:Nat} {ops:Array Oper} {rest:List Oper} {o:Oper} {a:Act} {Q:Exit→Act→World→Prop} {w:World} (j:o.guard=none) (s x:Operand)
  (u:o.op = .call {callee := .builtin .append,args:=#[s,x],argTypes:=#[59,9]})
  (base:Nat) (v:Value) (n:Nat) (l:List UInt8) (y:a.eval s=v) (d:OwnS w base 1 v n (u8s l)) (B:CellsOf w v 5) (m:List UInt8) (hs:a.eval x = .string ⟨m.toArray⟩)
  (hlen:n+m.length≤140737488355328) (b:base≤w.heap.size)
  (h:∀ v' w',OwnS w' base 1 v' (n+m.length) (u8s (l++m))→w.grownBy w' v.ownBlock→CellsOf w' v' 5→Below base w w'→
   wpListIn F nF Tryz.prog ops Q rest (a.put o.dst v') w'):wpListIn F nF Tryz.prog ops Q (o::rest) a w:=by
 obtain ⟨i0,C,q,i,r⟩:=dP oY
 have hmx:maxLen=9223372036854775807:=rfl
 refine ki hF j s x _ _ u base 1 5 i0 (.int .u8 0) Tryz.underlying59 C q i (by rw [i];rfl) (by omega) v n (u8s l) y d B m.length (u8s m) (by rw [hs];exact xW m) (by omega) (by rw [r];omega) b (fun v' w' h1 h2 h3 => ?_)
 rw [←jE] at h1
 exact h v' w' h1 h2 h3 (gU d h2 b)
theorem CellsOf.kept {w w':World} {v:Value} {e:TypeId} {row:Option Nat} (h:CellsOf w v e) (j:w.grownBy w' row) (l:∀ b,v.ownBlock=some b→row≠some b):CellsOf w' v e:=fun b d=>by
 obtain ⟨C,fz,i⟩:=h b d
 exact ⟨C,fz,(j.block b (fw i) (fun e=>l b d e.symm)).trans i⟩
structure iN (base B:Nat) (l:List UInt8) (v:Value) (W:World):Prop where
 box:Boxed W B 59 v
 own:OwnS W base 1 v l.length (u8s l)
 typ:CellsOf W v 5
 lo:base≤B
section
variable {base B:Nat} {l m:List UInt8} {v v':Value} {W w1:World}
theorem iN.apart (h:iN base B l v W) {j:Nat} {cs:Array Value} {t':TypeId} {fz:Nat×Nat} (d:W.heap[j]?=some (.cells cs t' fz)) (i:t'≠5):v.ownBlock≠some j:=fun e=>by
 obtain ⟨C,m,b⟩:=h.typ j e
 rw [d] at b
 cases b
 exact i rfl
theorem iN.GD (h:iN base B l v W):v.ownBlock≠some B:=h.apart h.box (by decide)
theorem iN.kept {row:Option Nat} (h:iN base B l v W) (i:W.grownBy w1 row) (j:∀ r,row=some r→∃ o:Obj,W.heap[r]?=some o∧o.isCells=false):iN base B l v w1 :=
 have h1:∀ b,v.ownBlock=some b→row≠some b:=fun b m e=>by
  obtain ⟨C,fz,q⟩:=h.typ b m
  obtain ⟨o,d,hc⟩:=j b e
  rw [q] at d
  cases d
  cases hc
 ⟨h.box.kept i (fun e=>by obtain ⟨o,d,hc⟩:=j B e.symm;rw [show W.heap[B]?=_ from h.box] at d;cases d;cases hc),h.own.grown i h1,h.typ.kept i h1,h.lo⟩
theorem iN.alloc (h:iN base B l v W) (o:Obj):iN base B l v (W.alloc o):=h.kept (dC W o none) (fun r e=>by cases e)
theorem iN.still (h:iN base B l v W) (b:W.grownBy w1 v.ownBlock):Boxed w1 B 59 v:=h.box.kept b (fun e=>h.GD e.symm)
theorem iN.stored (h:iN base B l v W) (q:W.grownBy w1 v.ownBlock) {n:Nat} (i:OwnS w1 base 1 v' n (u8s m)) (r:n=m.length) (j:CellsOf w1 v' 5):iN base B m v' (w1.setCell ⟨B,0,none⟩ v'):=by
 subst r
 have h1:=h.still q
 have d:∀ b,v'.ownBlock=some b→(some B:Option Nat)≠some b:=fun b s e=>by
  cases e
  obtain ⟨C,u,o⟩:=j B s
  rw [show w1.heap[B]?=_ from h1] at o
  cases o
 exact ⟨h1.set v',i.grown (grownBy_setCell' w1 B v') d,j.kept (grownBy_setCell' w1 B v') d,h.lo⟩
theorem iN.others (h:iN base B l v W) (d:W.grownBy w1 v.ownBlock):KeepsOthers W (w1.setCell ⟨B,0,none⟩ v') :=
 (KeepsOthers.of_grownBy d (fun j o i m=>by
  obtain ⟨C,fz,b⟩:=h.typ j i
  rw [m] at b
  cases b
  rfl)).trans (KeepsOthers.setCell _ _ _)
theorem iN.mr (h:iN base B l v W) (i:W.grownBy w1 v.ownBlock) {j:Nat} {cs:Array Value} {t':TypeId} {fz:Nat×Nat} (b:W.heap[j]?=some (.cells cs t' fz)) (m:t'≠5) (d:t'≠59):(w1.setCell ⟨B,0,none⟩ v').heap[j]?=some (.cells cs t' fz):=by
 have o:j≠B:=by
  rintro rfl
  have:=(show W.heap[j]?=_ from h.box).symm.trans b
  cases this
  exact d rfl
 rw [Below.heap_setCell _ ⟨B,0,none⟩ _ j o]
 exact (i.block j (fw b) (fun e=>h.apart b m e.symm)).trans b
theorem iN.lower (h:iN base B l v W) (b:W.grownBy w1 v.ownBlock) (d:base≤W.heap.size):Below base W (w1.setCell ⟨B,0,none⟩ v') :=
 (gU h.own b d).setCell (p:=⟨B,0,none⟩) h.lo v'
theorem iN.late {n:Nat} (b:OwnS W base 1 v n (u8s l)) (d:n=l.length) (i:CellsOf W v 5) (j:base≤W.heap.size):iN base W.heap.size l v (W.alloc (.cells #[v] 59)):=by
 subst d
 exact ⟨Boxed.new W _ _,b.below ((Below.refl _ W).alloc (af _) _),i.alloc _,j⟩
theorem iN.put {n:Nat} {u:Value} (i:Boxed W B 59 u) (o:OwnS W base 1 v n (u8s l)) (q:n=l.length) (j:CellsOf W v 5) (r:base≤B):iN base B l v (W.setCell ⟨B,0,none⟩ v):=by
 subst q
 have d:∀ b,v.ownBlock=some b→(some B:Option Nat)≠some b:=fun b h e=>by
  cases e
  obtain ⟨C,s,m⟩:=j B h
  rw [show W.heap[B]?=_ from i] at m
  cases m
 exact ⟨i.set v,o.grown (grownBy_setCell' W B v) d,j.kept (grownBy_setCell' W B v) d,r⟩
theorem iN.AK (h:iN base B l v W) (b:W.grownBy w1 v.ownBlock) (j:base≤W.heap.size) {x y z:Nat} {d:TypeId} {u:Value} (m:Boxed W x d u) (o:d≠5) (i:d≠59) (q:y<base) (r:z<base):gC x y z W (w1.setCell ⟨B,0,none⟩ v'):=by
 refine ⟨by rw [size_setCell];exact b.size,fun k hk => ?_,fun k cs fz hk=>h.mr b hk (by decide) (by decide)⟩
 rcases hk with rfl | rfl | rfl
 ·exact (h.mr b m o i).trans (show W.heap[k]?=_ from m).symm
 ·exact (h.lower b j).block k q
 ·exact (h.lower b j).block k r
end
end Go.Proofs.YtkkfmkhbdoeglaaGreatDoor
namespace Go.Proofs.YtkkfmkhbdoeglaaGreatDoor
open Go.RowKit Go.Shelf
attribute [local go_sem] Oper.semAt_some
def jl (x:E):List UInt8:=UInt8.ofNat x.1.1.toNat::(x.1.2++x.2)
def jc (l:List E):List UInt8:=l.flatMap jl
def ic (v:Nat) (S:List E):List UInt8:=j4 v++[UInt8.ofNat (S.length / 256),UInt8.ofNat S.length]++jc S
theorem Aa (l:List E) (x:E):jc (l++[x])=jc l++jl x:=by simp [jc]
theorem TabAt.len {w:World} {r:Nat} {S:List E} (h:TabAt w r S) (ty:TypeId):(Builtin.len_ #[107] ty #[.map (some r)]).run Tryz.prog w = .ok (.int .i64 (S.length:Int)) w:=by
 obtain ⟨-,L,⟨es,clock,b,he,-⟩,d⟩:=h
 have i:es.size=S.length:=by
  have h1:=bG List.length he
  have h2:=d.length_eq
  simp at h1 h2
  omega
 rw [←i]
 simp [Builtin.len_,aL Tryz.underlying107,aJ b,goInt,Result.andThen]
theorem yn (n:Nat):IntKind.u8.wrap (n:Int)=((UInt8.ofNat n).toNat:Int):=by
 simp [IntKind.wrap,IntKind.bits,IntKind.signed]
theorem Dx (w:World) (n:Nat):BytesAt (w.alloc (.cells #[.int .u8 (IntKind.u8.wrap ((n:Int) / 256)),.int .u8 (IntKind.u8.wrap (n:Int))] 5)) (.slice (some ⟨w.heap.size,0,none⟩) 2 2) [UInt8.ofNat (n / 256),UInt8.ofNat n]:=by
 rw [show (n:Int) / 256=((n / 256:Nat):Int) by omega,yn,yn]
 refine ⟨rfl,_,2,rfl,af _,fun i b=>⟨w.heap.size,0,rfl,?_⟩⟩
 rw [bE,mN]
 have d:i<2:=b
 have:i=0∨i=1:=by omega
 rcases this with rfl | rfl <;> rfl
theorem py {W:World} {base n:Nat} {v:Value} {l:List UInt8} (h:OwnS W base 1 v n (u8s l)) (hl:2≤l.length) {B:Nat} {u:Value} {t:TypeId} (b:W.heap[B]?=some (.cells #[u] t (0,0))):v.ownBlock≠some B:=by
 obtain ⟨hlen,⟨rfl,-⟩ | ⟨g,off,cap,rfl,-,-,-,-,hc,-⟩⟩:=h
 ·simp [Value.ownBlock]
 ·intro e
  obtain rfl:g=B:=by simpa [Value.ownBlock] using e
  have h1:=hc 1 (by rw [iA];omega)
  rw [ae _ _ _ _ _ _ b] at h1
  have h2:(#[u]:Array Value)[off+1]?=none:=by simp
  rw [h2] at h1
  cases h1
section
variable {w2 w3:World} {base n:Nat} {bv:Value} {l:List UInt8} {u:Value} {t:TypeId}
theorem C9 (h:OwnS w2 base 1 bv n (u8s l)) (hl:2≤l.length) {b:Obj} (d:((w2.alloc (.cells #[u] t (0,0))).alloc b).grownBy w3 bv.ownBlock):w3.heap[w2.heap.size]?=some (.cells #[u] t (0,0)):=by
 have h9:=fG (w2.alloc (.cells #[u] t (0,0))) b (fA w2 (.cells #[u] t (0,0)))
 have i:Below w2.heap.size w2 ((w2.alloc (.cells #[u] t (0,0))).alloc b):=((Below.refl _ w2).alloc (af _) _).alloc (by simp) _
 exact (d.block w2.heap.size (fw h9) (py (h.below i) hl h9).symm).trans h9
theorem AX (h:OwnS w2 base 1 bv n (u8s l)) (hl:2≤l.length) {b:Obj} (d:((w2.alloc b).alloc (.cells #[u] t (0,0))).grownBy w3 bv.ownBlock):w3.heap[w2.heap.size+1]?=some (.cells #[u] t (0,0)):=by
 have h9:=fA (w2.alloc b) (.cells #[u] t (0,0))
 rw [ax] at h9
 have i:Below w2.heap.size w2 ((w2.alloc b).alloc (.cells #[u] t (0,0))):=((Below.refl _ w2).alloc (af _) _).alloc (by simp) _
 exact (d.block (w2.heap.size+1) (fw h9) (py (h.below i) hl h9).symm).trans h9
theorem Cr (h:OwnS w2 base 1 bv n (u8s l)) (hl:2≤l.length) {B:Nat} (d:w2.heap[B]?=some (.cells #[u] t (0,0))) {b:Obj} (i:(w2.alloc b).grownBy w3 bv.ownBlock):w3.heap[B]?=some (.cells #[u] t (0,0)):=by
 have h9:=fG w2 b d
 have j:Below w2.heap.size w2 (w2.alloc b):=(Below.refl _ w2).alloc (af _) _
 exact (i.block B (fw h9) (py (h.below j) hl h9).symm).trans h9
end
theorem vO {S:List E} (h:∀ x∈S,0≤x.1.1∧x.1.1<256∧x.1.2.length≤100∧x.2.length≤100):∀ pre:List {x:E // x∈S},(jc (pre.map Subtype.val)).length≤201*pre.length
 | []=>aK _
 | x::pre=>by
  have h1:=vO h pre
  obtain ⟨-,-,h2,h3⟩:=h x.1 x.2
  have e:(jc ((x::pre).map Subtype.val)).length=1+x.1.1.2.length+x.1.2.length+(jc (pre.map Subtype.val)).length:=by
   simp [jc,jl];omega
  rw [e,ar]
  omega
theorem Ck (k:Int) (b:0≤k) (h1:k<256) (w:World):(Go.convert 3 5 (.int .i64 k)).run Tryz.prog w = .ok (.int .u8 k) w:=by
 simp [go_sem]
 exact IntWalk.u8_in k (by omega)
theorem EF (k:Int) (b:0≤k) (h1:k<256) (w:World):BytesAt (w.alloc (.cells #[.int .u8 k] 5)) (.slice (some ⟨w.heap.size,0,none⟩) 1 1) [UInt8.ofNat k.toNat]:=by
 have h:=o5 w (UInt8.ofNat k.toNat)
 have e:((UInt8.ofNat k.toNat).toNat:Int)=k:=by simp;omega
 rw [e] at h
 exact h
def F0 {S:List E} (base b d q off:Nat) (w:World) (l:List UInt8) (pre:List {x:E // x∈S}) (W:World):Prop :=
 (∃ bv,iN base b (l++jc (pre.map Subtype.val)) bv W)∧Boxed W d 173 (.pointer (some ⟨q,off,none⟩))∧Below base w W
theorem Cy {S:List E} {base i j q off B:Nat} {w:World} {l:List UInt8} (m:base≤B) (hw:base≤w.heap.size):OwnFrom B (F0 (S:=S) base i j q off w l):=by
 rintro pre X Y row ⟨⟨bv,o⟩,h1,h2⟩ b d
 refine ⟨⟨bv,o.kept b fun r e=>(d r e).2⟩,?_,(ownFrom_below (β:=Unit) hw m) () X Y row h2 b d⟩
 exact (Own.from (boxed_own (β:=Unit) _ _ (fun _=>_)) B) () X Y row h1 b d
theorem EG (q off r v:Nat) (S:List E) (w:World) (he:EntAt w q off r S) (hS:S.length<65536) (hv:v<18446744073709551616) (hb:∀ x∈S,0≤x.1.1∧x.1.1<256∧x.1.2.length≤100∧x.2.length≤100) :
  Calls Tryz.prog 101 #[.int .u64 v,.pointer (some ⟨q,off,none⟩)] w fun e w'=>∃ bv,e = .returned bv∧OwnS w' w.heap.size 1 bv (ic v S).length (u8s (ic v S))∧Below w.heap.size w w':=by
 have hc:=he.cell
 have hlen:=he.tab.len (ty:=3)
 have Q:=ab (fun (W:World) (hW:Below w.heap.size w W)=>(he.below hW).tab.len (ty:=3))
 have hq:=he.lt
 have hr:=he.tab.lt
 refine (callsIn_wide (n:=9)).1 ?_
 refine callsIn_of_wp_marks Tryz.func101 rfl cI ?_ rfl
 try simp only [Tryz.ntmps101,dy,ar,aM,Nat.reduceAdd,Nat.reduceSub,aZ,bm,bJ,dB,aO,aV]
 gi_wp2_with fail
 have bo:∀ W,Below w.heap.size w W→W.cell? ⟨q,off,none⟩=some (.map (some r)):=fun W hW=>(hW.cell (p:=⟨q,off,none⟩) hq).trans hc
 have s:=ab bo
 clear bo
 have a0:=fun W=>Dx W S.length
 refine wpIn_wide.2 ?_
 go_upto_region 1 with fail
 go_cut [5] from 8 to 42 (fun b wx=>∃ Bb bv,b = .pointer (some ⟨Bb,0,none⟩)∧iN w.heap.size Bb (j4 v++[UInt8.ofNat (S.length / 256),UInt8.ofNat S.length]) bv wx∧Below w.heap.size w wx)
 case first =>
  go_region_held3 (fun w'=>Below w.heap.size w w'∧w'.cell? ⟨q,off,none⟩=some (.map (some r))∧(Builtin.len_ #[107] 3 #[.map (some r)]).run Tryz.prog w' = .ok (.int .i64 (S.length:Int)) w')
   (first | exact ⟨(Below.refl _ _).drew,s.out _ (Below.refl _ _).drew,Q.out _ (Below.refl _ _).drew⟩ | exact ⟨((Below.refl w.heap.size w).drew.alloc (af _) _),s.out _ ((Below.refl w.heap.size w).drew.alloc (af _) _),Q.out _ ((Below.refl w.heap.size w).drew.alloc (af _) _)⟩ | exact ⟨(((Below.refl w.heap.size w).alloc (af _) _).drew),s.out _ (((Below.refl w.heap.size w).alloc (af _) _).drew),Q.out _ (((Below.refl w.heap.size w).alloc (af _) _).drew)⟩ | exact ⟨d,s.out _ d,Q.out _ d⟩ | exact ⟨(d.alloc d.size _),s.out _ (d.alloc d.size _),Q.out _ (d.alloc d.size _)⟩ | exact ⟨((d.alloc d.size _).alloc (by have:=d.size;simp;omega) _),s.out _ ((d.alloc d.size _).alloc (by have:=d.size;simp;omega) _),Q.out _ ((d.alloc d.size _).alloc (by have:=d.size;simp;omega) _)⟩ | exact ⟨i,s.out _ i,Q.out _ i⟩ | exact ⟨(i.alloc i.size _),s.out _ (i.alloc i.size _),Q.out _ (i.alloc i.size _)⟩ | exact ⟨(i.setCell (p:=⟨w.heap.size,0,none⟩) (af _) _),s.out _ (i.setCell (p:=⟨w.heap.size,0,none⟩) (af _) _),Q.out _ (i.setCell (p:=⟨w.heap.size,0,none⟩) (af _) _)⟩ | exact ⟨(i.setCell (p:=⟨w2.heap.size,0,none⟩) d.size _),s.out _ (i.setCell (p:=⟨w2.heap.size,0,none⟩) d.size _),Q.out _ (i.setCell (p:=⟨w2.heap.size,0,none⟩) d.size _)⟩ | exact ⟨(i.setCell (p:=⟨w2.heap.size+1,0,none⟩) (by have:=d.size;simp;omega) _),s.out _ (i.setCell (p:=⟨w2.heap.size+1,0,none⟩) (by have:=d.size;simp;omega) _),Q.out _ (i.setCell (p:=⟨w2.heap.size+1,0,none⟩) (by have:=d.size;simp;omega) _)⟩)
   ((first
     | (go_at_call 113;refine (sD _ (.slice none 0 0) [] v _ (OwnS.nil _ _ _) (CellsOf.nil _ _) (af _) (by simp [fX]) hv).mono ?_;rintro e w2 ⟨bv,rfl,a4,a5,al⟩;have br:=ab a5;clear a5;simp only [aM,bE,aO] at a4;
        have d:Below w.heap.size w w2:=(by first | exact (Below.refl w.heap.size w).drew.trans al | exact (((Below.refl w.heap.size w).alloc (af _) _).drew).trans (al.mono (by simp)) | exact ((Below.refl w.heap.size w).drew.alloc (af _) _).trans (al.mono (by simp)));
        have u:OwnS w2 w.heap.size 1 bv 8 (u8s (j4 v)):=a4.mono (by simp);
        (first
         | (have U:Below w.drew.heap.size w.drew w2:=by with_reducible exact al)
         | (have Q2:Hid (w2.heap[w.heap.size]?=some (.cells #[.slice none 0 0] 59 (0,0))):=ab (fy al (by simp) (by first | exact fA w _ | exact fA w.drew _)))))
     | (refine kx rfl (.tmp 9) (.tmp 23) rfl w.heap.size bv 8 (j4 v) rfl (by first | exact u.below ((Below.refl _ w2).alloc (af _) _) | exact u.below (((Below.refl _ w2).alloc (af _) _).alloc (by simp) _)) (by first | exact br.out.alloc _ | exact (br.out.alloc _).alloc _) [UInt8.ofNat (S.length / 256),UInt8.ofNat S.length] (by first | exact a0 _ | (have h9:=a0 (w2.alloc (.cells #[.slice none 0 0] 59 (0,0)));rw [ax] at h9;exact h9) | exact BytesAt.below (a0 w2) ((Below.refl _ _).alloc (af _) _)) (by simp) (by have h9:=d.size;simp at h9⊢;omega) ?_;intro v3 w3 J B a6 a7;have aa:=ab a6;clear a6;
        have i:Below w.heap.size w w3:=(by first | exact (d.alloc d.size _).trans a7 | exact ((d.alloc d.size _).alloc (by have:=d.size;simp;omega) _).trans a7);
        obtain ⟨va,a9,rfl⟩:=J.shape;
        (first
         | (have M:Hid (w3.heap[w.heap.size]?=some (.cells #[.slice none 0 0] 59 (0,0))):=ab (Cr u (by rw [fQ];omega) Q2.out B);have x0:=ae _ _ 0 _ _ _ M.out;have y0:=aj _ _ 0 _ _ M.out;have l0:=fw M.out)
         | (have M:Hid (w3.heap[w2.heap.size]?=some (.cells #[.slice none 0 0] 59 (0,0))):=ab (C9 u (by rw [fQ];omega) B);have x0:=ae _ _ 0 _ _ _ M.out;have y0:=aj _ _ 0 _ _ M.out;have l0:=fw M.out)
         | (have M:Hid (w3.heap[w2.heap.size+1]?=some (.cells #[.slice none 0 0] 59 (0,0))):=ab (AX u (by rw [fQ];omega) B);have x0:=ae _ _ 0 _ _ _ M.out;have y0:=aj _ _ 0 _ _ M.out;have l0:=fw M.out)
         | skip))))
  all_goals go_wp2_with fail
  all_goals go_meet
  ·exact ⟨w3.heap.size,_,rfl,iN.late J (by simp [fQ]) aa.out i.size,i.alloc i.size _⟩
  ·exact ⟨w2.heap.size+1,_,rfl,iN.put M.out J (by simp [fQ]) aa.out (by have:=d.size;omega),i.setCell (p:=⟨w2.heap.size+1,0,none⟩) (eF d.size) _⟩
  ·exact ⟨w2.heap.size,_,rfl,iN.put M.out J (by simp [fQ]) aa.out d.size,i.setCell (p:=⟨w2.heap.size,0,none⟩) d.size _⟩
  ·exact ⟨w.heap.size,_,rfl,iN.put M.out J (by simp [fQ]) aa.out (af _),i.setCell (p:=⟨w.heap.size,0,none⟩) (af _) _⟩
 case rest =>
  obtain ⟨Bb,bv,rfl,hI,hB⟩:=hcut
  have b7:=he.below hB
  gi_wp2_with (refine ⟨cI,(callsIn_wide.2 (qx q off _)).mono ?_⟩;rintro e w5 ⟨rfl,rfl⟩)
  have bM:=Boxed.new wc 173 (.pointer (some ⟨q,off,none⟩))
  have bs:=hI.alloc (.cells #[.pointer (some ⟨q,off,none⟩)] 173)
  have am:=hB.alloc hB.size (.cells #[.pointer (some ⟨q,off,none⟩)] 173)
  have hM:wc.heap.size<(wc.alloc (.cells #[.pointer (some ⟨q,off,none⟩)] 173)).heap.size:=by simp
  have b8:w.heap.size≤wc.heap.size:=hB.size
  obtain ⟨V,bt⟩:∃ V,V=wc.heap.size:=⟨_,rfl⟩
  obtain ⟨W5,bw⟩:∃ W5,W5=wc.alloc (.cells #[.pointer (some ⟨q,off,none⟩)] 173):=⟨_,rfl⟩
  rw [←bw] at bM bs am hM⊢
  rw [←bt] at bM hM b8⊢
  clear bw bt hI hB b7
  have ca:=he.below am
  have hmx:maxLen=9223372036854775807:=rfl
  refine wpIn_rangeFunc_ownH rfl (by omega) (gf:=90) (lb:=#[.pointer (some ⟨V,0,none⟩)]) rfl cI (enters_of Tryz.func90 (by kernel_rfl) rfl)
   (mR (β := {x:E // x∈S}) Subtype.val S.attach (9-1) V q off r S (dV S) W5 hM bM.cell ca (by omega)) (fun h k=>gC.trans h k)
   (fun W l o o' hl ho hc _=>⟨by simp,(fun k hk=>World.putObj_heap_other (by have:=am.size;rcases hk with rfl | rfl | rfl <;> omega)),(fun k cs fz hk=>(World.putObj_heap_other (fun e=>by subst e;rw [hk] at ho;cases ho;cases hc)).trans hk)⟩) (Below.refl _ _) (fun _=>rfl)
   (F0 w.heap.size Bb V q off w (j4 v++[UInt8.ofNat (S.length / 256),UInt8.ofNat S.length]))
   (fun _ _ _=>False)
   (Cy (by have:=am.size;omega) (af _))
   (fun _ _ _ _ _ hs _ _=>hs)
   ⟨⟨bv,by simpa [jc] using bs⟩,bM,am⟩
   (fun x a' W=>∃ Bx,V<Bx∧W.heap[Bx]?=some (.cells #[.int .i64 x.1.1.1,.string ⟨x.1.1.2.toArray⟩] 94 (0,0))∧a' = {tmps:=#[.int .u64 v,.pointer (some ⟨q,off,none⟩),undef,undef,.slice none 0 0,.pointer (some ⟨Bb,0,none⟩),.pointer (some ⟨Bx,0,none⟩),.string ⟨x.1.2.toArray⟩,u8,u9,u10,u11,u12,u13,u14,u15,u16,u17,u18,u19,u20,u21,u22,u23,u24,.pointer (some ⟨q,off,none⟩),.func (.func 90) #[] #[.pointer (some ⟨V,0,none⟩)],.agg #[.int .i64 x.1.1.1,.string ⟨x.1.1.2.toArray⟩],.string ⟨x.1.2.toArray⟩,u29,u30,u31,u32,u33,u34,u35,u36,u37,u38,u39,u40,u41,u42],defers:=[]})
   (fun x a' _ X Y row hs hg hr=>by
    obtain ⟨Bx,h1,h2,h3⟩:=hs
    exact ⟨Bx,h1,(hg.block Bx (fw h2) (fun e=>by obtain ⟨-,o,ho,hc⟩:=hr Bx e.symm;rw [h2] at ho;cases ho;cases hc)).trans h2,h3⟩)
   ?assign ?body ?done ?stop
  case assign =>
   rintro l pre x W K ⟨⟨d7,h0⟩,h1,h2⟩ hK
   unfold kV iD
   gi_wp2
   exact hK _ _ ((KeepsOthers.alloc _ _).from _) (gC.fS ((Below.refl _ W).alloc (af _) _) h1.lt (by have:=h2.size;omega) (by have:=h2.size;omega)) ⟨⟨d7,h0.alloc _⟩,h1.alloc _,h2.alloc h2.size _⟩ ⟨W.heap.size,h1.lt,fA W _,rfl⟩
  case body =>
   rintro l pre ⟨⟨⟨I,m⟩,vb⟩,bx⟩ a' W hl ⟨rr,c8⟩ ⟨⟨d7,h0⟩,h1,h2⟩ ⟨Bx,c9,bX,rfl⟩ da
   obtain ⟨g0,g1,g2,g3⟩:=hb _ bx
   simp only at g0 g1 g2 g3
   have gl:=vO hb pre
   have HB:=ab hb
   clear hb
   obtain ⟨va,a9,rfl⟩:=h0.own.shape
   obtain ⟨L,hL⟩:∃ L,L=j4 v++[UInt8.ofNat (S.length / 256),UInt8.ofNat S.length]++jc (pre.map Subtype.val):=⟨_,rfl⟩
   have dc:L.length≤20000000:=by rw [hL];simp only [aq,fQ,ar,aM];omega
   have Q:=ab hL
   rw [←hL] at h0
   clear hL gl
   have x0:=ae _ _ 0 _ _ _ bX
   have x1:=ae _ _ 1 _ _ _ bX
   have hcv:=Ck I g0 g1
   have cB:=h0.box.cell
   have sW:=h2.size
   have b0:=EF I g0 g1 W
   have U:=h0.alloc (.cells #[.int .u8 I] 5)
   have bc:w.heap.size≤(W.alloc (.cells #[.int .u8 I] 5)).heap.size:=by simp;omega
   have cb:=fG W (.cells #[.int .u8 I] 5) bX
   have KA:gC V q r W (W.alloc (.cells #[.int .u8 I] 5)):=gC.fS ((Below.refl _ W).alloc (af _) _) h1.lt (by omega) (by omega)
   have bz:=h1.alloc (.cells #[.int .u8 I] 5)
   have ce:=h2.alloc h2.size (.cells #[.int .u8 I] 5)
   gi_wp2_with (first
    | (gi_at_builtin;refine p4 (fun _=>cI) rfl (.tmp 29) (.tmp 33) rfl w.heap.size (.slice va L.length a9) L.length L rfl U.own U.typ [UInt8.ofNat I.toNat] b0 (by simp only [ar,aM];omega) bc ?_;intro v1 w1 bd N ci dk;simp only [ar,aM,bE] at bd;obtain ⟨Z,j,rfl⟩:=bd.shape;have c1:=(U.still N).cell;have f1:=(U.still N).frozen;have F:=U.stored N bd (by simp) ci;have cl:=U.mr (v' := .slice Z (L.length+1) j) N cb (by decide) (by decide);have y1:=ae _ _ 1 _ _ _ cl;have dl:=F.box.cell;have a2:w.heap.size≤(w1.setCell ⟨Bb,0,none⟩ (.slice Z (L.length+1) j)).heap.size:=(by rw [size_setCell];have:=N.size;omega))
    | (gi_at_builtin;refine lS (fun _=>cI) rfl (.tmp 35) (.tmp 37) rfl w.heap.size (.slice Z (L.length+1) j) (L.length+1) (L++[UInt8.ofNat I.toNat]) rfl (by have h9:=F.own;rw [aq] at h9;exact h9) F.typ m rfl (by omega) a2 ?_;intro v2 w2 bD R co dn;obtain ⟨ag,C,rfl⟩:=bD.shape;have c2:=(F.still R).cell;have f2:=(F.still R).frozen;have G:=F.stored R bD (by simp;omega) co;have dp:=G.box.cell;have a3:w.heap.size≤(w2.setCell ⟨Bb,0,none⟩ (.slice ag (L.length+1+m.length) C)).heap.size:=(by rw [size_setCell];have:=R.size;omega))
    | (gi_at_builtin;refine lS (fun _=>cI) rfl (.tmp 39) (.tmp 40) rfl w.heap.size (.slice ag (L.length+1+m.length) C) (L.length+1+m.length) (L++[UInt8.ofNat I.toNat]++m) rfl (by have h9:=G.own;rw [show (L++[UInt8.ofNat I.toNat]++m).length=L.length+1+m.length by simp;omega] at h9;exact h9) G.typ vb rfl (by omega) a3 ?_;intro v3 w3 bH B aa a7;obtain ⟨aE,O,rfl⟩:=bH.shape;have c3:=(G.still B).cell;have f3:=(G.still B).frozen;have cp:=G.stored B bH (by simp;omega) aa))
   have bI:=U.mr (v' := .slice Z (L.length+1) j) N bz (by decide) (by decide)
   have bL:=F.mr (v' := .slice ag (L.length+1+m.length) C) R bI (by decide) (by decide)
   have cq:=G.mr (v' := .slice aE (L.length+1+m.length+vb.length) O) B bL (by decide) (by decide)
   have e:j4 v++[UInt8.ofNat (S.length / 256),UInt8.ofNat S.length]++jc ((pre++[(⟨((I,m),vb),bx⟩ : {x:E // x∈S})]).map Subtype.val)=L++[UInt8.ofNat I.toNat]++m++vb:=by
    rw [bA,List.map_singleton,Aa,Q.out];simp [jl]
   have kO:=((KeepsOthers.alloc W (.cells #[.int .u8 I] 5)).trans (U.others (v' := .slice Z (L.length+1) j) N)).trans ((F.others (v' := .slice ag (L.length+1+m.length) C) R).trans (G.others (v' := .slice aE (L.length+1+m.length+vb.length) O) B))
   have kE:=KA.trans ((U.AK (x:=V) (y:=q) (z:=r) (v' := .slice Z (L.length+1) j) N bc bz (by decide) (by decide) (by omega) (by omega)).trans ((F.AK (x:=V) (y:=q) (z:=r) (v' := .slice ag (L.length+1+m.length) C) R a2 bI (by decide) (by decide) (by omega) (by omega)).trans (G.AK (x:=V) (y:=q) (z:=r) (v' := .slice aE (L.length+1+m.length+vb.length) O) B a3 bL (by decide) (by decide) (by omega) (by omega))))
   have kB:=ce.trans ((U.lower (v' := .slice Z (L.length+1) j) N bc).trans ((F.lower (v' := .slice ag (L.length+1+m.length) C) R a2).trans (G.lower (v' := .slice aE (L.length+1+m.length+vb.length) O) B a3)))
   refine ⟨kO.from _,kE,⟨.slice aE (L.length+1+m.length+vb.length) O,?_⟩,cq,kB⟩
   rw [e]
   exact cp
  case done =>
   rintro D ys W hD rfl ⟨⟨d7,h0⟩,h1,h2⟩ hK
   have cB:=h0.box.cell
   have ds:=h2.size
   gi_wp2_with fail
   refine ⟨by simp,.inl ⟨_,_,rfl,run_takeDeferred hK,?_⟩⟩
   have hP:=h0.kept (grownBy_putObj' W D (.deferred none)) (fun r e=>by cases e;exact ⟨_,hK,rfl⟩)
   have e:j4 v++[UInt8.ofNat (S.length / 256),UInt8.ofNat S.length]++jc (S.attach.map Subtype.val)=ic v S:=by rw [dV];rfl
   rw [e] at hP
   exact ⟨_,results_tmp rfl _ _ _,d7,rfl,hP.own,h2.trans (belowK_b (w:=w) (af _) W D _ _ (by omega) hK rfl rfl)⟩
  case stop =>
   rintro D c pre W _ _ h _
   exact h.elim
end Go.Proofs.YtkkfmkhbdoeglaaGreatDoor
