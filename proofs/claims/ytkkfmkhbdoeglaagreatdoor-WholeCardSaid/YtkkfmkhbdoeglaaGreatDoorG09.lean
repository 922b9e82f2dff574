/- A part of what is proved here: lemmas and contracts of single functions. No condition but those that each names. -/
import Derived.Test.YtkkfmkhbdoeglaaGreatDoorG00
import Derived.BigQuiet
import Derived.BigRegion
import Derived.Deep.QuietTactic
import Derived.Deep.RegionHeld
import Derived.Deep.RegionHeld3
import Derived.Deep.RegionLaw
import Derived.Deep.RegionWith
import Derived.Laws.CopyOwn
import Derived.OrdersHeld
import Derived.RegionTactic
import Derived.Shelf.Abstract
import Derived.Shelf.SlSortCmp.NoneTotal
import Derived.StillTailTactics
import Derived.WalkKit
import Derived.WalkLawsBesides
import Derived.Test.YtkkfmkhbdoeglaaGreatDoorG02
import Derived.Test.YtkkfmkhbdoeglaaGreatDoorG05
import Derived.Test.YtkkfmkhbdoeglaaGreatDoorG07
import Derived.Test.YtkkfmkhbdoeglaaGreatDoorG08
set_option maxHeartbeats 4000000
set_option maxRecDepth 100000
namespace Go.Proofs.YtkkfmkhbdoeglaaGreatDoor
open Go.RowKit
theorem Fg:(Tryz.prog.info? 96).map (fun i=>(i.zero,i.size,i.bytes))=some (some (.agg #[.int .i64 0,.int .i64 0,.string ⟨#[]⟩,.string ⟨#[]⟩]),4,48):=by kernel_rfl
theorem Ay (os:List OpB):∀ u∈gd os,u.oneCell'=true:=by
 intro u hu
 unfold gd at hu
 rw [List.mem_flatMap] at hu
 obtain ⟨o,_,hu⟩:=hu
 simp only [aV,List.not_mem_nil,or_false] at hu
 rcases hu with rfl | rfl | rfl | rfl <;> rfl
theorem sy (w:World) (o:OpB):iu (w.alloc (.cells #[.int .i64 o.kind,.int .i64 o.table,.string ⟨o.key.toArray⟩,.string ⟨o.val.toArray⟩] 96)) (.slice (some ⟨w.heap.size,0,none⟩) 1 1) [o] :=
 (OwnS.new w #[.int .i64 o.kind,.int .i64 o.table,.string ⟨o.key.toArray⟩,.string ⟨o.val.toArray⟩] 96 0 0 0 4 1 1 (aL _) (by omega) (by decide) (by simp) (.inl (by omega))).sliceAt
theorem iu.src {w:World} {v:Value} {os:List OpB} (h:iu w v os):Src Tryz.prog 4 32 v os.length (gd os) w:=fR.src Tryz.underlying32 h (Ay os)
theorem zD {w w':World} {k n:Nat} {v v':Value} {news:List Value}
  (h3:(∃ g off cap,v = .slice (some ⟨g,off,none⟩) n cap∧v' = .slice (some ⟨g,off,none⟩) (n+k) cap∧w'=w.setCells g (off+n*4) news)∨v' = .slice none 0 0∨∃ cap,v' = .slice (some ⟨w.heap.size,0,none⟩) (n+k) cap∧Below w.heap.size w w') :
  ∀ b,b<w.heap.size→v.ownBlock≠some b→v'.ownBlock≠some b:=by
 intro b i d
 rcases h3 with ⟨g,off,cap,rfl,rfl,_⟩ | rfl | ⟨cap,rfl,_⟩
 ·exact d
 ·simp [Value.ownBlock]
 ·simp [Value.ownBlock];omega
theorem uy {ops:Array Oper} {o:Oper} {a:Act} {K:Act→World→Prop} {Q:Exit→Act→World→Prop} {E:Prop} {w:World} (l:o.guard=none) (s x:Operand)
  (r:o.op = .call {callee := .builtin .append,args:=#[s,x],argTypes:=#[32,32]})
  (base:Nat) (v:Value) (os:List OpB) (u:a.eval s=v) (i:OwnS w base 4 v os.length (gd os)) (us:List OpB) (hs:iu w (a.eval x) us)
  (hlen:os.length+us.length≤2932031007402) (d:base≤w.heap.size)
  (h:∀ v' w',OwnS w' base 4 v' (os++us).length (gd (os++us))→w.grownBy w' v.ownBlock→Below base w w'→(∀ b,b<w.heap.size→v.ownBlock≠some b→v'.ownBlock≠some b)→
   K (a.put o.dst v') w'):if Region.wanted o (yielded ops a.tmps)=true then Oper.wp Tryz.prog o a w K Q else E:=by
 have hw:Region.wanted o (yielded ops a.tmps)=true:=by simp [Region.wanted,l]
 rw [aF hw]
 obtain ⟨i0,y,m,j,q⟩:=dP Fg
 have hmx:maxLen=9223372036854775807:=rfl
 refine og s x _ _ r base 4 96 i0 _ Tryz.underlying32 y m j (by rw [j];rfl) (by omega) v os.length (gd os) u i us.length (gd us) hs.src (by omega) (by rw [q];omega) d (fun v' w' h1 h2 h3 => ?_)
 rw [←nB,←ar] at h1
 exact h v' w' h1 h2 (iv i h2 d) (zD h3)
theorem jC {ops:Array Oper} {rest:List Oper} {o:Oper} {a:Act} {Q:Exit→Act→World→Prop} {w:World} (l:o.guard=none) (s x:Operand)
  (r:o.op = .call {callee := .builtin .append,args:=#[s,x],argTypes:=#[32,32]})
  (base:Nat) (v:Value) (os:List OpB) (u:a.eval s=v) (i:OwnS w base 4 v os.length (gd os)) (us:List OpB) (hs:iu w (a.eval x) us)
  (hlen:os.length+us.length≤2932031007402) (d:base≤w.heap.size)
  (h:∀ v' w',OwnS w' base 4 v' (os++us).length (gd (os++us))→w.grownBy w' v.ownBlock→Below base w w'→(∀ b,b<w.heap.size→v.ownBlock≠some b→v'.ownBlock≠some b)→
   wpList Tryz.prog ops Q rest (a.put o.dst v') w'):wpList Tryz.prog ops Q (o::rest) a w:=by
 obtain ⟨i0,y,m,j,q⟩:=dP Fg
 have hmx:maxLen=9223372036854775807:=rfl
 refine ka l s x _ _ r base 4 96 i0 _ Tryz.underlying32 y m j (by rw [j];rfl) (by omega) v os.length (gd os) u i us.length (gd us) hs.src (by omega) (by rw [q];omega) d (fun v' w' h1 h2 h3 => ?_)
 rw [←nB,←ar] at h1
 exact h v' w' h1 h2 (iv i h2 d) (zD h3)
theorem OwnS.shape {w:World} {base k:Nat} {v:Value} {n:Nat} {xs:List Value} (h:OwnS w base k v n xs):∃ a cap,v = .slice a n cap:=by
 obtain ⟨_,⟨rfl,rfl⟩ | ⟨g,off,cap,rfl,_⟩⟩:=h
 ·exact ⟨none,0,rfl⟩
 ·exact ⟨_,cap,rfl⟩
theorem OwnS.ops {w:World} {base:Nat} {v:Value} {os:List OpB} (h:OwnS w base 4 v os.length (gd os)):iu w v os:=h.sliceAt
end Go.Proofs.YtkkfmkhbdoeglaaGreatDoor
namespace Go.Proofs.YtkkfmkhbdoeglaaGreatDoor
section
variable {P:Program} {Q:Exit→Act→World→Prop} {md:Region.Mode}
def Fp (P:Program) (o:Oper) (Q:Exit→Act→World→Prop):Exit→Act→World→Prop
 | .normal,a,w=>o.wp P a w (Q .normal) Q
 | e,a,w=>Q e a w
def Dd (md:Region.Mode) (ops:Array Oper) (n:Nat):Bool :=
 decide (ops.size=n+1)&&(List.range (n+1)).all fun i =>
  ((ops[i]?).map fun o=>o.guard.isNone&&(match o.op with | .select _ _=>false | _=>true)&&(o.after.all fun e => !Region.binds md e || decide (e.on<i)) &&
    (decide (i=n) || (List.range (n+1)).any fun k=>decide (i<k)&&((ops[k]?).map fun b=>b.after.any fun e=>Region.binds md e&&(e.on==i)).getD false)).getD false
theorem De {ops:Array Oper} {n:Nat} (h:Dd md ops n=true):ops.size=n+1∧∀ i,i≤n→∃ o,ops[i]?=some o∧o.guard=none∧(∀ e∈o.after,Region.binds md e=true→e.on<i)∧(i=n∨∃ k d,i<k∧k≤n∧ops[k]?=some d∧∃ e∈d.after,Region.binds md e=true∧e.on=i):=by
 unfold Dd at h
 rw [dN,dj,eX] at h
 refine ⟨h.1,fun i q => ?_⟩
 have h2:=h.2 i (cV.2 (by omega))
 cases j:ops[i]? with
 | none=>rw [j] at h2;cases h2
 | some o =>
  rw [j] at h2
  simp only [dX,bT,dN,dJ,dj,Array.all_eq_true',List.any_eq_true,cV,Option.isNone_iff_eq_none,eL] at h2
  obtain ⟨⟨⟨h3,-⟩,h4⟩,h5⟩:=h2
  refine ⟨o,rfl,h3,fun e he m => ?_,?_⟩
  ·rcases h4 e he with h | h
   ·rw [m] at h;cases h
   ·exact h
  ·rcases h5 with h | ⟨k,hk,l,h6⟩
   ·exact .inl h
   ·right
    cases b:ops[k]? with
    | none=>rw [b] at h6;cases h6
    | some d =>
     rw [b] at h6
     simp only [dX,bT,Array.any_eq_true',dN,bj] at h6
     exact ⟨k,d,l,by omega,b,h6⟩
theorem jj {ops:Array Oper} {listed:Array Bool} {i:Nat} : i∈Region.ready md ops listed↔i<ops.size∧listed.getD i true=false∧∃ o,ops[i]?=some o∧∀ e∈o.after,Region.binds md e=true→listed.getD e.on false=true:=by
 unfold Region.ready
 rw [cm,cV,dN,eL]
 refine and_congr_right fun _=>and_congr_right fun _ => ?_
 cases b:ops[i]? with
 | none=>simp
 | some o =>
  simp only [dX,bT,Array.all_eq_true',dJ,eL,eN,exists_eq_left']
  refine forall_congr' fun e=>forall_congr' fun _ => ?_
  cases Region.binds md e <;> simp
def zq (md:Region.Mode) (ops:Array Oper) (listed:Array Bool):Prop:=∀ i o,ops[i]?=some o→listed.getD i false=true→∀ e∈o.after,Region.binds md e=true→listed.getD e.on false=true
theorem getD_set_true {listed:Array Bool} {i k:Nat} (h:listed.getD k false=true):(listed.setIfInBounds i true).getD k false=true:=by
 rw [aR] at h⊢
 by_cases e:i=k
 ·subst e
  rw [cW]
  split
  ·rfl
  ·rename_i b
   rw [fA (by omega)] at h
   cases h
 ·rw [cc e]
  exact h
theorem zq.set {ops:Array Oper} {listed:Array Bool} (h:zq md ops listed) {i:Nat} (q:i∈Region.ready md ops listed):zq md ops (listed.setIfInBounds i true):=by
 obtain ⟨h1,h2,o,r,h3⟩:=jj.1 q
 intro j s b d e he l
 by_cases m:i=j
 ·subst m
  rw [r] at b
  cases b
  exact getD_set_true (h3 e he l)
 ·refine getD_set_true (h j s b ?_ e he l)
  rw [aR,cc m] at d
  rw [aR]
  exact d
theorem Oper.Be {o last:Oper} {a:Act} {w:World} {K:Act→World→Prop} (h:Oper.wp P o a w K (Fp P last Q)):Oper.wp P o a w K Q:=by
 unfold Oper.wp at *
 generalize (execOp a.eval o).run P w=r at *
 cases r with
 | ok n w' =>
  cases n <;> simp only [Oper.upon] at h⊢<;> first | exact h | exact Calls.mono h (fun e b he=>by cases e <;> exact he)
 | halt x w'=>cases x <;> simp only [Oper.upon] at h⊢<;> exact h
theorem C3 {ops:Array Oper} {n:Nat} {last:Oper} (hF:Dd md ops n=true) (hl:ops[n]?=some last):∀ (f:Nat) (listed:Array Bool) (a:Act) (w:World),listed.size=n→zq md ops (listed.push false)→
  wpAny P md (ops.extract 0 n) (Fp P last Q) f listed a w→wpAny P md ops Q (f+1) (listed.push false) a w:=by
 obtain ⟨am,u⟩:=De hF
 have B:∀ i,i<n→(ops.extract 0 n)[i]?=ops[i]?:=fun i b=>by
  rw [Array.getElem?_extract_of_lt (by omega)]
  simp
 have O:(ops.extract 0 n).size=n:=by simp;omega
 have E:∀ (listed:Array Bool),listed.size=n→∀ k d,k<n→(listed.push false).getD k d=listed.getD k d:=fun listed hs k d hk=>by
  rw [aR,aR,eH (by omega),cz (by omega)]
 have gn:∀ (listed:Array Bool),listed.size=n→∀ d,(listed.push false).getD n d=false:=fun listed hs d=>by
  rw [aR,←hs,fh]
  rfl
 have J:∀ (listed:Array Bool),listed.size=n→∀ i,i<n→(i∈Region.ready md ops (listed.push false)↔i∈Region.ready md (ops.extract 0 n) listed):=fun listed hs i b=>by
  rw [jj,jj,O,am,B i b,E listed hs i true b]
  obtain ⟨o,l,-,s,-⟩:=u i (by omega)
  rw [l]
  constructor
  ·rintro ⟨-,h2,Y,e,h3⟩
   cases e
   exact ⟨b,h2,o,rfl,fun e he q=>by have:=h3 e he q;rwa [E listed hs _ _ (by have:=s e he q;omega)] at this⟩
  ·rintro ⟨-,h2,Y,e,h3⟩
   cases e
   exact ⟨by omega,h2,o,rfl,fun e he q=>by rw [E listed hs _ _ (by have:=s e he q;omega)];exact h3 e he q⟩
 have Z:∀ (listed:Array Bool),listed.size=n→zq md ops (listed.push false)→n∈Region.ready md ops (listed.push false)→∀ i,i<n→listed.getD i false=true:=fun listed hs hd C=>by
  obtain ⟨-,-,o,l,aa⟩:=jj.1 C
  have key:∀ m i,i<n→n-i≤m→(listed.push false).getD i false=true:=by
   intro m
   induction m with
   | zero=>intro i b hm;omega
   | succ m ih =>
    intro i b hm
    obtain ⟨-,-,-,-,hk⟩:=u i (by omega)
    rcases hk with rfl | ⟨k,Y,a5,a6,R,e,he,q,rfl⟩
    ·omega
    ·by_cases ab:k=n
     ·subst ab
      rw [l] at R
      cases R
      exact aa e he q
     ·exact hd k Y R (ih k (by omega) (by omega)) e he q
  intro i b
  have:=key n i b (by omega)
  rwa [E listed hs i _ b] at this
 have M:∀ (listed:Array Bool),listed.size=n→Region.ready md (ops.extract 0 n) listed=[]→∀ i,i<n→listed.getD i false=true:=fun listed hs D=>by
  intro i
  induction i using Nat.strongRecOn with
  | _ i ih =>
   intro b
   cases F:listed.getD i false with
   | true=>rfl
   | false =>
    have:i∈Region.ready md (ops.extract 0 n) listed:=by
     obtain ⟨o,l,-,s,-⟩:=u i (by omega)
     refine jj.2 ⟨by omega,?_,o,(B i b).trans l,fun e he q=>ih e.on (s e he q) (by have:=s e he q;omega)⟩
     rw [aR,cz (by omega)] at F⊢
     exact F
    rw [D] at this
    cases this
 intro f
 induction f with
 | zero =>
  rintro listed a w hs hd ⟨D,hq⟩
  have G:=M listed hs D
  have C:n∈Region.ready md ops (listed.push false):=by
   obtain ⟨o,l,-,s,-⟩:=u n (ah _)
   exact jj.2 ⟨by omega,gn listed hs true,o,l,fun e he q=>by have:=s e he q;rw [E listed hs _ _ this];exact G _ this⟩
  refine ⟨(fun h=>by rw [h] at C;cases C),fun i b => ?_⟩
  have x:i=n:=by
   have h1:=(jj.1 b).1
   refine et fun av => ?_
   have:=(J listed hs i (by omega)).1 b
   rw [D] at this
   cases this
  subst x
  unfold wpOp
  simp only [hl]
  obtain ⟨o,l,F,-⟩:=u i (ah _)
  rw [hl] at l
  cases l
  rw [aF (by simp [Region.wanted,F])]
  refine .inl (Oper.wp_mono (fun a' w' hQ=>⟨?_,hQ⟩) hq)
  refine List.eq_nil_iff_forall_not_mem.2 fun j N => ?_
  obtain ⟨j1,r,-⟩:=jj.1 N
  by_cases I:j=i
  ·subst I
   rw [aR,cW,aF (by simp;omega)] at r
   cases r
  ·rw [aR,cc (dx I),←aR,E listed hs j _ (by omega)] at r
   have:=G j (by omega)
   rw [aR,cz (by omega)] at this r
   simp only [bT] at this r
   rw [this] at r
   cases r
 | succ f ih =>
  rintro listed a w hs hd ⟨hq,hA⟩
  by_cases D:Region.ready md (ops.extract 0 n) listed=[]
  ·
   have G:=M listed hs D
   have C:n∈Region.ready md ops (listed.push false):=by
    obtain ⟨o,l,-,s,-⟩:=u n (ah _)
    exact jj.2 ⟨by omega,gn listed hs true,o,l,fun e he q=>by have:=s e he q;rw [E listed hs _ _ this];exact G _ this⟩
   refine ⟨(fun h=>by rw [h] at C;cases C),fun i b => ?_⟩
   have x:i=n:=by
    have h1:=(jj.1 b).1
    refine et fun av => ?_
    have:=(J listed hs i (by omega)).1 b
    rw [D] at this
    cases this
   subst x
   unfold wpOp
   simp only [hl]
   obtain ⟨o,l,F,-⟩:=u i (ah _)
   rw [hl] at l
   cases l
   rw [aF (by simp [Region.wanted,F])]
   refine .inl (Oper.wp_mono (fun a' w' hQ => ?_) (hq D))
   have aE:Region.ready md ops ((listed.push false).setIfInBounds i true)=[]:=by
    refine List.eq_nil_iff_forall_not_mem.2 fun j N => ?_
    obtain ⟨j1,r,-⟩:=jj.1 N
    by_cases I:j=i
    ·subst I
     rw [aR,cW,aF (by simp;omega)] at r
     cases r
    ·rw [aR,cc (dx I),←aR,E listed hs j _ (by omega)] at r
     have:=G j (by omega)
     rw [aR,cz (by omega)] at this r
     simp only [bT] at this r
     rw [this] at r
     cases r
   refine ⟨fun _=>hQ,(fun j N=>by rw [aE] at N;cases N)⟩
  ·obtain ⟨j0,W⟩:=List.exists_mem_of_ne_nil _ D
   have S:=jj.1 W
   have X:j0<n:=by rw [O] at S;exact S.1
   have a0:n∉Region.ready md ops (listed.push false):=fun C=>by
    have h1:=Z listed hs hd C j0 X
    have h2:=S.2.1
    rw [aR,cz (by omega)] at h1 h2
    simp only [bT] at h1 h2
    rw [h1] at h2
    cases h2
   refine ⟨fun h => ?_,fun i b => ?_⟩
   ·have:=(J listed hs j0 X).2 W
    rw [h] at this
    cases this
   ·have x:i<n:=by
     have h1:=(jj.1 b).1
     have:i≠n:=fun e=>a0 (e▸b)
     omega
    have y:=hA i ((J listed hs i x).1 b)
    obtain ⟨o,l,F,-⟩:=u i (by omega)
    have U:(listed.push false).setIfInBounds i true=(listed.setIfInBounds i true).push false:=by
     refine Array.ext_getElem? fun k => ?_
     by_cases e:i=k
     ·subst e
      rw [cW,aF (by simp;omega),eH (by simp;omega),←cz,cW,aF (by omega)]
     ·rw [cc e]
      by_cases hk:k<n
      ·rw [eH (by omega),eH (by simp;omega),←cz,←cz,cc e]
      ·by_cases a1:k=n
       ·subst a1
        rw [←hs,fh,show listed.size=(listed.setIfInBounds i true).size by simp,fh]
       ·rw [fA (by simp;omega),fA (by simp;omega)]
    unfold wpOp at y⊢
    rw [B i x,l] at y
    simp only [l]
    have hw:∀ V,Region.wanted o (yielded V a.tmps)=true:=fun V=>by simp [Region.wanted,F]
    simp only [hw,dL] at y⊢
    rcases y with y | ⟨h1,h2⟩
    ·refine .inl (Oper.wp_mono (fun a' w' h' => ?_) (Oper.Be y))
     rw [U]
     exact ih (listed.setIfInBounds i true) a' w' (by simpa using hs) (by rw [←U];exact hd.set b) h'
    ·exact .inr ⟨h1,h2⟩
theorem qm (n:Nat):(Array.replicate n false).push false=Array.replicate (n+1) false:=by
 rw [bd]
theorem iz {id n:Nat} {ops:Array Oper} {last:Oper} {S:World→Prop} {a:Act} {w:World} (hm:P.follows .mixedOrders=true) (hF:Dd .any ops n=true) (hl:ops[n]?=some last) (j:S w.drew)
  (h:S w.drew→wpAnyH P .any (ops.extract 0 n) (Fp P last Q) S n (Array.replicate n false) a w.drew):(Code.region id ops true).wp P Q a w:=by
 refine wp_region_any hm ?_
 rw [(De hF).1,←qm]
 refine C3 hF hl n _ a _ (by simp) ?_ (wpAny_of_held _ _ _ _ (h j))
 intro i o l b
 rw [qm,aR] at b
 by_cases d:i<n+1
 ·rw [Array.getElem?_replicate,aF d] at b
  cases b
 ·rw [Array.getElem?_replicate,aw d] at b
  cases b
end
end Go.Proofs.YtkkfmkhbdoeglaaGreatDoor
namespace Go.Proofs.YtkkfmkhbdoeglaaGreatDoor
open Go.RowKit Go.Shelf
theorem vh (t:Int):((lR t).toNat:Int)=IntKind.u8.wrap t:=by
 have h:IntKind.u8.wrap t=t%256:=rfl
 rw [h]
 unfold lR
 simp
 omega
theorem po {P:Program} (p q:List UInt8) (hl:p.length+q.length≤9223372036854775807) (w:World):(Op.stringOp .add ⟨p.toArray⟩ ⟨q.toArray⟩).run P w = .ok (.string ⟨(p++q).toArray⟩) w:=by
 rw [run_string_add_sum w _ _ (by simp [ByteArray.size];omega),ByteArray.mk_append_mk]
theorem CellsOf.ne {w:World} {v:Value} {e T:TypeId} {b:Nat} {C:Array Value} {fz:Nat×Nat} (h:CellsOf w v e) (i:w.heap[b]?=some (.cells C T fz)) (j:T≠e):v.ownBlock≠some b:=fun he=>by
 obtain ⟨m,l,d⟩:=h b he
 rw [i] at d
 cases d
 exact j rfl
theorem CellsOf.qe {w:World} {v:Value} {e:TypeId} {r:Nat} {S:List E} (h:CellsOf w v e) (d:TabAt w r S):v.ownBlock≠some r:=fun he=>by
 obtain ⟨j,i,b⟩:=h r he
 obtain ⟨-,L,⟨es,cl,hm,-⟩,-⟩:=d
 rw [hm] at b
 cases b
theorem TabAt.jQ {w:World} {r:Nat} {S:List E} {b:Nat} {C:Array Value} {T:TypeId} {fz:Nat×Nat} (i:TabAt w r S) (d:w.heap[b]?=some (.cells C T fz)):b≠r:=fun he=>by
 obtain ⟨-,L,⟨es,cl,hm,-⟩,-⟩:=i
 rw [he,hm] at d
 cases d
theorem CellsOf.frame {w w':World} {v:Value} {e:TypeId} (h:CellsOf w v e) (j:∀ b,v.ownBlock=some b→b<w.heap.size→w'.heap[b]?=w.heap[b]?):CellsOf w' v e:=fun b d=>by
 obtain ⟨C,fz,i⟩:=h b d
 exact ⟨C,fz,(j b d (fI i)).trans i⟩
theorem GN:(Tryz.prog.info? 9).map (fun i=>(i.zero,i.size,i.bytes))=some (some (.string ⟨#[]⟩),1,16):=by kernel_rfl
theorem tj (w:World) (s:List UInt8):fR (w.alloc (.cells #[.string ⟨s.toArray⟩] 9)) (.slice (some ⟨w.heap.size,0,none⟩) 1 1) 1 1 (strsV [s]):=by
 refine ⟨rfl,_,1,rfl,ah _,fun i b=>⟨_,0,rfl,?_⟩⟩
 obtain rfl:i=0:=by simp [strsV] at b;omega
 rw [lS]
 rfl
theorem EC (l:List (List UInt8)):∀ u∈strsV l,u.oneCell'=true:=by
 intro u hu
 obtain ⟨s,-,rfl⟩:=aB.1 hu
 rfl
theorem qU {P:Program} (w:World) (base:Nat) (t o ty e:TypeId) (i:TypeInfo) (z:Value) (y:P.underlying t=some (.slice e)) (B:P.info? e=some i) (C:i.zero=some z) (q:z.cells.size=i.size) (r:0<i.size)
  (v:Value) (n:Nat) (xs:List Value) (l:OwnS w base i.size v n xs) (G:CellsOf w v e) (x:Value) (m:Nat) (news:List Value) (hs:Src P i.size o x m news w)
  (s:n+m≤maxLen) (d:(n+m)*i.bytes≤140737488355328) (j:base≤w.heap.size) :
  ∃ v' w',(Builtin.append_ #[t,o] ty #[v,x]).run P w = .ok v' w'∧OwnS w' base i.size v' (n+m) (xs++news)∧w.grownBy w' v.ownBlock∧CellsOf w' v' e∧∀ b,v'.ownBlock=some b→v.ownBlock=some b∨b=w.heap.size:=by
 obtain ⟨v',w',D,h1,h2,h3⟩:=jE (P:=P) w base t o ty e i z y B C q r v n xs l G x m news hs s d j
 obtain ⟨M,N,E,-,-,F⟩:=jT (P:=P) w base t o ty e i z y B C q r v n xs l x m news hs s d j
 have hw:=E.symm.trans D
 injection hw with I J
 subst I J
 refine ⟨_,_,D,h1,h2,h3,fun b u => ?_⟩
 rcases F with ⟨g,off,cap,rfl,rfl,-⟩ | rfl | ⟨cap,rfl,-⟩
 ·exact .inl u
 ·simp [Value.ownBlock] at u
 ·right
  simpa [Value.ownBlock] using u.symm
theorem lE {P:Program} {o:Oper} {a:Act} {K:Act→World→Prop} {Q:Exit→Act→World→Prop} {w:World} (s x:Operand) (t l:TypeId)
  (B:o.op = .call {callee := .builtin .append,args:=#[s,x],argTypes:=#[t,l]})
  (base k:Nat) (e:TypeId) (i:TypeInfo) (z:Value) (C:P.underlying t=some (.slice e)) (D:P.info? e=some i) (E:i.zero=some z) (hk:i.size=k) (r:z.cells.size=i.size) (u:0<i.size)
  (v:Value) (n:Nat) (xs:List Value) (F:a.eval s=v) (q:OwnS w base k v n xs) (G:CellsOf w v e) (m:Nat) (news:List Value) (hs:Src P k l (a.eval x) m news w)
  (y:n+m≤maxLen) (d:(n+m)*i.bytes≤140737488355328) (j:base≤w.heap.size)
  (h:∀ v' w',OwnS w' base k v' (n+m) (xs++news)→w.grownBy w' v.ownBlock→CellsOf w' v' e→(∀ b,v'.ownBlock=some b→v.ownBlock=some b∨b=w.heap.size)→K (a.put o.dst v') w'):o.wp P a w K Q:=by
 subst hk
 obtain ⟨v',w',I,h1,h2,h3,h4⟩:=qU (P:=P) w base t l o.type e i z C D E r u v n xs q G (a.eval x) m news hs y d j
 unfold Oper.wp execOp
 simp only [B,resolve,invoke,builtin,bY,fG,bQ,eF,bq,du,F,I]
 exact h v' w' h1 h2 h3 h4
theorem mh {ops:Array Oper} {o:Oper} {a:Act} {K:Act→World→Prop} {Q:Exit→Act→World→Prop} {E:Prop} {w:World} (q:o.guard=none) (s x:Operand)
  (y:o.op = .call {callee := .builtin .append,args:=#[s,x],argTypes:=#[64,64]})
  (base:Nat) (v:Value) (n:Nat) (l:List (List UInt8)) (F:n=l.length) (B:a.eval s=v) (j:OwnS w base 1 v n (strsV l)) (C:CellsOf w v 9) (m:List (List UInt8)) (hs:fR w (a.eval x) 1 m.length (strsV m))
  (hlen:n+m.length≤8796093022208) (d:base≤w.heap.size)
  (h:∀ v' w',OwnS w' base 1 v' (n+m.length) (strsV (l++m))→w.grownBy w' v.ownBlock→CellsOf w' v' 9→(∀ b,v'.ownBlock=some b→v.ownBlock=some b∨b=w.heap.size)→
   K (a.put o.dst v') w'):if Region.wanted o (yielded ops a.tmps)=true then Oper.wp Tryz.prog o a w K Q else E:=by
 have hw:Region.wanted o (yielded ops a.tmps)=true:=by simp [Region.wanted,q]
 rw [aF hw]
 obtain ⟨i0,D,r,i,u⟩:=dP GN
 have hmx:maxLen=9223372036854775807:=rfl
 refine lE s x _ _ y base 1 9 i0 (.string ⟨#[]⟩) Tryz.underlying64 D r i (by rw [i];rfl) (by omega) v n (strsV l) B j C m.length (strsV m) (fR.src Tryz.underlying64 hs (EC m)) (by omega) (by rw [u];omega) d (fun v' w' h1 h2 h3 h4 => ?_)
 rw [←pq] at h1
 exact h v' w' h1 h2 h3 h4
def Bn (base h:Nat) (x:HV) (d':DpS) (w:World) (e:Ending) (w':World):Prop:=e = .returned (.tuple #[])∧∃ lv,DpAt w' base h {x with left:=d'.left,dead:=d'.dead,log:=lv} d'∧Ext (fun i=>i=h∨i=x.r∨x.log.ownBlock=some i) w w'∧∀ i,lv.ownBlock=some i→x.log.ownBlock=some i∨w.heap.size≤i
theorem BG (base h:Nat) (x:HV) (d:DpS) (t:Int) (m:List UInt8) (w:World) (hd:DpAt w base h x d) (C:base≤w.heap.size) (bv:d.log.length≤8000000000000) (hk:m.length≤gx) :
  Calls Tryz.prog 204 #[.agg #[.pointer (some ⟨h,0,none⟩)],.agg #[.int .i64 t,.string ⟨m.toArray⟩]] w (Bn base h x (d.drop (t,m)) w):=by
 have a6:Below w.heap.size w ((w.alloc (.cells #[.pointer (some ⟨h,0,none⟩)] 189)).alloc (.cells #[.int .i64 t,.string ⟨m.toArray⟩] 94)):=((Below.refl _ w).alloc (ah _) _).alloc (by simp) _
 have R0:=fQ _ (.cells #[.int .i64 t,.string ⟨m.toArray⟩] 94) (fL w (.cells #[.pointer (some ⟨h,0,none⟩)] 189))
 have R1:=fL (w.alloc (.cells #[.pointer (some ⟨h,0,none⟩)] 189)) (.cells #[.int .i64 t,.string ⟨m.toArray⟩] 94)
 rw [ax] at R1
 have rc:=af _ _ 0 _ _ _ R0
 obtain ⟨s,av,aE,a0,E,a7,D,bw,bx⟩:=hd
 have a9:=fI s
 have H0:=s.fW (a6.block h a9)
 have HW:=ae a6
 have HK:=ae (vh t)
 have lo : -1≤x.left:=by omega
 have hi:x.left≤9223372036854775807:=by omega
 have cu:=ae (nX h x _ H0 lo hi)
 have ba:=ae (D.ne s (by decide))
 have bb:=ae (E.jQ s)
 have cv:=ae (D.qe E)
 have b7:Hid (x.r<w.heap.size):=ae E.lt
 have bz:=ae bw
 have cB:=ae bx
 have HL:=ae av
 have HD:=ae aE
 have bD:=ae a0
 have HT:=ae E
 have HO:=ae a7
 have c0:=ae D
 have c1:=ae R0
 have c2:=ae R1
 have HB:=ae C
 have c3:=ae bv
 have d5:=ae s
 clear bw bx av aE a0 E a7 D R0 R1 a6 H0 lo hi C bv s
 go_enter Tryz.func204,Tryz.ntmps204
 go_wp2_with fail
 refine cu.out.mono ?_
 rintro e w2 ⟨rfl,bH,bc,a1⟩
 have bi:w.heap.size≠h:=by omega
 have bk:w.heap.size+1≠h:=by omega
 have R:=ae (a1.at bi c1.out)
 have F:=ae (a1.at bk c2.out)
 have aa:=ae bH
 have c4:=ae a1
 have bI:Hid (w2.heap.size=w.heap.size+2):=ae (by rw [bc];simp)
 clear bH a1 bc rc bi bk
 have rc:=af _ _ 0 _ _ _ R.out
 have ab:Hid (Ext (fun i=>i=h) w w2):=ae ((Ext.fM HW.out).trans c4.out)
 have bL:Hid (Ext (fun i=>i=h∨i=x.r∨x.log.ownBlock=some i) w w2):=ae (ab.out.mono fun i e => .inl e)
 have bM:Hid (OwnS w2 base 1 x.log d.log.length (strsV d.log)):=ae (HO.out.frame ab.out.size fun b e C=>ab.out.block b C fun U=>ba.out (by rw [e,U]))
 have V:Hid (CellsOf w2 x.log 9):=ae (c0.out.frame fun b e C=>ab.out.block b C fun U=>ba.out (by rw [e,U]))
 have ag:Hid (TabAt w2 x.r d.S):=ae (HT.out.fW (ab.out.block _ b7.out (dx bb.out)))
 have B:Hid (x.stop.dead=d.stop.dead∧x.stop.left=d.stop.left):=ae (by unfold HV.stop DpS.stop;rw [HL.out,HD.out];exact ⟨rfl,rfl⟩)
 have bl:Hid (-1≤d.stop.left∧d.stop.left≤9223372036854775807):=ae (by have:=cB.out;unfold DpS.stop;simp only;split <;> omega)
 cases hdd:x.stop.dead with
 | true =>
  go_wp2
  refine aK (eh rfl _ _ _) rfl ?_
  have e:d.drop (t,m)=d.stop:=by unfold DpS.drop;rw [←B.out.1,hdd];rfl
  refine ⟨rfl,x.log,?_,bL.out,fun i e => .inl e⟩
  rw [e,←B.out.1,←B.out.2]
  exact ⟨aa.out,B.out.2,B.out.1,bD.out,ag.out,bM.out,V.out,bz.out,bl.out⟩
 | false =>
  unfold HostIs HV.cells at *
  have en:=af _ _ 11 _ _ _ aa.out
  have f9:=ao _ _ 11 _ _ aa.out
  have G:=af _ _ 0 _ _ _ F.out
  have I:=af _ _ 1 _ _ _ F.out
  have eg:=fI aa.out
  have ej:=fI F.out
  have d6:=fI R.out
  have c5:Hid (BytesAt (w2.alloc (.cells #[.int .u8 (IntKind.u8.wrap t)] 5)) (.slice (some ⟨w2.heap.size,0,none⟩) 1 1) [lR t]):=ae (by rw [←HK.out];exact pc w2 (lR t))
  go_wp2
  have hcv:=BytesAt.convert (w:=(w2.alloc (.cells #[.int .u8 (IntKind.u8.wrap t)] 5)).drew) (by exact c5.out)
  have c6:=fun W=>po (P:=Tryz.prog) [100,114,111,112,32] [lR t] (by simp) W
  have c7:=fun W=>po (P:=Tryz.prog) [100,114,111,112,32,lR t] m (by unfold gx at hk;simp;omega) W
  have bN:=fun o o'=>ae (Below.drew (Below.al (Below.al (Below.rf w2) o) o'))
  have bO:=ae (tj (w2.alloc (.cells #[.int .u8 (IntKind.u8.wrap t)] 5)) (100::114::111::112::32::lR t::m))
  rw [ax] at bO
  rw [bR] at rc G I
  simp only [bE,aY] at rc G I
  simp only [bR,bE,aY] at en
  have a2:=fun o=>ae (show _∧_∧_∧_ from ⟨gr o rc,gr o G,gr o I,gr o en⟩)
  have a3:=fun o o'=>ae (show _∧_∧_∧_ from ⟨gr o' (gr o rc),gr o' (gr o G),gr o' (gr o I),gr o' (gr o en)⟩)
  refine iz (n:=20) (S:=fun w'=>w'.cell? ⟨w.heap.size,0,none⟩=some (.pointer (some ⟨h,0,none⟩))∧w'.cell? ⟨w.heap.size+1,0,none⟩=some (.int .i64 t)∧w'.cell? ⟨w.heap.size+1,1,none⟩=some (.string ⟨m.toArray⟩)∧w'.cell? ⟨h,11,none⟩=some x.stop.log) (by kernel_rfl) (by kernel_rfl) rfl (by first | exact ⟨rc,G,I,en⟩ | exact (a2 _).out | exact (a3 _ _).out) ?_
  intro b8
  simp only [cK,cg,cA,cL,bA,ch,bd,bu,bV,aQ,aX]
  refine wpAnyH_take (i:=0) (v := ?_) rfl (by kernel_rfl) (by kernel_rfl) (by kernel_rfl) (fun _ _ _ h=>h) (Or.inl ⟨by rfl,?_⟩) (by assumption) ?_
  rotate_left 1
  ·(intro w l;(try dsimp only at l);go_simp;(try with_reducible rfl))
  try simp only [Act.put,ai,aj]
  refine wpAnyH_take (i:=1) (v := ?_) rfl (by kernel_rfl) (by kernel_rfl) (by kernel_rfl) (fun _ _ _ h=>h) (Or.inl ⟨by rfl,?_⟩) (by assumption) ?_
  rotate_left 1
  ·(intro w l;(try dsimp only at l);go_simp;(try with_reducible rfl))
  try simp only [Act.put,ai,aj,aq]
  refine wpAnyH_take (i:=2) (v := ?_) rfl (by kernel_rfl) (by kernel_rfl) (by kernel_rfl) (fun _ _ _ h=>h) (Or.inl ⟨by rfl,?_⟩) (by assumption) ?_
  rotate_left 1
  ·(intro w l;(try dsimp only at l);go_simp;(try with_reducible rfl))
  try simp only [Act.put,ai,aj,aq]
  refine wpAnyH_take (i:=3) (v := ?_) rfl (by kernel_rfl) (by kernel_rfl) (by kernel_rfl) (fun _ _ _ h=>h) (Or.inl ⟨by rfl,?_⟩) (by assumption) ?_
  rotate_left 1
  ·(intro w l;(try dsimp only at l);go_simp;(try with_reducible rfl))
  try simp only [Act.put,ai,aj,aq]
  refine wpAnyH_take (i:=4) (v := ?_) rfl (by kernel_rfl) (by kernel_rfl) (by kernel_rfl) (fun _ _ _ h=>h) (Or.inl ⟨by rfl,?_⟩) (by assumption) ?_
  rotate_left 1
  ·(intro w l;(try dsimp only at l);go_simp;(try with_reducible rfl))
  try simp only [Act.put,ai,aj,aq]
  refine wpAnyH_take (i:=5) (v := ?_) rfl (by kernel_rfl) (by kernel_rfl) (by kernel_rfl) (fun _ _ _ h=>h) (Or.inl ⟨by rfl,?_⟩) (by assumption) ?_
  rotate_left 1
  ·(intro w l;(try dsimp only at l);go_simp;(try with_reducible rfl))
  try simp only [Act.put,ai,aj,aq]
  refine wpAnyH_take (i:=6) (v := ?_) rfl (by kernel_rfl) (by kernel_rfl) (by kernel_rfl) (fun _ _ _ h=>h) (Or.inl ⟨by rfl,?_⟩) (by assumption) ?_
  rotate_left 1
  ·(intro w l;(try dsimp only at l);go_simp;(try with_reducible rfl))
  try simp only [Act.put,ai,aj,aq]
  refine wpAnyH_take (i:=7) (v := ?_) rfl (by kernel_rfl) (by kernel_rfl) (by kernel_rfl) (fun _ _ _ h=>h) (Or.inl ⟨by rfl,?_⟩) (by assumption) ?_
  rotate_left 1
  ·(intro w l;(try dsimp only at l);go_simp;(try with_reducible rfl))
  try simp only [Act.put,ai,aj,aq]
  refine wpAnyH_take (i:=8) (v := ?_) rfl (by kernel_rfl) (by kernel_rfl) (by kernel_rfl) (fun _ _ _ h=>h) (Or.inl ⟨by rfl,?_⟩) (by assumption) ?_
  rotate_left 1
  ·(intro w l;(try dsimp only at l);go_simp;(try with_reducible rfl))
  try simp only [Act.put,ai,aj,aq]
  refine wpAnyH_take (i:=9) (v := ?_) rfl (by kernel_rfl) (by kernel_rfl) (by kernel_rfl) (fun _ _ _ h=>h) (Or.inl ⟨by rfl,?_⟩) (by assumption) ?_
  rotate_left 1
  ·(intro w l;(try dsimp only at l);go_simp;(try with_reducible rfl))
  try simp only [Act.put,ai,aj,aq]
  refine wpAnyH_take (i:=13) (v := ?_) rfl (by kernel_rfl) (by kernel_rfl) (by kernel_rfl) (fun _ _ _ h=>h) (Or.inl ⟨by rfl,?_⟩) (by assumption) ?_
  rotate_left 1
  ·(intro w l;(try dsimp only at l);go_simp;(try with_reducible rfl))
  try simp only [Act.put,ai,aj,aq]
  refine wpAnyH_take (i:=14) (v := ?_) rfl (by kernel_rfl) (by kernel_rfl) (by kernel_rfl) (fun _ _ _ h=>h) (Or.inl ⟨by rfl,?_⟩) (by assumption) ?_
  rotate_left 1
  ·(intro w l;(try dsimp only at l);go_simp;(try with_reducible rfl))
  try simp only [Act.put,ai,aj,aq]
  refine wpAnyH_ready (rs:=[10]) (by kernel_rfl) (by simp) ?_
  refine AllReadyH.cons rfl ?_ AllReadyH.nil
  intro K' hK'
  go_simp
  refine hK'.out _ _ (by first | exact ⟨rc,G,I,en⟩ | exact (a2 _).out | exact (a3 _ _).out) ?_
  clear hK' K'
  intro ca
  try simp only [ai,aj,aq]
  refine wpAnyH_ready (rs:=[11]) (by kernel_rfl) (by simp) ?_
  refine AllReadyH.cons rfl ?_ AllReadyH.nil
  intro K' hK'
  go_simp
  refine hK'.out _ _ (by first | exact ⟨rc,G,I,en⟩ | exact (a2 _).out | exact (a3 _ _).out) ?_
  clear hK' K'
  intro cb
  try simp only [ai,aj,aq]
  refine wpAnyH_take (i:=12) (v := ?_) rfl (by kernel_rfl) (by kernel_rfl) (by kernel_rfl) (fun _ _ _ h=>h) (Or.inl ⟨by rfl,?_⟩) (by assumption) ?_
  rotate_left 1
  ·(intro w l;(try dsimp only at l);go_simp;(try with_reducible rfl))
  try simp only [Act.put,ai,aj,aq]
  refine wpAnyH_take (i:=15) (v := ?_) rfl (by kernel_rfl) (by kernel_rfl) (by kernel_rfl) (fun _ _ _ h=>h) (Or.inl ⟨by rfl,?_⟩) (by assumption) ?_
  rotate_left 1
  ·(intro w l;(try dsimp only at l);go_simp;(try with_reducible rfl))
  try simp only [Act.put,ai,aj,aq]
  refine wpAnyH_ready (rs:=[16]) (by kernel_rfl) (by simp) ?_
  refine AllReadyH.cons rfl ?_ AllReadyH.nil
  intro K' hK'
  go_simp
  refine hK'.out _ _ (by first | exact ⟨rc,G,I,en⟩ | exact (a2 _).out | exact (a3 _ _).out) ?_
  clear hK' K'
  intro ce
  try simp only [ai,aj,aq]
  refine wpAnyH_ready (rs:=[17]) (by kernel_rfl) (by simp) ?_
  refine AllReadyH.cons rfl ?_ AllReadyH.nil
  intro K' hK'
  refine mh rfl (.tmp 13) (.tmp 23) rfl base _ _ d.log rfl rfl (by exact bM.out.below (bN _ _).out) (by exact V.out.frame fun b _ C=>(bN _ _).out.block b C) [oC (t,m)] (by exact bO.out) (by have:=c3.out;simp;omega) (by have:=HB.out;have:=bI.out;simp;omega) ?_;intro v3 w3 X q Y bP;obtain ⟨am,J,rfl⟩:=X.shape;have N:=ae (iJ q ba.out (fQ _ (.cells #[.string ⟨(100::114::111::112::32::lR t::m).toArray⟩] 9) (fQ _ (.cells #[.int .u8 (IntKind.u8.wrap t)] 5) aa.out)));have bS:=ae (iJ q (V.out.ne R.out (by decide)) (fQ _ (.cells #[.string ⟨(100::114::111::112::32::lR t::m).toArray⟩] 9) (fQ _ (.cells #[.int .u8 (IntKind.u8.wrap t)] 5) R.out)));have bn:=ae (iJ q (V.out.ne F.out (by decide)) (fQ _ (.cells #[.string ⟨(100::114::111::112::32::lR t::m).toArray⟩] 9) (fQ _ (.cells #[.int .u8 (IntKind.u8.wrap t)] 5) F.out)));refine hK'.out _ _ ⟨af _ _ 0 _ _ _ bS.out,af _ _ 0 _ _ _ bn.out,af _ _ 1 _ _ _ bn.out,af _ _ 11 _ _ _ N.out⟩ ?_
  clear hK' K'
  intro cf
  try simp only [Act.put,ai,aj,aq]
  refine wpAnyH_take (i:=18) (v := ?_) rfl (by kernel_rfl) (by kernel_rfl) (by kernel_rfl) (fun _ _ _ h=>h) (Or.inl ⟨by rfl,?_⟩) (by assumption) ?_
  rotate_left 1
  ·(intro w l;(try dsimp only at l);go_simp;(try with_reducible rfl))
  try simp only [Act.put,ai,aj,aq]
  refine wpAnyH_take (i:=19) (v := ?_) rfl (by kernel_rfl) (by kernel_rfl) (by kernel_rfl) (fun _ _ _ h=>h) (Or.inl ⟨by rfl,?_⟩) (by assumption) ?_
  rotate_left 1
  ·(intro w l;(try dsimp only at l);go_simp;(try with_reducible rfl))
  try simp only [Act.put,ai,aj,aq]
  refine wpAnyH_done (by kernel_rfl) ?_ _
  show Oper.wp _ _ _ _ _ _
  have e9:=af _ _ 11 _ _ _ N.out
  have g9:=ao _ _ 11 _ _ N.out
  have el:=fI N.out
  have ci:Hid (∀ i,(Value.slice am (d.log.length+1) J).ownBlock=some i→x.log.ownBlock=some i∨w.heap.size≤i):=ae (fun i e=>(bP i e).imp id fun U=>by have:=bI.out;rw [U];simp;omega)
  have c8:Hid (w2.heap.size≤w3.heap.size):=ae (by have:=q.size;simp at this;omega)
  have bX:=ae (Y.ne N.out (by decide))
  have b0:Hid (TabAt w3 x.r d.S):=ae (ag.out.fW ((q.block _ (by simp;have:=ag.out.lt;omega) (fun e=>cv.out e.symm)).trans ((heap_alloc_old _ _ (by simp;have:=ag.out.lt;omega)).trans (heap_alloc_old _ _ ag.out.lt))))
  have cl:=ae (Y.qe b0.out)
  have c9:=ae X
  have co:=ae Y
  have da:Hid (Ext (fun i=>x.log.ownBlock=some i) w2 w3):=ae ⟨q.os,q.tape,q.output,c8.out,fun i hi O=>(q.block i (by simp;omega) (fun e=>O e.symm)).trans ((heap_alloc_old _ _ (by simp;omega)).trans (heap_alloc_old _ _ hi))⟩
  clear X q Y bP
  go_wp2
  obtain ⟨u,Q⟩:∃ u,u=w3.setCell ⟨h,11,none⟩ (.slice am (d.log.length+1) J):=⟨_,rfl⟩
  rw [←Q]
  have y:∀ j,j≠h→u.heap[j]?=w3.heap[j]?:=fun j hj=>by rw [Q];exact Below.heap_setCell _ ⟨h,11,none⟩ _ j hj
  have cq:Hid (u.heap.size=w3.heap.size):=ae (by rw [Q,size_setCell])
  have bo:Hid (HostIs u h {x.stop with log := .slice am (d.log.length+1) J}):=ae (by rw [Q];exact heap_setCell _ _ 11 _ N.out)
  have b1:=ae ((y _ (by omega:w.heap.size≠h)).trans bS.out)
  have br:=ae ((y _ (by omega:w.heap.size+1≠h)).trans bn.out)
  have dc:Hid (TabAt u x.r d.S):=ae (b0.out.fW (y _ (dx bb.out)))
  have dk:=ae (c9.out.frame (w':=u) (by have:=cq.out;omega) fun b e _=>y b fun U=>bX.out (by rw [e,U]))
  have cr:=ae (co.out.frame (w':=u) fun b e _=>y b fun U=>bX.out (by rw [e,U]))
  have dl:Hid (Ext (fun i=>i=h∨i=x.r∨x.log.ownBlock=some i) w u):=ae (by rw [Q];exact (bL.out.trans (da.out.mono fun i e => .inr (.inr e))).setCell _ _ (.inl (.inl rfl)))
  clear Q y rc G I en f9 e9 g9
  unfold HostIs HV.cells at *
  have q0:=af _ _ 0 _ _ _ b1.out
  have G:=af _ _ 0 _ _ _ br.out
  have I:=af _ _ 1 _ _ _ br.out
  have er:=af _ _ 10 _ _ _ bo.out
  simp only [bR,bE,aY] at q0 G I er
  have em:u.cell? ⟨h,10,none⟩=some (.map (some x.r)):=er
  clear er
  obtain ⟨W1,hu,b2,b3,dn⟩:=TabAt.drop (w:=u) dc.out (mt:=85) Tryz.underlying85 (t,m) 94 0
  have b4:=hu 1
  have bs:∀ w:World,w.drewN 1=w.drew:=fun _=>rfl
  rw [bs,bs] at b4
  simp only [kV,iX] at b4
  have dp:=ae b2
  have M:=ae b3
  have ds:=fI bo.out
  have d9:=fI b1.out
  have eb:=fI br.out
  clear hu bs b2 b3 dn hcv c6 c7 b8 ca cb ce cf
  go_region
  go_wp2
  go_end0
  have e:d.drop (t,m) = {d.stop with S:=nQ (t,m) d.S,log:=d.log++[oC (t,m)]} := by unfold DpS.drop;rw [←B.out.1,hdd];rfl
  refine ⟨rfl,.slice am (d.log.length+1) J,?_,?_,ci.out⟩
  ·rw [e]
   have O:∀ b,(Value.slice am (d.log.length+1) J).ownBlock=some b→b≠x.r:=fun b e1 e2=>cl.out (by rw [←e2];exact e1)
   have Z:∀ j,j≠x.r→j<u.heap.size→W1.heap[j]?=u.heap[j]?:=fun j hj a9=>M.out.block j a9 (fun e=>hj (by cases e;rfl))
   refine ⟨?_,rfl,rfl,bD.out,dp.out.fW rfl,?_,?_,bz.out,bl.out⟩
   ·show W1.heap[h]?=_
    rw [Z h bb.out ds]
    have:=bo.out
    simp only [B.out.1,B.out.2] at this⊢
    exact this
   ·have h1:=dk.out.frame (w':=W1) M.out.size fun b e C=>Z b (O b e) C
    rw [pq] at h1
    show OwnS W1 base 1 _ (d.log++[oC (t,m)]).length (strsV (d.log++[oC (t,m)]))
    rw [pq,ar]
    exact h1
   ·exact cr.out.frame (w':=W1) fun b e C=>Z b (O b e) C
  ·refine (dl.out.trans' (T:=fun i=>i=x.r) (c:=W1.drew) ⟨M.out.os,M.out.tape,M.out.output,M.out.size,fun k hk O=>M.out.block k hk fun e=>O (by cases e;rfl)⟩ fun i e => .inl (.inr (.inl e)))
end Go.Proofs.YtkkfmkhbdoeglaaGreatDoor
namespace Go.Proofs.YtkkfmkhbdoeglaaGreatDoor
open Go.RowKit
def jd (w:World) (F:Nat→Prop) (v:Value) (b:List UInt8):Prop:=BytesAt w v b∧CellsOf w v 5∧∀ k,v.ownBlock=some k→F k
def RowsAt (w:World) (F:Nat→Prop) (v:Value) (rows:List (List UInt8)):Prop :=
 ∃ vals:List Value,OwnS w 0 1 v rows.length vals∧CellsOf w v 59∧(∀ k,v.ownBlock=some k→F k)∧∀ (i:Nat) (b:List UInt8),rows[i]?=some b→∃ u,vals[i]?=some u∧jd w F u b
def rh (late:List (List UInt8×Nat)) (vals:List Value):List Value:=(late.zip vals).flatMap fun x=>[.int .i64 (x.1.2:Int),x.2]
def LateAt (w:World) (F:Nat→Prop) (v:Value) (late:List (List UInt8×Nat)):Prop :=
 ∃ vals:List Value,vals.length=late.length∧OwnS w 0 2 v late.length (rh late vals)∧CellsOf w v 125∧(∀ k,v.ownBlock=some k→F k)∧∀ (i:Nat) (b:List UInt8×Nat),late[i]?=some b→∃ u,vals[i]?=some u∧jd w F u b.1
structure gO (w:World) (F:Nat→Prop) (h:Nat) (x:HV) (H:fJ):Prop where
 dp:DpAt w 0 h x H.dp
 fail:x.fail=H.fail
 writes:x.writes=H.writes
 held:RowsAt w F x.held H.held
 seen:RowsAt w F x.seen H.seen
 late:LateAt w F x.late H.late
 apart:∀ k,x.held.ownBlock=some k→x.seen.ownBlock≠some k
 foot:F h∧F x.r∧∀ k,x.log.ownBlock=some k→F k
 lt:∀ k,F k→k<w.heap.size
def HostAt (w:World) (F:Nat→Prop) (h:Nat) (H:fJ):Prop:=∃ x,gO w F h x H
def ir (w:World) (F S:Nat→Prop) (h:Nat) (H:fJ) (w':World):Prop:=∃ F',HostAt w' F' h H∧(∀ k,F' k→F k∨w.heap.size≤k)∧Ext (fun k=>F k∨S k) w w'
theorem jd.fW {w w':World} {F:Nat→Prop} {v:Value} {b:List UInt8} (h:jd w F v b) (d:∀ k C fz,w.heap[k]?=some (.cells C 5 fz)→F k→w'.heap[k]?=w.heap[k]?):jd w' F v b:=by
 obtain ⟨h1,h2,h3⟩:=h
 have hk:∀ k,v.ownBlock=some k→k<w.heap.size→w'.heap[k]?=w.heap[k]?:=fun k e _=>by
  obtain ⟨C,fz,i⟩:=h2 k e
  exact d k C fz i (h3 k e)
 exact ⟨fR.frame h1 hk,h2.frame hk,h3⟩
theorem jd.mono {w:World} {F G:Nat→Prop} {v:Value} {b:List UInt8} (h:jd w F v b) (d:∀ k,F k→G k):jd w G v b:=⟨h.1,h.2.1,fun k e=>d k (h.2.2 k e)⟩
theorem RowsAt.yN {w w':World} {F:Nat→Prop} {v:Value} {rows:List (List UInt8)} (h:RowsAt w F v rows) (hs:w.heap.size≤w'.heap.size) (hk:∀ k,v.ownBlock=some k→k<w.heap.size→w'.heap[k]?=w.heap[k]?)
  (j:∀ k C fz,w.heap[k]?=some (.cells C 5 fz)→F k→w'.heap[k]?=w.heap[k]?):RowsAt w' F v rows:=by
 obtain ⟨vals,h1,h2,h3,h4⟩:=h
 refine ⟨vals,h1.frame hs hk,h2.frame hk,h3,fun i b l => ?_⟩
 obtain ⟨u,hu,d⟩:=h4 i b l
 exact ⟨u,hu,d.fW j⟩
theorem RowsAt.fW {w w':World} {F:Nat→Prop} {v:Value} {rows:List (List UInt8)} (h:RowsAt w F v rows) (hs:w.heap.size≤w'.heap.size)
  (d:∀ k C t fz,w.heap[k]?=some (.cells C t fz)→(t=5∨t=59)→F k→w'.heap[k]?=w.heap[k]?):RowsAt w' F v rows:=by
 have i:=h
 obtain ⟨vals,h1,h2,h3,h4⟩:=i
 exact h.yN hs (fun k e _=>by
  obtain ⟨C,fz,b⟩:=h2 k e
  exact d k C _ fz b (.inr rfl) (h3 k e)) fun k C fz b hF=>d k C _ fz b (.inl rfl) hF
theorem RowsAt.mono {w:World} {F G:Nat→Prop} {v:Value} {rows:List (List UInt8)} (h:RowsAt w F v rows) (j:∀ k,F k→G k):RowsAt w G v rows:=by
 obtain ⟨vals,h1,h2,h3,h4⟩:=h
 refine ⟨vals,h1,h2,fun k e=>j k (h3 k e),fun i b l => ?_⟩
 obtain ⟨u,hu,d⟩:=h4 i b l
 exact ⟨u,hu,d.mono j⟩
theorem LateAt.fW {w w':World} {F:Nat→Prop} {v:Value} {late:List (List UInt8×Nat)} (h:LateAt w F v late) (hs:w.heap.size≤w'.heap.size)
  (l:∀ k C t fz,w.heap[k]?=some (.cells C t fz)→(t=5∨t=125)→F k→w'.heap[k]?=w.heap[k]?):LateAt w' F v late:=by
 obtain ⟨vals,m,h1,h2,h3,h4⟩:=h
 have hk:∀ k,v.ownBlock=some k→k<w.heap.size→w'.heap[k]?=w.heap[k]?:=fun k e _=>by
  obtain ⟨C,fz,d⟩:=h2 k e
  exact l k C _ fz d (.inr rfl) (h3 k e)
 refine ⟨vals,m,h1.frame hs hk,h2.frame hk,h3,fun i b o => ?_⟩
 obtain ⟨u,hu,j⟩:=h4 i b o
 exact ⟨u,hu,j.fW fun k C fz d hF=>l k C _ fz d (.inl rfl) hF⟩
theorem LateAt.mono {w:World} {F G:Nat→Prop} {v:Value} {late:List (List UInt8×Nat)} (h:LateAt w F v late) (j:∀ k,F k→G k):LateAt w G v late:=by
 obtain ⟨vals,l,h1,h2,h3,h4⟩:=h
 refine ⟨vals,l,h1,h2,fun k e=>j k (h3 k e),fun i b m => ?_⟩
 obtain ⟨u,hu,d⟩:=h4 i b m
 exact ⟨u,hu,d.mono j⟩
theorem RowsAt.get {w:World} {F:Nat→Prop} {v:Value} {rows:List (List UInt8)} (h:RowsAt w F v rows):∃ g cap,v = .slice g rows.length cap∧rows.length≤cap∧∀ (i:Nat) (b:List UInt8),rows[i]?=some b→∃ g0 off u,g=some ⟨g0,off,none⟩∧w.cell? ⟨g0,off+i,none⟩=some u∧jd w F u b:=by
 obtain ⟨vals,h1,h2,h3,h4⟩:=h
 obtain ⟨hl,g,cap,j,hc,l⟩:=h1.sliceAt
 refine ⟨g,cap,j,hc,fun i b m => ?_⟩
 obtain ⟨u,hu,hs⟩:=h4 i b m
 obtain ⟨d,e⟩:=aG.1 hu
 obtain ⟨g0,off,o,q⟩:=l i d
 exact ⟨g0,off,u,o,by rw [q,e],hs⟩
theorem gO.frame {w w':World} {F:Nat→Prop} {h:Nat} {x:HV} {H:fJ} (b:gO w F h x H) (hs:w.heap.size≤w'.heap.size) (d:∀ k,F k→w'.heap[k]?=w.heap[k]?):gO w' F h x H:=by
 obtain ⟨f1,f2,f3⟩:=b.foot
 have hd:=b.dp
 exact ⟨⟨hd.row.fW (d _ f1),hd.left,hd.dead,hd.room,hd.tab.fW (d _ f2),hd.own.frame hs fun k e _=>d k (f3 k e),hd.ltyp.frame fun k e _=>d k (f3 k e),hd.lo,hd.lb⟩,b.fail,b.writes,
  b.held.fW hs fun k _ _ _ _ _ hF=>d k hF,b.seen.fW hs fun k _ _ _ _ _ hF=>d k hF,b.late.fW hs fun k _ _ _ _ _ hF=>d k hF,b.apart,b.foot,fun k hk=>aC (b.lt k hk) hs⟩
theorem HostAt.frame {w w':World} {F:Nat→Prop} {h:Nat} {H:fJ} (b:HostAt w F h H) (hs:w.heap.size≤w'.heap.size) (d:∀ k,F k→w'.heap[k]?=w.heap[k]?):HostAt w' F h H:=by
 obtain ⟨x,i⟩:=b
 exact ⟨x,i.frame hs d⟩
theorem HostAt.lt {w:World} {F:Nat→Prop} {h:Nat} {H:fJ} (b:HostAt w F h H):∀ k,F k→k<w.heap.size:=by
 obtain ⟨x,d⟩:=b
 exact d.lt
theorem HostAt.below {w w':World} {F:Nat→Prop} {h:Nat} {H:fJ} (b:HostAt w F h H) (d:Below w.heap.size w w'):HostAt w' F h H:=b.frame d.size fun k hk=>d.block k (b.lt k hk)
theorem HostAt.ext {w w':World} {F S:Nat→Prop} {h:Nat} {H:fJ} (b:HostAt w F h H) (d:Ext S w w') (i:∀ k,F k→¬S k):HostAt w' F h H:=b.frame d.size fun k hk=>d.block k (b.lt k hk) (i k hk)
theorem ir.start {w:World} {F S:Nat→Prop} {h:Nat} {H:fJ} (b:HostAt w F h H):ir w F S h H w:=⟨F,b,fun _ => .inl,Ext.refl _ _⟩
theorem ir.below {w w1 w':World} {F S:Nat→Prop} {h:Nat} {H:fJ} (d:ir w F S h H w1) (b:Below w1.heap.size w1 w'):ir w F S h H w':=by
 obtain ⟨F',h1,h2,h3⟩:=d
 exact ⟨F',h1.below b,h2,h3.trans (Ext.fM b)⟩
theorem ir.trans {w w1 w2:World} {F b S:Nat→Prop} {h:Nat} {d:fJ} (h2:∀ k,b k→F k∨w.heap.size≤k) (h3:Ext (fun k=>F k∨S k) w w1) (i:ir w1 b S h d w2):ir w F S h d w2:=by
 obtain ⟨j,g1,g2,g3⟩:=i
 refine ⟨j,g1,fun k hk => ?_,h3.trans' g3 fun k hk => ?_⟩
 ·rcases g2 k hk with e | e
  ·exact h2 k e
  ·exact .inr (aI h3.size e)
 ·rcases hk with e | e
  ·exact (h2 k e).imp .inl id
  ·exact .inl (.inr e)
theorem l8 (h:Nat) (x:HV) (w:World) (d:HostIs w h x) (lo : -1≤x.fail) (u:x.fail≤9223372036854775807) :
  Calls Tryz.prog 194 #[.pointer (some ⟨h,0,none⟩)] w fun e w'=>e = .returned (.bool (decide (x.fail=0)))∧HostIs w' h {x with fail:=if x.fail<0 then x.fail else x.fail-1}∧w'.heap.size=w.heap.size∧Ext (fun i=>i=h) w w':=by
 obtain ⟨a0,a1,a2,n,j,b,wr,r0,r1,r2,r,lv⟩:=x
 unfold HostIs HV.cells at d⊢
 simp only at lo u d⊢
 have c4:=af _ _ 4 _ _ _ d
 have f4:=ao _ _ 4 _ _ d
 have B:=fI d
 have s:∀ v:Value,Hid ((w.setCell ⟨h,4,none⟩ v).heap[h]?=some (.cells #[a0,a1,a2,.int .i64 n,v,.bool b,.int .i64 wr,.int .i64 r0,.int .i64 r1,.int .i64 r2,.map (some r),lv] 87)∧(w.setCell ⟨h,4,none⟩ v).heap.size=w.heap.size∧Ext (fun i=>i=h) w (w.setCell ⟨h,4,none⟩ v)) :=
  fun v=>ae ⟨heap_setCell _ _ 4 v d,size_setCell _ _ _,(Ext.refl _ w).setCell _ _ (.inl rfl)⟩
 have y:=ae d
 clear d
 go_enter Tryz.func194,Tryz.ntmps194
 rcases dS j 0 with l | l | l
 ·have e:decide (j=0)=false:=by simp;omega
  rw [aF l,e]
  go_wp2
  go_ret
  exact ⟨rfl,y.out,rfl,Ext.refl _ _⟩
 ·subst l
  rw [aw (by omega)]
  go_wp2
  go_ret
  obtain ⟨m,o,q⟩:=(s (.int .i64 (-1))).out
  exact ⟨rfl,m,o,q⟩
 ·have e:decide (j=0)=false:=by simp;omega
  have C:decide (j-1<0)=false:=by simp;omega
  rw [aw (by omega),e]
  go_wp2
  go_ret
  obtain ⟨m,o,q⟩:=(s (.int .i64 (j-1))).out
  exact ⟨rfl,m,o,q⟩
theorem gO.Iw {w w1:World} {F:Nat→Prop} {h:Nat} {x x':HV} {H H':fJ} (b:gO w F h x H) (h1:HostIs w1 h x') (hs:w1.heap.size=w.heap.size) (u:Ext (fun i=>i=h) w w1)
  (y:x'.held=x.held∧x'.seen=x.seen∧x'.r=x.r∧x'.log=x.log∧x'.room=x.room) (B:H'.held=H.held∧H'.seen=H.seen∧H'.dp.S=H.dp.S∧H'.dp.log=H.dp.log∧H'.dp.room=H.dp.room)
  (D:x'.left=H'.dp.left∧x'.dead=H'.dp.dead∧x'.fail=H'.fail∧x'.writes=H'.writes) (lb : -1≤H'.dp.left∧H'.dp.left≤9223372036854775807) (l:LateAt w1 F x'.late H'.late):gO w1 F h x' H':=by
 obtain ⟨f1,f2,f3⟩:=b.foot
 have hd:=b.dp
 have s:∀ k,k<w.heap.size→k≠h→w1.heap[k]?=w.heap[k]?:=fun k hk d=>u.block k hk d
 have j:w.heap[h]?=_:=hd.row
 have m:∀ (k:Nat) (C:Array Value) (t:TypeId) (fz:Nat×Nat),w.heap[k]?=some (Obj.cells C t fz)→t≠87→w1.heap[k]?=w.heap[k]?:=fun k C t fz hk d=>s k (fI hk) fun e=>by
  rw [e,j] at hk
  cases hk
  exact d rfl
 have hle:w.heap.size≤w1.heap.size:=by omega
 obtain ⟨a1,a2,a4,a5,E⟩:=y
 obtain ⟨G,I,J,M,N⟩:=B
 obtain ⟨d1,d2,d3,d4⟩:=D
 refine ⟨⟨h1,d1,d2,by rw [E,N];exact hd.room,?_,?_,?_,⟨aL _,aL _⟩,lb⟩,d3,d4,?_,?_,l,by rw [a1,a2];exact b.apart,by rw [a4,a5];exact b.foot,fun k hk=>aC (b.lt k hk) hle⟩
 ·rw [a4,J]
  exact hd.tab.fW (s _ hd.tab.lt fun e=>hd.tab.jQ j e.symm)
 ·rw [a5,M]
  exact hd.own.frame hle fun k e _=>by
   obtain ⟨C,fz,o⟩:=hd.ltyp k e
   exact m k C _ fz o (by decide)
 ·rw [a5]
  exact hd.ltyp.frame fun k e _=>by
   obtain ⟨C,fz,o⟩:=hd.ltyp k e
   exact m k C _ fz o (by decide)
 ·rw [a1,G]
  exact b.held.fW hle fun k C t fz hk q _=>m k C t fz hk (by rcases q with rfl | rfl <;> decide)
 ·rw [a2,I]
  exact b.seen.fW hle fun k C t fz hk q _=>m k C t fz hk (by rcases q with rfl | rfl <;> decide)
theorem gO.row {w w1:World} {F:Nat→Prop} {h:Nat} {x x':HV} {H H':fJ} (d:gO w F h x H) (h1:HostIs w1 h x') (hs:w1.heap.size=w.heap.size) (l:Ext (fun i=>i=h) w w1)
  (m:x'.held=x.held∧x'.seen=x.seen∧x'.late=x.late∧x'.r=x.r∧x'.log=x.log∧x'.room=x.room) (o:H'.held=H.held∧H'.seen=H.seen∧H'.late=H.late∧H'.dp.S=H.dp.S∧H'.dp.log=H.dp.log∧H'.dp.room=H.dp.room)
  (q:x'.left=H'.dp.left∧x'.dead=H'.dp.dead∧x'.fail=H'.fail∧x'.writes=H'.writes) (lb : -1≤H'.dp.left∧H'.dp.left≤9223372036854775807):gO w1 F h x' H':=by
 have j:w.heap[h]?=_:=d.dp.row
 obtain ⟨a1,a2,a3,a4,a5,s⟩:=m
 obtain ⟨u,y,B,D,E,G⟩:=o
 refine d.Iw h1 hs l ⟨a1,a2,a4,a5,s⟩ ⟨u,y,D,E,G⟩ q lb ?_
 rw [a3,B]
 exact d.late.fW (by omega) fun k C t fz hk b _=>l.block k (fI hk) fun e=>by
  have I:k=h:=e
  rw [I,j] at hk
  cases hk
  rcases b with b | b <;> exact absurd b (by decide)
theorem gO.asked {w w1:World} {F:Nat→Prop} {h:Nat} {x:HV} {H:fJ} (b:gO w F h x H) (h1:HostIs w1 h {x with fail:=if x.fail<0 then x.fail else x.fail-1}) (hs:w1.heap.size=w.heap.size) (d:Ext (fun i=>i=h) w w1) :
  gO w1 F h {x with fail:=if x.fail<0 then x.fail else x.fail-1} H.asked:=by
 refine b.row h1 hs d ⟨rfl,rfl,rfl,rfl,rfl,rfl⟩ ⟨rfl,rfl,rfl,rfl,rfl,rfl⟩ ⟨b.dp.left,b.dp.dead,?_,b.writes⟩ b.dp.lb
 show _=H.asked.fail
 unfold fJ.asked
 simp only [b.fail]
theorem G9 {d:DpS} (lb : -1≤d.left∧d.left≤9223372036854775807) : -1≤d.stop.left∧d.stop.left≤9223372036854775807:=by
 unfold DpS.stop
 simp only
 split <;> omega
theorem gO.Dq {w w1:World} {F:Nat→Prop} {h:Nat} {x:HV} {H:fJ} (b:gO w F h x H) (h1:HostIs w1 h x.stop) (hs:w1.heap.size=w.heap.size) (d:Ext (fun i=>i=h) w w1) :
  gO w1 F h x.stop {H with dp:=H.dp.stop} := by
 refine b.row h1 hs d ⟨rfl,rfl,rfl,rfl,rfl,rfl⟩ ⟨rfl,rfl,rfl,rfl,rfl,rfl⟩ ⟨?_,?_,b.fail,b.writes⟩ (G9 b.dp.lb)
 ·unfold HV.stop DpS.stop
  simp only [b.dp.left]
 ·unfold HV.stop DpS.stop
  simp only [b.dp.left,b.dp.dead]
theorem RowsAt.set {w w':World} {F:Nat→Prop} {gs os cap n:Nat} {rows:List (List UInt8)} (h:RowsAt w F (.slice (some ⟨gs,os,none⟩) rows.length cap) rows) (B:n<rows.length) {u:Value} {s:List UInt8} (hu:∀ C fz,w.heap[gs]?=some (.cells C 59 fz)→jd w F u s)
  (he:w'=w.setCell ⟨gs,os+n,none⟩ u):RowsAt w' F (.slice (some ⟨gs,os,none⟩) rows.length cap) (rows.set n s):=by
 obtain ⟨vals,h1,h2,h3,h4⟩:=h
 obtain ⟨C,fz,l⟩:=h2 gs rfl
 have hs:=hu C fz l
 have m:w'.heap[gs]?=some (.cells (C.setIfInBounds (os+n) u) 59 fz):=by rw [he];exact heap_setCell _ _ _ _ l
 have o:∀ k,k≠gs→w'.heap[k]?=w.heap[k]?:=fun k hk=>by rw [he];exact Below.heap_setCell w ⟨gs,os+n,none⟩ u k hk
 have j:∀ (v:Value) (b:List UInt8),jd w F v b→jd w' F v b:=fun v b q=>q.fW fun k Q M hk _=>o k fun e=>by
  rw [e,l] at hk
  cases hk
 have hlen:w'.heap.size=w.heap.size:=by rw [he,size_setCell]
 obtain ⟨hl,r⟩:=h1
 refine ⟨vals.set n u,⟨by rw [b9,hl,b9],?_⟩,fun k hk => ?_,h3,fun i b d => ?_⟩
 ·rcases r with ⟨e,-⟩ | ⟨R,D,cap',e,E,N,hc,hm,G,x⟩
  ·cases e
  ·cases e
   right
   refine ⟨gs,os,cap,by rw [b9],E,by omega,by rw [b9];exact hc,hm,fun i d => ?_,fun i d => ?_⟩
   ·rw [b9] at d
    rw [List.getElem_set]
    split
    ·rename_i e
     subst e
     rw [he]
     exact World.cell?_setCell_same' w _ u (x n (by omega)).1
    ·rename_i O
     rw [he,cJ w (a:=⟨gs,os+n,none⟩) (b:=⟨gs,os+i,none⟩) u (by intro e;injection e with I J;omega)]
     exact G i d
   ·obtain ⟨f1,f2⟩:=x i d
    refine ⟨?_,?_⟩
    ·by_cases e:i=n
     ·subst e
      rw [he,World.cell?_setCell_same' w _ u f1]
      rfl
     ·rw [he,cJ w (a:=⟨gs,os+n,none⟩) (b:=⟨gs,os+i,none⟩) u (by intro e;injection e with I J;omega)]
      exact f1
    ·rw [he,eK]
     exact f2
 ·cases hk
  exact ⟨_,_,m⟩
 ·by_cases e:i=n
  ·subst e
   rw [ea B] at d
   cases d
   exact ⟨u,by rw [ea (by omega)],j _ _ hs⟩
  ·rw [ew (dx e)] at d
   obtain ⟨v,q,y⟩:=h4 i b d
   exact ⟨v,by rw [ew (dx e)];exact q,j _ _ y⟩
theorem jd.Cy {w:World} {F:Nat→Prop} {B n:Nat} {l:List UInt8} (h:w.heap[B]?=some (.cells (u8s l).toArray 5 (0,0))) (hF:F B) (b:l.length=n):jd w F (.slice (some ⟨B,0,none⟩) n n) l:=by
 subst b
 refine ⟨BytesAt.mk' (ah _) fun i d=>⟨B,0,rfl,?_⟩,fun k hk => ?_,fun k hk => ?_⟩
 ·have:=af w B (0+i) _ _ _ h
  rw [this,bF,bR,Hb l i d]
 ·cases hk
  exact ⟨_,_,h⟩
 ·cases hk
  exact hF
theorem lj {ops:Array Oper} {o:Oper} {a:Act} {K:Act→World→Prop} {Q:Exit→Act→World→Prop} {E:Prop} {w:World} (y:o.guard=none) (s x:Operand) (t e:TypeId) (k b:Nat) (z:Value)
  (B:Tryz.prog.underlying t=some (.slice e)) (j:(Tryz.prog.info? e).map (fun i=>(i.zero,i.size,i.bytes))=some (some z,k,b)) (C:z.cells.size=k) (hk:0<k)
  (G:o.op = .call {callee := .builtin .append,args:=#[s,x],argTypes:=#[t,t]})
  (base:Nat) (v:Value) (n:Nat) (xs:List Value) (I:a.eval s=v) (r:OwnS w base k v n xs) (J:CellsOf w v e) (m:Nat) (news:List Value) (hs:fR w (a.eval x) k m news) (h1:∀ u∈news,u.oneCell'=true)
  (hlen:n+m≤9223372036854775807) (d:(n+m)*b≤140737488355328) (l:base≤w.heap.size)
  (h:∀ v' w',OwnS w' base k v' (n+m) (xs++news)→w.grownBy w' v.ownBlock→CellsOf w' v' e→(∀ b,v'.ownBlock=some b→v.ownBlock=some b∨b=w.heap.size)→
   K (a.put o.dst v') w'):if Region.wanted o (yielded ops a.tmps)=true then Oper.wp Tryz.prog o a w K Q else E:=by
 have hw:Region.wanted o (yielded ops a.tmps)=true:=by simp [Region.wanted,y]
 rw [aF hw]
 obtain ⟨i0,M,D,q,F⟩:=dP j
 exact lE s x _ _ G base k e i0 z B M D q (by rw [q];exact C) (by omega) v n xs I r J m news (fR.src B hs h1) hlen (by rw [F];exact d) l h
theorem Ig:(Tryz.prog.info? 125).map (fun i=>(i.zero,i.size,i.bytes))=some (some (.agg #[.int .i64 0,.slice none 0 0]),2,32):=by kernel_rfl
theorem Co {late:List (List UInt8×Nat)} {vals:List Value} (h:vals.length=late.length) (s:List UInt8) (n:Nat) (u:Value):rh (late++[(s,n)]) (vals++[u])=rh late vals++[.int .i64 (n:Int),u]:=by
 unfold rh
 rw [List.zip_append h.symm,eA]
 rfl
theorem Gj (w:World) (n:Int) (u:Value):fR (w.alloc (.cells #[.int .i64 n,u] 125)) (.slice (some ⟨w.heap.size,0,none⟩) 1 1) 2 1 [.int .i64 n,u]:=by
 refine ⟨rfl,_,1,rfl,ah _,fun i b=>⟨_,0,rfl,?_⟩⟩
 rw [lS]
 obtain rfl | rfl:i=0∨i=1:=by simp at b;omega
 ·rfl
 ·rfl
theorem qN {w:World} {v:Value} {e T:TypeId} {gs:Nat} {C:Array Value} {fz:Nat×Nat} (h:CellsOf w v e) (d:w.heap[gs]?=some (.cells C T fz)) (i:T≠e):∀ k,v.ownBlock=some k→k≠gs:=fun k hk j=>by
 obtain ⟨m,l,b⟩:=h k hk
 rw [j,d] at b
 cases b
 exact i rfl
theorem gO.Dp {w w':World} {F F':Nat→Prop} {h gs os cap n:Nat} {x:HV} {H:fJ} {u:Value} {s:List UInt8} (d:gO w F h x H) (m:x.seen = .slice (some ⟨gs,os,none⟩) H.seen.length cap) (E:n<H.seen.length) (hu:jd w F' u s) (hF:∀ k,F k→F' k) (y:∀ k,F' k→k<w.heap.size)
  (he:w'=w.setCell ⟨gs,os+n,none⟩ u):gO w' F' h x {H with seen:=H.seen.set n s}∧w'.heap.size=w.heap.size∧Ext F w w':=by
 have j:=d.seen.mono hF
 rw [m] at j
 have r:=j
 obtain ⟨-,-,h2,h3,-⟩:=r
 obtain ⟨M,J,i⟩:=h2 gs rfl
 have o:=j.set E (fun _ _ _=>hu) he
 have b:∀ k,k≠gs→w'.heap[k]?=w.heap[k]?:=fun k hk=>by rw [he];exact Below.heap_setCell w ⟨gs,os+n,none⟩ u k hk
 have B:w'.heap.size=w.heap.size:=by rw [he,size_setCell]
 have hle:w.heap.size≤w'.heap.size:=by omega
 have hd:=d.dp
 have l:w.heap[h]?=_:=hd.row
 obtain ⟨f1,f2,f3⟩:=d.foot
 have q:∀ (k:Nat) (C:Array Value) (fz:Nat×Nat),w.heap[k]?=some (Obj.cells C 5 fz)→w'.heap[k]?=w.heap[k]?:=fun k C fz hk=>b k fun e=>by
  rw [e,i] at hk
  cases hk
 have D:F gs:=by
  obtain ⟨-,-,-,g3,-⟩:=d.seen
  exact g3 gs (by rw [m];rfl)
 refine ⟨⟨⟨hd.row.fW (b _ fun e => ?_),hd.left,hd.dead,hd.room,hd.tab.fW (b _ (dx (hd.tab.jQ i))),hd.own.frame hle fun k e _=>b k (qN hd.ltyp i (by decide) k e),hd.ltyp.frame fun k e _=>b k (qN hd.ltyp i (by decide) k e),hd.lo,hd.lb⟩,d.fail,d.writes,?_,?_,?_,d.apart,⟨hF _ f1,hF _ f2,fun k e=>hF _ (f3 k e)⟩,fun k hk=>by have:=y k hk;omega⟩,B,?_⟩
 ·rw [e,i] at l
  cases l
 ·refine (d.held.mono hF).yN hle (fun k e _=>b k fun G=>d.apart k e (by rw [m,G];rfl)) fun k C fz hk _=>q k C fz hk
 ·rw [m]
  have e:(H.seen.set n s).length=H.seen.length:=b9
  show RowsAt w' F' _ (H.seen.set n s)
  exact o
 ·refine (d.late.mono hF).fW hle fun k C t fz hk I _ => ?_
  rcases I with rfl | rfl
  ·exact q k C fz hk
  ·exact b k fun e=>by rw [e,i] at hk;cases hk
 ·rw [he]
  exact (Ext.refl _ w).setCell _ _ (.inl D)
theorem gO.Df {w w':World} {F F':Nat→Prop} {h gs os cap n:Nat} {x:HV} {H:fJ} {u:Value} {s:List UInt8} (d:gO w F h x H) (m:x.held = .slice (some ⟨gs,os,none⟩) H.held.length cap) (E:n<H.held.length) (hu:jd w F' u s) (hF:∀ k,F k→F' k) (y:∀ k,F' k→k<w.heap.size)
  (he:w'=w.setCell ⟨gs,os+n,none⟩ u):gO w' F' h x {H with held:=H.held.set n s}∧w'.heap.size=w.heap.size∧Ext F w w':=by
 have j:=d.held.mono hF
 rw [m] at j
 have r:=j
 obtain ⟨-,-,h2,h3,-⟩:=r
 obtain ⟨M,J,i⟩:=h2 gs rfl
 have o:=j.set E (fun _ _ _=>hu) he
 have b:∀ k,k≠gs→w'.heap[k]?=w.heap[k]?:=fun k hk=>by rw [he];exact Below.heap_setCell w ⟨gs,os+n,none⟩ u k hk
 have B:w'.heap.size=w.heap.size:=by rw [he,size_setCell]
 have hle:w.heap.size≤w'.heap.size:=by omega
 have hd:=d.dp
 have l:w.heap[h]?=_:=hd.row
 obtain ⟨f1,f2,f3⟩:=d.foot
 have q:∀ (k:Nat) (C:Array Value) (fz:Nat×Nat),w.heap[k]?=some (Obj.cells C 5 fz)→w'.heap[k]?=w.heap[k]?:=fun k C fz hk=>b k fun e=>by
  rw [e,i] at hk
  cases hk
 have D:F gs:=by
  obtain ⟨-,-,-,g3,-⟩:=d.held
  exact g3 gs (by rw [m];rfl)
 refine ⟨⟨⟨hd.row.fW (b _ fun e => ?_),hd.left,hd.dead,hd.room,hd.tab.fW (b _ (dx (hd.tab.jQ i))),hd.own.frame hle fun k e _=>b k (qN hd.ltyp i (by decide) k e),hd.ltyp.frame fun k e _=>b k (qN hd.ltyp i (by decide) k e),hd.lo,hd.lb⟩,d.fail,d.writes,?_,?_,?_,d.apart,⟨hF _ f1,hF _ f2,fun k e=>hF _ (f3 k e)⟩,fun k hk=>by have:=y k hk;omega⟩,B,?_⟩
 ·rw [e,i] at l
  cases l
 ·rw [m]
  have e:(H.held.set n s).length=H.held.length:=b9
  show RowsAt w' F' _ (H.held.set n s)
  exact o
 ·refine (d.seen.mono hF).yN hle (fun k e _=>b k fun G=>d.apart gs (by rw [m];rfl) (by rw [←G];exact e)) fun k C fz hk _=>q k C fz hk
 ·refine (d.late.mono hF).fW hle fun k C t fz hk I _ => ?_
  rcases I with rfl | rfl
  ·exact q k C fz hk
  ·exact b k fun e=>by rw [e,i] at hk;cases hk
 ·rw [he]
  exact (Ext.refl _ w).setCell _ _ (.inl D)
theorem gO.GQ {w j w8:World} {F:Nat→Prop} {h n:Nat} {x:HV} {H:fJ} {vals:List Value} {v7 u:Value} {s:List UInt8} (l:gO w F h x H) (o:vals.length=H.late.length) (V:∀ (i:Nat) (b:List UInt8×Nat),H.late[i]?=some b→∃ u,vals[i]?=some u∧jd w F u b.1) (hu:jd w F u s)
  (N:Ext (fun k=>x.late.ownBlock=some k) w j) (Q:OwnS j 0 2 v7 (H.late.length+1) (rh H.late vals++[.int .i64 (n:Int),u])) (q:CellsOf j v7 125) (R:∀ b,v7.ownBlock=some b→x.late.ownBlock=some b∨w.heap.size≤b) (he:w8=j.setCell ⟨h,2,none⟩ v7) :
  gO w8 (fun k=>F k∨(w.heap.size≤k∧k<w8.heap.size)) h {x with late:=v7} {H with late:=H.late++[(s,n)]}∧Ext F w w8:=by
 have hd:=l.dp
 have d:w.heap[h]?=_:=hd.row
 obtain ⟨f1,f2,f3⟩:=l.foot
 obtain ⟨-,-,-,lt,W,-⟩:=l.late
 have X:¬x.late.ownBlock=some h:=lt.ne d (by decide)
 have m:j.heap[h]?=some (.cells x.cells 87):=(N.block h (fI d) X).trans d
 have r:∀ k,k<w.heap.size→k≠h→¬x.late.ownBlock=some k→w8.heap[k]?=w.heap[k]?:=fun k hk h1 h2=>by
  rw [he,Below.heap_setCell j ⟨h,2,none⟩ v7 k h1]
  exact N.block k hk h2
 have y:∀ (k:Nat) (C:Array Value) (t:TypeId) (fz:Nat×Nat),w.heap[k]?=some (Obj.cells C t fz)→t≠87→t≠125→w8.heap[k]?=w.heap[k]?:=fun k C t fz hk h1 h2=>r k (fI hk) (fun e=>by
  rw [e,d] at hk
  cases hk
  exact h1 rfl) fun e=>by
   obtain ⟨C',Y,B⟩:=lt k e
   rw [hk] at B
   cases B
   exact h2 rfl
 have D:w8.heap.size=j.heap.size:=by rw [he,size_setCell]
 have hle:w.heap.size≤w8.heap.size:=by rw [D];exact N.size
 have E:∀ k,F k→F k∨(w.heap.size≤k∧k<w8.heap.size):=fun k hk => .inl hk
 have Z:v7.ownBlock≠some h:=fun e=>by
  obtain ⟨C',Y,B⟩:=q h e
  rw [m] at B
  cases B
 have O:∀ b,v7.ownBlock=some b→w8.heap[b]?=j.heap[b]?:=fun b R=>by
  rw [he]
  exact Below.heap_setCell j ⟨h,2,none⟩ v7 b (fun e=>Z (R.trans (bB some e)))
 have G:∀ (v:Value) (b:List UInt8),jd w F v b→jd w8 (fun k=>F k∨(w.heap.size≤k∧k<w8.heap.size)) v b:=fun v b S=>(S.fW fun k C fz hk _=>y k C _ fz hk (by decide) (by decide)).mono E
 refine ⟨⟨⟨?_,hd.left,hd.dead,hd.room,hd.tab.fW (r _ hd.tab.lt (fun e=>hd.tab.jQ d e.symm) (lt.qe hd.tab)),hd.own.frame hle fun k e _ => ?_,hd.ltyp.frame fun k e _ => ?_,hd.lo,hd.lb⟩,l.fail,l.writes,?_,?_,⟨vals++[u],by rw [ar,ar,o];rfl,?_,q.frame fun b e _=>O b e,fun k e => ?_,fun i b I => ?_⟩,l.apart,⟨.inl f1,.inl f2,fun k e => .inl (f3 k e)⟩,fun k hk => ?_⟩,?_⟩
 ·rw [he]
  exact heap_setCell _ _ 2 v7 m
 ·obtain ⟨C,fz,J⟩:=hd.ltyp k e
  exact y k C _ fz J (by decide) (by decide)
 ·obtain ⟨C,fz,J⟩:=hd.ltyp k e
  exact y k C _ fz J (by decide) (by decide)
 ·exact (l.held.mono E).fW hle fun k C t fz hk M _=>y k C t fz hk (by rcases M with rfl | rfl <;> decide) (by rcases M with rfl | rfl <;> decide)
 ·exact (l.seen.mono E).fW hle fun k C t fz hk M _=>y k C t fz hk (by rcases M with rfl | rfl <;> decide) (by rcases M with rfl | rfl <;> decide)
 ·rw [Co o,show (H.late++[(s,n)]).length=H.late.length+1 by simp]
  exact Q.frame (by omega) fun b e _=>O b e
 ·rcases R k e with U | U
  ·exact .inl (W k U)
  ·right
   obtain ⟨C,fz,J⟩:=q k e
   exact ⟨U,by rw [D];exact fI J⟩
 ·by_cases aa:i<H.late.length
  ·rw [cI aa] at I
   obtain ⟨v,S,ab⟩:=V i b I
   exact ⟨v,by rw [cI (by omega)];exact S,G _ _ ab⟩
  ·have:i=H.late.length:=by
    have:=(aG.1 I).1
    simp at this
    omega
   subst this
   rw [cG (ah _),ef] at I
   cases I
   exact ⟨u,by rw [cG (by omega),o,ef];rfl,G _ _ hu⟩
 ·rcases hk with hk | hk
  ·exact aC (l.lt k hk) hle
  ·exact hk.2
 ·rw [he]
  exact (N.mono fun k e=>W k e).setCell _ _ (.inl f1)
theorem nV (h:Nat) (F:Nat→Prop) (H:fJ) (w:World) (m:HostAt w F h H) :
  Calls Tryz.prog 201 #[.agg #[.pointer (some ⟨h,0,none⟩)]] w fun e w'=>e = .returned (.int .i64 (H.seen.length:Nat))∧Below w.heap.size w w':=by
 obtain ⟨x,b⟩:=m
 obtain ⟨g,cap,j,-,-⟩:=b.seen.get
 have d:Below w.heap.size w (w.alloc (.cells #[.pointer (some ⟨h,0,none⟩)] 188)):=(Below.refl _ w).alloc (ah _) _
 have i:=b.dp.row.fW (d.block h b.dp.row.lt)
 have q:=b.dp.row.lt
 have l:=fL w (.cells #[.pointer (some ⟨h,0,none⟩)] 188)
 have rc:=af _ _ 0 _ _ _ l
 unfold HostIs HV.cells at i
 rw [j] at i
 have c1:=af _ _ 1 _ _ _ i
 have o:=ae d
 clear b j i l d
 go_enter Tryz.func201,Tryz.ntmps201
 go_wp2
 go_ret
 exact ⟨rfl,o.out⟩
def kF (w w':World) (v:Value) (s:Nat):Prop:=∃ b,v = .iface 168 (.pointer (some ⟨b,0,none⟩))∧w.heap.size≤b∧w'.heap[b]?=some (.cells #[.int .i64 ((s:Int)-2)] 171 (0,0))
theorem FQ (h:Nat) (F:Nat→Prop) (H:fJ) (n:Nat) (w:World) (G:HostAt w F h H) (Q:n<H.seen.length) (_hl:H.seen.length≤1000) (u:H.gW=true) :
  Calls Tryz.prog 200 #[.agg #[.pointer (some ⟨h,0,none⟩)],.int .i64 (n:Nat)] w fun e w'=>∃ v,e = .returned (.tuple #[.slice none 0 0,v])∧kF w w' v (n+2)∧HostAt w' F h H.asked∧Ext F w w':=by
 obtain ⟨x,b⟩:=G
 obtain ⟨g,cap,y,-,-⟩:=b.seen.get
 have d:Below w.heap.size w (w.alloc (.cells #[.pointer (some ⟨h,0,none⟩)] 188)):=(Below.refl _ w).alloc (ah _) _
 have i:=b.frame d.size fun k hk=>d.block k (b.lt k hk)
 have j:=i.dp.row
 have N:=b.dp.row.lt
 have B:=fL w (.cells #[.pointer (some ⟨h,0,none⟩)] 188)
 have rc:=af _ _ 0 _ _ _ B
 have o:x.fail=0:=by rw [b.fail];simpa [fJ.gW] using u
 have C:=ae (l8 h x _ j (by omega) (by omega))
 unfold HostIs HV.cells at j
 rw [y] at j
 have c1:=af _ _ 1 _ _ _ j
 have I:=ae d
 have J:=ae i
 have D:=ae o
 have M:Hid (F h):=ae b.foot.1
 have O:¬H.seen.length≤n:=by omega
 clear b i y j B d u o
 go_enter Tryz.func200,Tryz.ntmps200
 go_wp2_with fail
 refine C.out.mono ?_
 rintro e w1 ⟨rfl,q,r,l⟩
 rw [D.out]
 have s:=ae (J.out.asked q r l)
 have E:=ae l
 clear q l
 go_wp2
 go_ret2
 have m:Below w1.heap.size w1 (w1.alloc (.cells #[.int .i64 (n:Int)] 171)):=(Below.refl _ w1).alloc (ah _) _
 refine ⟨_,rfl,⟨_,rfl,dR _,?_⟩,⟨_,s.out.frame m.size fun k hk=>m.block k (s.out.lt k hk)⟩,?_⟩
 ·have h1:=fL w1 (.cells #[.int .i64 (n:Int)] 171)
  rw [r,ax] at h1
  rw [h1,show ((n+2:Nat):Int)-2=(n:Int) by omega]
 ·exact ((Ext.fM I.out).trans (E.out.mono fun k e=>by rw [e];exact M.out)).trans (Ext.fM m)
theorem Ej (h:Nat) (F:Nat→Prop) (H:fJ) (n:Nat) (b:List UInt8) (w:World) (hh:HostAt w F h H) (E:H.seen[n]?=some b) (_hl:H.seen.length≤1000) (bb:b.length≤1000) (X:H.gW=false) (Y : -1≤H.fail∧H.fail≤9223372036854775807) :
  Calls Tryz.prog 200 #[.agg #[.pointer (some ⟨h,0,none⟩)],.int .i64 (n:Nat)] w fun e w'=>∃ v,e = .returned (.tuple #[v,.nilIface])∧BytesAt w' v b∧CellsOf w' v 5∧(∀ k,v.ownBlock=some k→w.heap.size≤k)∧HostAt w' F h H.asked∧Ext F w w':=by
 obtain ⟨x,j⟩:=hh
 obtain ⟨g,cap,Q,R,r⟩:=j.seen.get
 obtain ⟨g0,off,u,rfl,G,S⟩:=r n b E
 have l:Below w.heap.size w (w.alloc (.cells #[.pointer (some ⟨h,0,none⟩)] 188)):=(Below.refl _ w).alloc (ah _) _
 have s:=j.frame l.size fun k hk=>l.block k (j.lt k hk)
 have y:=s.dp.row
 have bc:=j.dp.row.lt
 have U:=fL w (.cells #[.pointer (some ⟨h,0,none⟩)] 188)
 have rc:=af _ _ 0 _ _ _ U
 have I:decide (x.fail=0)=false:=by rw [j.fail];exact X
 have Z:=ae (l8 h x _ y (by rw [j.fail];omega) (by rw [j.fail];omega))
 unfold HostIs HV.cells at y
 rw [Q] at y
 have c1:=af _ _ 1 _ _ _ y
 have bi:n<H.seen.length:=(aG.1 E).1
 have bk:¬H.seen.length≤n:=by omega
 have HB:=ae l
 have HX:=ae s
 have aa:=ae I
 have HF:Hid (F h):=ae j.foot.1
 have J:=ae Q
 have HN:=ae E
 have ab:=ae U
 clear j s Q y U l X I Y E r G S R
 go_enter Tryz.func200,Tryz.ntmps200
 go_wp2_with fail
 refine Z.out.mono ?_
 rintro e w1 ⟨rfl,M,ag,m⟩
 rw [aa.out]
 have o:=ae (HX.out.asked M ag m)
 have ak:w.heap.size≠h:=by omega
 have V:=m.at ak ab.out
 have N:Hid (Ext F w w1):=ae ((Ext.fM HB.out).trans (m.mono fun k e=>by rw [e];exact HF.out))
 have d:=o.out.dp.row
 unfold HostIs HV.cells at d
 simp only at d
 rw [J.out] at d
 have d1:=af _ _ 1 _ _ _ d
 have rd:=af _ _ 0 _ _ _ V
 have bl:=fI d
 have bn:=fI V
 obtain ⟨g',cap',O,-,q⟩:=o.out.seen.get
 obtain ⟨al,W,u',e1,ap,B⟩:=q n b HN.out
 have e2:(Value.slice (some ⟨g0,off,none⟩) H.seen.length cap) = .slice g' H.asked.seen.length cap':=J.out.symm.trans O
 obtain ⟨rfl,-,rfl⟩:=Value.slice.inj e2
 obtain ⟨rfl,rfl⟩:g0=al∧off=W:=by cases e1;exact ⟨rfl,rfl⟩
 have aE:=ae B.1
 have bo:=fP ap
 have a7:=N.out.size
 obtain ⟨a2,k2,rfl,-,-⟩:=B.1.opened
 clear rc c1 M m V d O q e1 e2 B
 go_wp2_with (at_builtin;refine kc rfl _ (.tmp 34) rfl w1.heap.size (.slice none 0 0) 0 [] rfl (OwnS.nil _ _ _) (CellsOf.nil _ _) b (by exact aE.out) (by omega) (ah _) ?_;intro v2 w2 i _ C D;obtain ⟨sa,sc,rfl⟩:=i.shape)
 go_ret2
 simp only [aQ,bF] at i C
 refine ⟨.slice sa b.length sc,rfl,i.bytes,C,fun k e => ?_,⟨_,o.out.frame D.size fun k hk=>D.block k (o.out.lt k hk)⟩,N.out.trans (Ext.fM D)⟩
 have:=i.fU k e
 omega
end Go.Proofs.YtkkfmkhbdoeglaaGreatDoor
namespace Go.Proofs.YtkkfmkhbdoeglaaGreatDoor
open Go.RowKit Go.Shelf
theorem EN (h:Nat) (F:Nat→Prop) (H:fJ) (n:Nat) (y:Value) (data:List UInt8) (w:World) (J:HostAt w F h H) (o:BytesAt w y data) (Q:data.length≤64) (V:n<H.seen.length) (_hl:H.seen.length≤1000) (B:H.gW=true) :
  Calls Tryz.prog 202 #[.agg #[.pointer (some ⟨h,0,none⟩)],.int .i64 (n:Nat),y] w fun e w'=>∃ v,e = .returned v∧kF w w' v (n+2)∧HostAt w' F h H.asked∧Ext F w w':=by
 obtain ⟨x,b⟩:=J
 obtain ⟨g,cap,C,-,-⟩:=b.seen.get
 obtain ⟨W,X,rfl,-,-⟩:=o.opened
 have d:Below w.heap.size w (w.alloc (.cells #[.pointer (some ⟨h,0,none⟩)] 188)):=(Below.refl _ w).alloc (ah _) _
 have i:=b.frame d.size fun k hk=>d.block k (b.lt k hk)
 have j:=i.dp.row
 have R:=b.dp.row.lt
 have D:=fL w (.cells #[.pointer (some ⟨h,0,none⟩)] 188)
 have rc:=af _ _ 0 _ _ _ D
 have q:x.fail=0:=by rw [b.fail];simpa [fJ.gW] using B
 have E:=ae (l8 h x _ j (by omega) (by omega))
 unfold HostIs HV.cells at j
 rw [C] at j
 have c1:=af _ _ 1 _ _ _ j
 have M:=ae d
 have N:=ae i
 have G:=ae q
 have O:Hid (F h):=ae b.foot.1
 have S:¬H.seen.length≤n:=by omega
 have U:¬(64:Int)<data.length:=by omega
 clear b i C j D d B q o
 go_enter Tryz.func202,Tryz.ntmps202
 go_wp2_with fail
 refine E.out.mono ?_
 rintro e w1 ⟨rfl,r,s,l⟩
 rw [G.out]
 have u:=ae (N.out.asked r s l)
 have I:=ae l
 clear r l
 go_wp2
 go_ret
 have m:Below w1.heap.size w1 (w1.alloc (.cells #[.int .i64 (n:Int)] 171)):=(Below.refl _ w1).alloc (ah _) _
 refine ⟨_,rfl,⟨_,rfl,dR _,?_⟩,⟨_,u.out.frame m.size fun k hk=>m.block k (u.out.lt k hk)⟩,?_⟩
 ·have h1:=fL w1 (.cells #[.int .i64 (n:Int)] 171)
  rw [s,ax] at h1
  rw [h1,show ((n+2:Nat):Int)-2=(n:Int) by omega]
 ·exact ((Ext.fM M.out).trans (I.out.mono fun k e=>by rw [e];exact O.out)).trans (Ext.fM m)
theorem FK (data:List UInt8) (_hl:data.length≤64):splice (madeCells #[Value.int .u8 0] 64).toList 0 (u8s data)=u8s (ju data):=by
 have e:(madeCells #[Value.int .u8 0] 64).toList=List.replicate 64 (Value.int .u8 0):=ey _ _
 rw [e]
 unfold splice ju
 rw [jV,ch,aQ,bF,iR,List.drop_replicate]
 unfold u8s
 rw [List.map_replicate]
 rfl
theorem C5 (h:Nat) (F:Nat→Prop) (H:fJ) (n:Nat) (f8:Value) (data:List UInt8) (w:World) (hh:HostAt w F h H) (am:BytesAt w f8 data) (cv:∀ k,f8.ownBlock=some k→¬F k) (U:data.length≤64) (hn:n<H.seen.length) (_hl:H.seen.length≤1000) (hf:H.gW=false) (cB : -1≤H.fail∧H.fail≤9223372036854775807) (hw:0≤H.writes∧H.writes≤1000000000000) (e5:H.late.length≤1000000000) :
  Calls Tryz.prog 202 #[.agg #[.pointer (some ⟨h,0,none⟩)],.int .i64 (n:Nat),f8] w fun e w'=>e = .returned .nilIface∧ir w F (fun _=>False) h (H.write n (ju data)).1 w':=by
 obtain ⟨x,r⟩:=hh
 obtain ⟨g,cap,hv,cb,ce⟩:=r.seen.get
 obtain ⟨ga,gb,rfl,-,c2⟩:=am.opened
 have V:Below w.heap.size w (w.alloc (.cells #[.pointer (some ⟨h,0,none⟩)] 188)):=(Below.refl _ w).alloc (ah _) _
 have ap:=r.frame V.size fun k hk=>V.block k (r.lt k hk)
 have H0:=ap.dp.row
 have e6:=r.dp.row.lt
 have R0:=fL w (.cells #[.pointer (some ⟨h,0,none⟩)] 188)
 have rc:=af _ _ 0 _ _ _ R0
 have bt:decide (x.fail=0)=false:=by rw [r.fail];exact hf
 have c3:=ae (l8 h x _ H0 (by rw [r.fail];omega) (by rw [r.fail];omega))
 unfold HostIs HV.cells at H0
 rw [hv] at H0
 have c1:=af _ _ 1 _ _ _ H0
 have e7:¬H.seen.length≤n:=by omega
 have c4:¬(64:Int)<data.length:=by omega
 have HB:=ae V
 have HX:=ae ap
 have c5:=ae bt
 have c6:=ae hf
 have HF:Hid (F h):=ae r.foot.1
 have aE:=ae hv
 have c7:=ae R0
 have c8:=ae am
 have e8:∀ w,(Instr.makeSlice 59 (.int .i64 64) (.int .i64 64)).run Tryz.prog w = .ok (.slice (some ⟨w.heap.size,0,none⟩) 64 64) (w.alloc (.cells (madeCells #[.int .u8 0] 64) 5)):=fun w =>
  run_make_row' 59 5 (.int .u8 0) 1 Tryz.underlying59 (by kernel_rfl) rfl .i64 .i64 64 (by omega) (by omega) w
 clear r ap hv H0 R0 V hf bt cB ce cb am c2
 go_enter Tryz.func202,Tryz.ntmps202
 go_wp2_with fail
 refine c3.out.mono ?_
 rintro e w1 ⟨rfl,bv,a0,W⟩
 rw [c5.out]
 have bw:=ae (HX.out.asked bv a0 W)
 have J:w.heap.size≠h:=by omega
 have bx:=ae (W.at J c7.out)
 have bz:Hid (Ext F w w1):=ae ((Ext.fM HB.out).trans (W.mono fun k e=>by rw [e];exact HF.out))
 clear bv W rc c1
 have a1:w1.heap.size=w.heap.size+1:=by rw [a0];simp
 clear a0
 have cl:Hid (BytesAt w1 (.slice ga data.length gb) data):=ae (fR.frame c8.out fun b e hb=>bz.out.block b hb (cv b e))
 have bD:0<data.length→∃ ad:Addr,ga=some ad∧∀ (j:Nat) (v:Value),(u8s data)[j]?=some v→w1.cell? (ad.add j)=some v:=fun h0=>by
  obtain ⟨a',c',e,-,r⟩:=cl.out.opened
  obtain ⟨rfl,-,rfl⟩:=Value.slice.inj e
  obtain ⟨b,off,rfl,-⟩:=r 0 h0
  refine ⟨_,rfl,fun j v hj => ?_⟩
  obtain ⟨bH,e⟩:=aG.1 hj
  rw [iR] at bH
  obtain ⟨b',eS,e',hc⟩:=r j bH
  cases e'
  rw [eW,hc,←e]
  simp [u8s]
 have bI:=ae bD
 clear bD
 go_wp2_with (with_reducible refine wpList_copy_splice rfl (.tmp 35) (.tmp 36) _ _ rfl 5 Tryz.underlying59 (by kernel_rfl) _ _ _ _ _ _ rfl rfl w1.heap.size 0 (madeCells #[.int .u8 0] 64).toList 5 ?_ (u8s data) ?_ ?_ ?_ ?_ w1.heap.size w1 ?_ (ah _) ?_)
 ·exact fL w1 _
 ·rw [iR]
  exact (Nat.min_eq_left U).symm
 ·intro h0
  rw [iR] at h0
  obtain ⟨ad,e,r⟩:=bI.out h0
  refine ⟨by rw [a1],ad,e,fun j v hj => ?_⟩
  have h1:=r j v hj
  exact (aU (w:=w1) (heap_alloc_old w1 _ (fP h1))).trans h1
 ·rw [ey,iR,bG]
  omega
 ·exact oc data
 ·exact (Below.refl _ w1).alloc (ah _) _
 intro w2 a2 C
 rw [←a1] at C
 rw [FK data U] at a2
 have c9:=ae C
 have m:Hid (gO w2 F h _ _):=ae (bw.out.frame C.size fun k hk=>C.block k (bw.out.lt k hk))
 have X:=ae ((C.block _ (fI bx.out)).trans bx.out)
 have a3:=U
 clear C U c4 bI
 have rc:=af _ _ 0 _ _ _ X.out
 have br:=ae m.out.dp.row.lt
 have l:=m.out.dp.row
 have e9:=fI X.out
 unfold HostIs HV.cells at l
 simp only at l
 have gc:=af _ _ 6 _ _ _ l
 have f6:=ao _ _ 6 _ _ l
 have bL:x.writes=H.writes:=m.out.writes
 rw [bL] at gc
 obtain ⟨vals,bM,a4,bN,da⟩:=m.out.seen
 have E:=bM
 rw [show HV.seen _ = .slice g H.seen.length cap from aE.out] at E a4 bN
 obtain ⟨dc,E⟩:=E
 rcases E with ⟨e,-⟩ | ⟨gs,os,cap',e,-,fb,dk,dl,dn,bO⟩
 ·have ge:=Value.slice.inj e
  omega
 obtain ⟨rfl,-,rfl⟩:=Value.slice.inj e
 rw [show HV.seen _ = .slice (some ⟨gs,os,none⟩) H.seen.length cap from aE.out] at l
 have s1:=af _ _ 1 _ _ _ l
 obtain ⟨sn,fd⟩:=bO n (by show n<cap*1;have:H.asked.seen.length=H.seen.length:=rfl;omega)
 obtain ⟨u0,fg⟩:=cE.1 sn
 clear sn
 obtain ⟨Cg,fi,M⟩:=a4 gs rfl
 have fk:gs≠h:=fun e=>by
  rw [e,l] at M
  cases M
 have dv:gs≠w.heap.size:=fun e=>by
  have h1:=X.out
  rw [←e,M] at h1
  cases h1
 have bP:gs≠w.heap.size+1:=fun e=>by
  have h1:=a2.out
  rw [←e,M] at h1
  cases h1
 have dT:=ae bP
 clear bP
 have fl:=br.out
 have a5:=ae (m.out.row (w1:=w2.setCell ⟨h,6,none⟩ (.int .i64 (H.writes+1))) (x' := {x with fail:=if x.fail<0 then x.fail else x.fail-1,writes:=H.writes+1}) (H' := {H.asked with writes:=H.writes+1})
  (heap_setCell _ _ 6 _ m.out.dp.row) (size_setCell _ _ _) ((Ext.refl _ w2).setCell _ _ (.inl rfl)) ⟨rfl,rfl,rfl,rfl,rfl,rfl⟩ ⟨rfl,rfl,rfl,rfl,rfl,rfl⟩ ⟨m.out.dp.left,m.out.dp.dead,m.out.fail,rfl⟩ m.out.dp.lb)
 obtain ⟨O,a6⟩:∃ O:HV,O = {x with fail:=if x.fail<0 then x.fail else x.fail-1,writes:=H.writes+1} := ⟨_,rfl⟩
 rw [←a6] at a5
 have cr:Hid (O.seen = .slice (some ⟨gs,os,none⟩) H.seen.length cap):=ae (by rw [a6];exact aE.out)
 clear a6
 have a7:Hid ((w2.setCell ⟨h,6,none⟩ (.int .i64 (H.writes+1))).heap[w.heap.size+1]?=some (.cells (u8s (ju data)).toArray 5 (0,0))):=ae ((Below.heap_setCell w2 ⟨h,6,none⟩ _ _ (by show w.heap.size+1≠h;omega)).trans a2.out)
 obtain ⟨q,bS,bX⟩:=a5.out.Dp (w':=(w2.setCell ⟨h,6,none⟩ (.int .i64 (H.writes+1))).setCell ⟨gs,os+n,none⟩ (.slice (some ⟨w.heap.size+1,0,none⟩) 64 64)) (F':=fun k=>F k∨k=w.heap.size+1) (s:=ju data) (n:=n) cr.out hn
  (jd.Cy a7.out (.inr rfl) (mr a3)) (fun k hk => .inl hk) (fun k hk=>by rcases hk with hk | rfl;exact a5.out.lt k hk;exact fI a7.out) rfl
 have d0:=ae q
 have d1:=ae bX
 have fn:=ae bS
 have d2:=ae (nX h _ _ q.dp.row (by have:=q.dp.lb;have:=q.dp.left;omega) (by have:=q.dp.lb;have:=q.dp.left;omega))
 clear q bX bS
 have fo:=m.out.dp.lb
 clear bM da dc dn a4 bN dk dl bO M l bL
 go_wp2_with fail
 refine d2.out.mono ?_
 rintro e w5 ⟨rfl,b0,b1,N⟩
 have D:=ae (d0.out.Dq b0 b1 N)
 have a9:Hid (Ext F w w5):=ae (((((bz.out.trans (Ext.fM c9.out)).setCell ⟨h,6,none⟩ _ (.inl HF.out))).trans (d1.out)).trans (N.mono fun k e=>by rw [e];exact HF.out))
 have Y:=ae (N.at J (by rw [Below.heap_setCell _ _ _ _ (dx dv),Below.heap_setCell _ _ _ _ J];exact X.out))
 have cs:=ae (N.at (b:=w.heap.size+1) (by show w.heap.size+1≠h;omega) (by rw [Below.heap_setCell _ _ _ _ (dx dT.out)];exact a7.out))
 have ba:Hid (∀ k,(F k∨k=w.heap.size+1)→F k∨w.heap.size≤k):=ae fun k hk=>hk.imp id (by omega)
 have b2:Hid (∀ L:List (List UInt8×Nat),(L=if H.dp.stop.dead then H.late else H.late++[(ju data,n)])→(H.write n (ju data)).1 = {{H.asked with writes:=H.writes+1,seen:=H.seen.set n (ju data)} with dp:=H.dp.stop,late:=L}):=ae (fun L e=>by
  unfold fJ.write
  rw [aw (by rw [c6.out];decide),e])
 have b3:Hid (O.stop.dead=H.dp.stop.dead):=ae D.out.dp.dead
 clear b0 N b1
 cases hdd:O.stop.dead with
 | true =>
  go_wp2
  go_ret
  refine ⟨rfl,_,⟨O.stop,?_⟩,ba.out,a9.out.mono fun k e => .inl e⟩
  rw [b2.out H.late (by rw [←b3.out,hdd];rfl)]
  exact D.out
 | false =>
  have l:=D.out.dp.row
  unfold HostIs HV.cells at l
  obtain ⟨lv,Z⟩:∃ lv,lv=O.stop.late:=⟨_,rfl⟩
  rw [←Z] at l
  have f7:=af _ _ 2 _ _ _ l
  have f9:=ao _ _ 2 _ _ l
  have rc:=af _ _ 0 _ _ _ Y.out
  have fp:=fI l
  have eV:=fI Y.out
  clear l
  go_wp2
  obtain ⟨aa,bb,G,B,Q,bc⟩:=D.out.late
  rw [←Z] at G B Q
  have bi:=ae (show w5.heap[h]?=_ from D.out.dp.row)
  have d3:=ae G
  have d4:=ae B
  have ab:=ae Z
  have d5:=ae (B.ne bi.out (by decide))
  have d6:=ae (B.ne Y.out (by decide))
  have d7:=ae bc
  have fr:=ae Q
  have d8:=ae bb
  obtain ⟨la,e0,bk⟩:=G.shape
  have fz:=ae bk
  have hlen:H.late.length+1≤1000000001:=by omega
  have b4:=fun o=>ae (Below.drew (Below.al (Below.rf w5) o))
  have d9:=ae (Gj w5 (n:Int) (.slice (some ⟨w.heap.size+1,0,none⟩) 64 64))
  have b5:=fun o=>ae (show _∧_ from ⟨gr o rc,gr o f7⟩)
  clear G B Q bc bb bk Z
  rw [bR] at rc f7
  simp only [bE,aY] at rc f7
  refine iz (n:=14) (S:=(fun w'=>w'.cell? ⟨w.heap.size,0,none⟩=some (.pointer (some ⟨h,0,none⟩))∧w'.cell? ⟨h,2,none⟩=some lv)) (by kernel_rfl) (by kernel_rfl) rfl (by first | exact ⟨rc,f7⟩ | exact (b5 _).out) ?_
  intro e1
  simp only [cK,cg,cA,cL,bA,ch,bd,bu,bV,aQ,aX]
  refine wpAnyH_take (i:=0) (v := ?_) rfl (by kernel_rfl) (by kernel_rfl) (by kernel_rfl) (fun _ _ _ h=>h) (Or.inl ⟨by rfl,?_⟩) (by assumption) ?_
  rotate_left 1
  ·(intro w d;(try dsimp only at d);go_simp;(try with_reducible rfl))
  try simp only [Act.put,ai,aj]
  refine wpAnyH_take (i:=1) (v := ?_) rfl (by kernel_rfl) (by kernel_rfl) (by kernel_rfl) (fun _ _ _ h=>h) (Or.inl ⟨by rfl,?_⟩) (by assumption) ?_
  rotate_left 1
  ·(intro w d;(try dsimp only at d);go_simp;(try with_reducible rfl))
  try simp only [Act.put,ai,aj,aq]
  refine wpAnyH_take (i:=2) (v := ?_) rfl (by kernel_rfl) (by kernel_rfl) (by kernel_rfl) (fun _ _ _ h=>h) (Or.inl ⟨by rfl,?_⟩) (by assumption) ?_
  rotate_left 1
  ·(intro w d;(try dsimp only at d);go_simp;(try with_reducible rfl))
  try simp only [Act.put,ai,aj,aq]
  refine wpAnyH_take (i:=3) (v := ?_) rfl (by kernel_rfl) (by kernel_rfl) (by kernel_rfl) (fun _ _ _ h=>h) (Or.inl ⟨by rfl,?_⟩) (by assumption) ?_
  rotate_left 1
  ·(intro w d;(try dsimp only at d);go_simp;(try with_reducible rfl))
  try simp only [Act.put,ai,aj,aq]
  refine wpAnyH_take (i:=4) (v := ?_) rfl (by kernel_rfl) (by kernel_rfl) (by kernel_rfl) (fun _ _ _ h=>h) (Or.inl ⟨by rfl,?_⟩) (by assumption) ?_
  rotate_left 1
  ·(intro w d;(try dsimp only at d);go_simp;(try with_reducible rfl))
  try simp only [Act.put,ai,aj,aq]
  refine wpAnyH_take (i:=5) (v := ?_) rfl (by kernel_rfl) (by kernel_rfl) (by kernel_rfl) (fun _ _ _ h=>h) (Or.inl ⟨by rfl,?_⟩) (by assumption) ?_
  rotate_left 1
  ·(intro w d;(try dsimp only at d);go_simp;(try with_reducible rfl))
  try simp only [Act.put,ai,aj,aq]
  refine wpAnyH_take (i:=6) (v := ?_) rfl (by kernel_rfl) (by kernel_rfl) (by kernel_rfl) (fun _ _ _ h=>h) (Or.inl ⟨by rfl,?_⟩) (by assumption) ?_
  rotate_left 1
  ·(intro w d;(try dsimp only at d);go_simp;(try with_reducible rfl))
  try simp only [Act.put,ai,aj,aq]
  refine wpAnyH_take (i:=7) (v := ?_) rfl (by kernel_rfl) (by kernel_rfl) (by kernel_rfl) (fun _ _ _ h=>h) (Or.inl ⟨by rfl,?_⟩) (by assumption) ?_
  rotate_left 1
  ·(intro w d;(try dsimp only at d);go_simp;(try with_reducible rfl))
  try simp only [Act.put,ai,aj,aq]
  refine wpAnyH_take (i:=8) (v := ?_) rfl (by kernel_rfl) (by kernel_rfl) (by kernel_rfl) (fun _ _ _ h=>h) (Or.inl ⟨by rfl,?_⟩) (by assumption) ?_
  rotate_left 1
  ·(intro w d;(try dsimp only at d);go_simp;(try with_reducible rfl))
  try simp only [Act.put,ai,aj,aq]
  refine wpAnyH_take (i:=9) (v := ?_) rfl (by kernel_rfl) (by kernel_rfl) (by kernel_rfl) (fun _ _ _ h=>h) (Or.inl ⟨by rfl,?_⟩) (by assumption) ?_
  rotate_left 1
  ·(intro w d;(try dsimp only at d);go_simp;(try with_reducible rfl))
  try simp only [Act.put,ai,aj,aq]
  refine wpAnyH_ready (rs:=[10]) (by kernel_rfl) (by simp) ?_
  refine AllReadyH.cons rfl ?_ AllReadyH.nil
  intro K' hK'
  go_simp
  refine hK'.out _ _ (by first | exact ⟨rc,f7⟩ | exact (b5 _).out) ?_
  clear hK' K'
  intro e2
  try simp only [ai,aj,aq]
  refine wpAnyH_ready (rs:=[11]) (by kernel_rfl) (by simp) ?_
  refine AllReadyH.cons rfl ?_ AllReadyH.nil
  intro K' hK'
  refine lj rfl (.tmp 64) (.tmp 68) 83 125 2 32 (.agg #[.int .i64 0,.slice none 0 0]) Tryz.underlying83 Ig rfl (by decide) rfl 0 lv H.late.length (rh H.late aa) rfl (by exact d3.out.below (b4 _).out) (by exact d4.out.frame fun b _ hb=>(b4 _).out.block b hb) 1 [.int .i64 (n:Int),.slice (some ⟨w.heap.size+1,0,none⟩) 64 64] (by exact d9.out) (by intro u hu;simp at hu;rcases hu with rfl | rfl <;> rfl) (by omega) (by omega) (aL _) ?_;intro v7 w7 I y bl b6;obtain ⟨bn,R,rfl⟩:=I.shape;have ag:=ae (iJ y d5.out (fQ _ (.cells #[.int .i64 (n:Int),.slice (some ⟨w.heap.size+1,0,none⟩) 64 64] 125) bi.out));have eb:=ae (iJ y d6.out (fQ _ (.cells #[.int .i64 (n:Int),.slice (some ⟨w.heap.size+1,0,none⟩) 64 64] 125) Y.out));refine hK'.out _ _ ⟨af _ _ 0 _ _ _ eb.out,(af _ _ 2 _ _ _ ag.out).trans (by rw [ab.out];rfl)⟩ ?_
  clear hK' K'
  intro e3
  try simp only [Act.put,ai,aj,aq]
  refine wpAnyH_take (i:=12) (v := ?_) rfl (by kernel_rfl) (by kernel_rfl) (by kernel_rfl) (fun _ _ _ h=>h) (Or.inl ⟨by rfl,?_⟩) (by assumption) ?_
  rotate_left 1
  ·(intro w d;(try dsimp only at d);go_simp;(try with_reducible rfl))
  try simp only [Act.put,ai,aj,aq]
  refine wpAnyH_take (i:=13) (v := ?_) rfl (by kernel_rfl) (by kernel_rfl) (by kernel_rfl) (fun _ _ _ h=>h) (Or.inl ⟨by rfl,?_⟩) (by assumption) ?_
  rotate_left 1
  ·(intro w d;(try dsimp only at d);go_simp;(try with_reducible rfl))
  try simp only [Act.put,ai,aj,aq]
  refine wpAnyH_done (by kernel_rfl) ?_ _
  show Oper.wp _ _ _ _ _ _
  have gf:w7.cell? ⟨h,2,none⟩=some lv:=(af _ _ 2 _ _ _ ag.out).trans (by rw [ab.out];rfl)
  have g9:=ao _ _ 2 _ _ ag.out
  have fB:=fI ag.out
  have ec:Hid (Ext (fun k=>lv.ownBlock=some k) w5 w7):=ae ⟨y.os,y.tape,y.output,by have:=y.size;simp at this;omega,fun i hi J=>(y.block i (by simp;omega) (fun e=>J e.symm)).trans (heap_alloc_old _ _ hi)⟩
  have ed:=ae I
  have eg:=ae bl
  have ej:=ae b6
  clear I y bl b6 rc f7 f9
  go_wp2
  go_ret
  have cu:=D.out.GQ (w8:=w7.setCell ⟨h,2,none⟩ (.slice bn (H.late.length+1) R)) (v7 := .slice bn (H.late.length+1) R) (vals:=aa) (u := .slice (some ⟨w.heap.size+1,0,none⟩) 64 64) (s:=ju data) (n:=n) d8.out d7.out ?_ ?_ ed.out eg.out ?_ rfl
  ·obtain ⟨h1,h2⟩:=cu
   have el:HostAt (w7.setCell ⟨h,2,none⟩ (.slice bn (H.late.length+1) R)) _ h (H.write n (ju data)).1:=⟨_,by rw [b2.out (H.late++[(ju data,n)]) (by rw [←b3.out,hdd];rfl)];exact h1⟩
   refine ⟨rfl,_,el,fun k hk => ?_,(a9.out.trans' h2 fun k hk=>ba.out k hk).mono fun k e => .inl e⟩
   rcases hk with hk | hk
   ·exact ba.out k hk
   ·exact .inr (by have:=a9.out.size;omega)
  ·exact jd.Cy cs.out (.inr rfl) (mr a3)
  ·rw [←ab.out]
   exact ec.out
  ·rw [←ab.out]
   exact fun b e=>(ej.out b e).imp id (fun e'=>by rw [e'];simp)
end Go.Proofs.YtkkfmkhbdoeglaaGreatDoor
namespace Go.Proofs.YtkkfmkhbdoeglaaGreatDoor
open Go.RowKit Go.Shelf
theorem oh {α:Type} (b:Nat→Bool):∀ (l:List (α×Nat)) (k:Nat) (d:List α) (x : α×Nat),applySel b k (l++[x]) d=if b (k+l.length) then (applySel b k l d).set x.2 x.1 else applySel b k l d
 | [],k,d,x=>by simp [applySel]
 | y::l,k,d,x=>by
  rw [aX]
  unfold applySel
  rw [oh b l (k+1) _ x,au,show k+(l.length+1)=k+1+l.length by omega]
theorem LateAt.get {w:World} {F:Nat→Prop} {v:Value} {late:List (List UInt8×Nat)} (h:LateAt w F v late):∃ g cap,v = .slice g late.length cap∧late.length≤cap∧∀ (i:Nat) (b:List UInt8×Nat),late[i]?=some b→∃ g0 off u,g=some ⟨g0,off,none⟩∧w.cell? ⟨g0,off+i*2,none⟩=some (.int .i64 (b.2:Int))∧w.cell? ⟨g0,off+i*2+1,none⟩=some u∧jd w F u b.1:=by
 obtain ⟨vals,E,h1,h2,h3,h4⟩:=h
 obtain ⟨hl,g,cap,o,hc,j⟩:=h1.sliceAt
 refine ⟨g,cap,o,hc,fun i b l => ?_⟩
 obtain ⟨u,hu,hs⟩:=h4 i b l
 have key:∀ (late:List (List UInt8×Nat)) (vals:List Value) (i:Nat) (b:List UInt8×Nat) (u:Value),late[i]?=some b→vals[i]?=some u→(rh late vals)[i*2]?=some (.int .i64 (b.2:Int))∧(rh late vals)[i*2+1]?=some u:=by
  intro late
  induction late with
  | nil=>intro vals i b u h;simp at h
  | cons y late ih =>
   intro vals i b u h k
   cases vals with
   | nil=>simp at k
   | cons z vals =>
    have e:rh (y::late) (z::vals) = .int .i64 (y.2:Int)::z::rh late vals:=rfl
    rw [e]
    cases i with
    | zero =>
     simp at h k
     subst h k
     exact ⟨rfl,rfl⟩
    | succ i =>
     have:=ih vals i b u (by simpa using h) (by simpa using k)
     rw [show (i+1)*2=i*2+1+1 by omega,show i*2+1+1+1=(i*2+1)+1+1 by omega]
     simpa using this
 obtain ⟨q,r⟩:=key late vals i b u l hu
 obtain ⟨s,e0⟩:=aG.1 q
 obtain ⟨x,B⟩:=aG.1 r
 obtain ⟨g0,off,m,c0⟩:=j _ s
 obtain ⟨D,C,d,c1⟩:=j _ x
 rw [m] at d
 cases d
 exact ⟨g0,off,u,m,by rw [c0,e0],by rw [aW,c1,B],hs⟩
theorem RowsAt.store {w:World} {F:Nat→Prop} {v:Value} {rows:List (List UInt8)} (h:RowsAt w F v rows) {n:Nat} (j:n<rows.length):∃ gs os cap u0,v = .slice (some ⟨gs,os,none⟩) rows.length cap∧w.cell? ⟨gs,os+n,none⟩=some u0∧w.frozen? ⟨gs,os+n,none⟩=false∧(∃ C fz,w.heap[gs]?=some (.cells C 59 fz))∧F gs:=by
 obtain ⟨vals,h1,h2,h3,h4⟩:=h
 obtain ⟨hl,b⟩:=h1
 rcases b with ⟨e,e0⟩ | ⟨g,off,cap,rfl,-,-,hc,-,l,i⟩
 ·omega
 ·obtain ⟨f1,f2⟩:=i n (by omega)
  obtain ⟨u0,d⟩:=cE.1 f1
  exact ⟨g,off,cap,u0,rfl,d,f2,h2 g rfl,h3 g rfl⟩
theorem LateAt.nil (w:World) (F:Nat→Prop):LateAt w F (.slice none 0 0) []:=⟨[],rfl,OwnS.nil _ _ _,CellsOf.nil _ _,fun k e=>by simp [Value.ownBlock] at e,fun i b h=>by simp at h⟩
theorem DO (h:Nat) (F:Nat→Prop) (H:fJ) (w:World) (E:HostAt w F h H) (s:H.gW=true) :
  Calls Tryz.prog 199 #[.agg #[.pointer (some ⟨h,0,none⟩)]] w fun e w'=>∃ v,e = .returned v∧kF w w' v 1∧HostAt w' F h H.asked∧Ext F w w':=by
 obtain ⟨x,d⟩:=E
 have b:Below w.heap.size w (w.alloc (.cells #[.pointer (some ⟨h,0,none⟩)] 188)):=(Below.refl _ w).alloc (ah _) _
 have i:=d.frame b.size fun k hk=>b.block k (d.lt k hk)
 have u:=i.dp.row
 have M:=d.dp.row.lt
 have y:=fL w (.cells #[.pointer (some ⟨h,0,none⟩)] 188)
 have rc:=af _ _ 0 _ _ _ y
 have m:x.fail=0:=by rw [d.fail];simpa [fJ.gW] using s
 have B:=ae (l8 h x _ u (by omega) (by omega))
 have G:=ae b
 have I:=ae i
 have C:=ae m
 have J:Hid (F h):=ae d.foot.1
 clear d i u y b s m
 go_enter Tryz.func199,Tryz.ntmps199
 go_wp2_with fail
 refine B.out.mono ?_
 rintro e w1 ⟨rfl,o,q,j⟩
 rw [C.out]
 have r:=ae (I.out.asked o q j)
 have D:=ae j
 clear o j
 go_wp2
 go_ret
 have l:Below w1.heap.size w1 (w1.alloc (.cells #[.int .i64 (-1)] 171)):=(Below.refl _ w1).alloc (ah _) _
 refine ⟨_,rfl,⟨_,rfl,dR _,?_⟩,⟨_,r.out.frame l.size fun k hk=>l.block k (r.out.lt k hk)⟩,?_⟩
 ·have h1:=fL w1 (.cells #[.int .i64 (-1)] 171)
  rw [q,ax] at h1
  rw [h1]
  rfl
 ·exact ((Ext.fM G.out).trans (D.out.mono fun k e=>by rw [e];exact J.out)).trans (Ext.fM l)
def Hf (w:World) (F:Nat→Prop) (h:Nat) (x:HV) (H:fJ) (k:Nat) (wr:World):Prop :=
 gO wr F h x {H.asked with dp:=H.dp.stop,held:=applySel (fun _=>true) 0 (H.late.take k) H.held}∧Ext F w wr∧wr.heap[w.heap.size]?=some (.cells #[.pointer (some ⟨h,0,none⟩)] 188 (0,0))
theorem BX (h:Nat) (F:Nat→Prop) (H:fJ) (w:World) (hh:HostAt w F h H) (hf:H.gW=false) (b0 : -1≤H.fail∧H.fail≤9223372036854775807) (c8:H.late.length≤1000000000) (a0:∀ x∈H.late,x.2<H.held.length) (_hhl:H.held.length≤1000) :
  Calls Tryz.prog 199 #[.agg #[.pointer (some ⟨h,0,none⟩)]] w fun e w'=>e = .returned .nilIface∧HostAt w' F h H.flush.1∧Ext F w w':=by
 obtain ⟨x,J⟩:=hh
 have Q:Below w.heap.size w (w.alloc (.cells #[.pointer (some ⟨h,0,none⟩)] 188)):=(Below.refl _ w).alloc (ah _) _
 have S:=J.frame Q.size fun k hk=>Q.block k (J.lt k hk)
 have H0:=S.dp.row
 have U:=J.dp.row.lt
 have R0:=fL w (.cells #[.pointer (some ⟨h,0,none⟩)] 188)
 have rc:=af _ _ 0 _ _ _ R0
 have a1:decide (x.fail=0)=false:=by rw [J.fail];exact hf
 have a2:=ae (l8 h x _ H0 (by rw [J.fail];omega) (by rw [J.fail];omega))
 have HB:=ae Q
 have HX:=ae S
 have b2:=ae a1
 have a3:=ae hf
 have HF:Hid (F h):=ae J.foot.1
 have b3:=ae R0
 have b4:=ae a0
 have a4:w.heap.size≠h:=by omega
 clear J S H0 R0 Q hf a1 b0 a0
 go_enter Tryz.func199,Tryz.ntmps199
 go_wp2_with fail
 refine a2.out.mono ?_
 rintro e w1 ⟨rfl,a5,a6,o⟩
 rw [b2.out]
 have q:=ae (HX.out.asked a5 a6 o)
 have b5:Hid (Ext F w w1):=ae ((Ext.fM HB.out).trans (o.mono fun k e=>by rw [e];exact HF.out))
 have V:=ae (o.at a4 b3.out)
 clear a5 o a6 rc a2
 have rc:=af _ _ 0 _ _ _ V.out
 have b6:=fI V.out
 obtain ⟨B,o⟩:∃ B:HV,B = {x with fail:=if x.fail<0 then x.fail else x.fail-1} := ⟨_,rfl⟩
 rw [←o] at q
 clear o
 have a7:=ae (nX h B w1 q.out.dp.row (by have:=q.out.dp.lb;have:=q.out.dp.left;omega) (by have:=q.out.dp.lb;have:=q.out.dp.left;omega))
 go_wp2_with fail
 refine a7.out.mono ?_
 rintro e w2 ⟨rfl,a9,ba,R⟩
 have M:=ae (q.out.Dq a9 ba R)
 have bb:Hid (Ext F w w2):=ae (b5.out.trans (R.mono fun k e=>by rw [e];exact HF.out))
 have W:=ae (R.at a4 V.out)
 have bc:Hid (B.stop.dead=H.dp.stop.dead):=ae M.out.dp.dead
 clear a9 ba R rc b6 a7
 cases hdd:B.stop.dead with
 | true =>
  go_wp2
  go_ret
  refine ⟨rfl,⟨B.stop,?_⟩,bb.out⟩
  have e:H.flush.1 = {H.asked with dp:=H.dp.stop} := by
   unfold fJ.flush
   rw [aw (by rw [a3.out];decide),aF (by rw [←bc.out,hdd])]
  rw [e]
  exact M.out
 | false =>
  have e:H.flush.1 = {H.asked with dp:=H.dp.stop,held:=applySel (fun _=>true) 0 H.late H.held,late:=[]} := by
   unfold fJ.flush
   rw [aw (by rw [a3.out];decide),aw (by rw [←bc.out,hdd];decide)]
  have b7:=ae e
  clear e
  have d:=M.out.dp.row
  unfold HostIs HV.cells at d
  obtain ⟨la,bz,X,c9,-⟩:=M.out.late.get
  have bi:=ae X
  rw [X] at d
  have am:H.asked.late.length=H.late.length:=rfl
  rw [am] at d
  have c2:=af _ _ 2 _ _ _ d
  have f2:=ao _ _ 2 _ _ d
  have rc:=af _ _ 0 _ _ _ W.out
  have b8:=fI d
  have bD:=fI W.out
  clear d X
  go_wp2
  have ap:Hid (Hf w F h B.stop H 0 w2):=ae ⟨M.out,bb.out,W.out⟩
  clear c2 f2 rc b8 bD
  go_loopw [20] (fun i wr=>∃ k:Nat,k≤H.late.length∧i = .int .i64 (k:Int)∧Hf w F h B.stop H k wr) (fun i _=>H.late.length-(intOf i).toNat)
  case atStart=>exact ⟨0,aL _,rfl,ap.out⟩
  case round =>
   obtain ⟨k,hk,rfl,hrel⟩:=hrel
   obtain ⟨N,bk,D⟩:=hrel
   have l:=ae N
   have bl:=ae bk
   have bo:=ae D
   have d:=N.dp.row
   unfold HostIs HV.cells at d
   have rc:wr.cell? ⟨w.heap.size,0,none⟩=some (.pointer (some ⟨h,0,none⟩)):=af _ _ 0 _ _ _ D
   have bH:=fI D
   have ca:=fI d
   by_cases U:k<H.late.length
   ·obtain ⟨b,hb⟩:∃ b,b=H.late[k]:=⟨_,rfl⟩
    have Y:H.late[k]?=some b:=by rw [hb];exact ay U
    have Z:b.2<H.held.length:=b4.out b (by rw [hb];exact cF U)
    obtain ⟨da,av,aa,-,ab⟩:=N.late.get
    obtain ⟨g0,off,u,rfl,d0,d1,G⟩:=ab k b Y
    have e1:Value.slice la H.asked.late.length bz = .slice (some ⟨g0,off,none⟩) H.late.length av:=bi.out.symm.trans aa
    obtain ⟨rfl,-,rfl⟩:=Value.slice.inj e1
    have hlen:(applySel (fun _=>true) 0 (H.late.take k) H.held).length=H.held.length:=jW _ _ _ _
    obtain ⟨gs,os,cap,u0,ag,s0,sf,⟨Cg,dc,ak⟩,dk⟩:=N.held.store (n:=b.2) (by show _<(applySel (fun _=>true) 0 (H.late.take k) H.held).length;rw [hlen];exact Z)
    have al:B.stop.held = .slice (some ⟨gs,os,none⟩) H.held.length cap:=by rw [←hlen];exact ag
    obtain ⟨r,y,bM,-,-⟩:=G.1.opened
    subst bM
    rw [al] at d
    have c0:wr.cell? ⟨h,0,none⟩=some (.slice (some ⟨gs,os,none⟩) H.held.length cap):=af _ _ 0 _ _ _ d
    have ce:=fP d0
    have bN:=fP s0
    obtain ⟨m,bn⟩:=b
    simp only at Z d0 d1 s0 sf G
    have cf:gs≠w.heap.size:=fun e=>by
     rw [e,D] at ak
     cases ak
    have g1:(k:Int)<H.late.length:=by omega
    have g2:(bn:Int)<H.held.length:=by omega
    have bO:=ae G
    have ci:=ae ag
    have cl:=ae Y
    have bP:=ae hlen
    have co:=ae Z
    clear N bk D d hb Y ab aa e1 hlen ag al G ak
    go_wp2
    have E:Hid (Below wr.heap.size wr (wr.alloc (.cells #[.int .i64 (bn:Int),.slice r m.length y] 125))):=ae ((Below.refl _ wr).alloc (ah _) _)
    have I:=fL wr (.cells #[.int .i64 (bn:Int),.slice r m.length y] 125)
    have cp:=gr (.cells #[.int .i64 (bn:Int),.slice r m.length y] 125) rc
    have cq:=gr (.cells #[.int .i64 (bn:Int),.slice r m.length y] 125) c0
    have br:=gr (.cells #[.int .i64 (bn:Int),.slice r m.length y] 125) s0
    have cr:(wr.alloc (.cells #[.int .i64 (bn:Int),.slice r m.length y] 125)).frozen? ⟨gs,os+bn,none⟩=false:=(cU (w:=wr) (a:=⟨gs,os+bn,none⟩) (heap_alloc_old wr _ bN)).trans sf
    obtain ⟨O,bs⟩:∃ O,O=wr.alloc (.cells #[.int .i64 (bn:Int),.slice r m.length y] 125):=⟨_,rfl⟩
    rw [←bs] at E I cp cq br cr⊢
    have dl:=ae I
    have n0:O.cell? ⟨wr.heap.size,0,none⟩=some (.int .i64 (bn:Int)):=af _ _ 0 _ _ _ I
    have n1:O.cell? ⟨wr.heap.size,1,none⟩=some (.slice r m.length y):=af _ _ 1 _ _ _ I
    have bt:=ae (l.out.frame E.out.size fun k hk=>E.out.block k (l.out.lt k hk))
    have cs:=ae (bl.out.trans (Ext.fM E.out))
    have ct:=ae (fK E.out (fI bo.out) bo.out)
    have dn:gs<O.heap.size:=fP br
    have ds:gs≠wr.heap.size:=by omega
    clear bs rc c0 s0 sf d0 d1 bH ca ce
    go_region
    go_wp2
    have bS:=bt.out.Df (w':=O.setCell ⟨gs,os+bn,none⟩ (.slice r m.length y)) (F':=F) (n:=bn) (s:=m) (u := .slice r m.length y) ci.out (by show bn<(applySel (fun _=>true) 0 (H.late.take k) H.held).length;rw [bP.out];exact co.out)
     (bO.out.fW fun j C fz hj _=>E.out.block j (fI hj)) (fun _ h=>h) bt.out.lt rfl
    obtain ⟨q1,q2,q3⟩:=bS
    have cu:applySel (fun _=>true) 0 (H.late.take (k+1)) H.held=(applySel (fun _=>true) 0 (H.late.take k) H.held).set bn m:=by
     rw [mj _ _ cl.out,oh]
     rfl
    refine ⟨⟨k+1,by omega,by go_num,?_,(cs.out.trans q3).drew,?_⟩,by simp [intOf];omega⟩
    ·have q4:=q1.frame (w':=(O.setCell ⟨gs,os+bn,none⟩ (.slice r m.length y)).drew) (ah _) (fun _ _=>rfl)
     rw [cu]
     exact q4
    ·exact (Below.heap_setCell O ⟨gs,os+bn,none⟩ _ _ (dx cf)).trans ct.out
   ·obtain rfl:k=H.late.length:=by omega
    have g1:¬(H.late.length:Int)<H.late.length:=by omega
    rw [bi.out] at d
    have c2:=af _ _ 2 _ _ _ d
    have f2:=ao _ _ 2 _ _ d
    clear d D
    go_wp2
    go_ret
    have bX:=l.out.Iw (w1:=wr.setCell ⟨h,2,none⟩ (.slice none 0 0)) (x' := {B.stop with late := .slice none 0 0}) (H' := {H.asked with dp:=H.dp.stop,held:=applySel (fun _=>true) 0 H.late H.held,late:=[]})
     (heap_setCell _ _ 2 _ l.out.dp.row) (size_setCell _ _ _) ((Ext.refl _ wr).setCell _ _ (.inl rfl)) ⟨rfl,rfl,rfl,rfl,rfl⟩ ⟨by rw [be],rfl,rfl,rfl,rfl⟩ ⟨l.out.dp.left,l.out.dp.dead,l.out.fail,l.out.writes⟩ l.out.dp.lb (LateAt.nil _ _)
    rw [b7.out]
    exact ⟨rfl,⟨_,bX⟩,bl.out.setCell _ _ (.inl HF.out)⟩
end Go.Proofs.YtkkfmkhbdoeglaaGreatDoor
namespace Go.Proofs.YtkkfmkhbdoeglaaGreatDoor
open Go.RowKit
theorem sI:∀ u:World,(zeroValue 180).run Tryz.prog u = .ok (kP []) u:=fun u=>by kernel_rfl
theorem mX {w:World} {b o r:Nat} {v:Value} {S:List E} (h:w.cell? ⟨b,o,none⟩=some v) (d:TabAt w r S):b≠r:=by
 intro e
 subst e
 obtain ⟨-,L,⟨es,clock,i,-⟩,-⟩:=d
 unfold World.cell? at h
 rw [i] at h
 cases h
theorem iu.yN {w w':World} {v:Value} {os:List OpB} {r:Nat} {S:List E} (h:iu w v os) (l:TabAt w r S) (m:Ext (fun i=>i=r) w w'):iu w' v os:=by
 obtain ⟨hl,a,cap,rfl,hc,d⟩:=h
 refine ⟨hl,a,cap,rfl,hc,fun i o => ?_⟩
 obtain ⟨b,off,rfl,j⟩:=d i o
 exact ⟨b,off,rfl,m.cell (mX j l) j⟩
structure EntAt (w:World) (b off r:Nat) (S:List E):Prop where
 cell:w.cell? ⟨b,off,none⟩=some (.map (some r))
 tab:TabAt w r S
theorem EntAt.lt {w:World} {b off r:Nat} {S:List E} (h:EntAt w b off r S):b<w.heap.size:=fP h.cell
theorem EntAt.ne {w:World} {b off r:Nat} {S:List E} (h:EntAt w b off r S):b≠r:=mX h.cell h.tab
theorem EntAt.below {w w':World} {b off r:Nat} {S:List E} (h:EntAt w b off r S) (d:Below w.heap.size w w'):EntAt w' b off r S :=
 ⟨(d.cell (p:=⟨b,off,none⟩) h.lt).trans h.cell,h.tab.fW (d.block r h.tab.lt)⟩
theorem EntAt.step {w w':World} {b off r:Nat} {S T:List E} (h:EntAt w b off r S) (d:Ext (fun i=>i=r) w w') (j:TabAt w' r T):EntAt w' b off r T:=⟨d.cell h.ne h.cell,j⟩
theorem kX (w:World) :
  Calls Tryz.prog 54 #[] w fun e w'=>e = .returned (.pointer (some ⟨w.heap.size+1,0,none⟩))∧EntAt w' (w.heap.size+1) 0 w.heap.size []∧Below w.heap.size w w'∧w'.heap.size=w.heap.size+2:=by
 have d := @run_makeMap Tryz.prog
 go_enter Tryz.func54,Tryz.ntmps54
 go_wp2
 go_ret
 have b:Below (w.alloc (.map #[] 0)).heap.size (w.alloc (.map #[] 0)) ((w.alloc (.map #[] 0)).alloc (.cells #[.map (some w.heap.size)] 132)):=(Below.refl _ _).alloc (ah _) _
 have hc:=lS (w.alloc (.map #[] 0)) #[.map (some w.heap.size)] 132 (0,0) 0
 rw [ax] at hc
 exact ⟨rfl,⟨hc,(TabAt.new w).fW (b.block _ (by simp))⟩,((Below.refl _ w).alloc (ah _) _).alloc (by simp) _,by simp⟩
def pP (w:World) (r:Nat) (S:List E) (os:List OpB) (i:Value) (wr:World):Prop :=
 ∃ k:Nat,k≤os.length∧i = .int .i64 (k:Int)∧TabAt wr r (foldS S (os.take k))∧Ext (fun i=>i=r) w wr
theorem pP.step {w wr W b:World} {r k:Nat} {S:List E} {os:List OpB} (hk:k<os.length) (d:Ext (fun i=>i=r) w wr) (j:Below wr.heap.size wr W) (l:W.grownBy b (some r)) (m:TabAt b r (Ef (foldS S (os.take k)) os[k])) :
  pP w r S os (.int .i64 ((k+1:Nat):Int)) b.drew :=
 ⟨k+1,hk,rfl,by rw [BZ _ _ _ hk];exact m,((d.qj j).grow l (.inl rfl)).drew⟩
theorem sK (b off r:Nat) (S:List E) (v:Nat) (V:Value) (os:List OpB) (w:World) (he:EntAt w b off r S) (hs:iu w V os) (hlen:os.length≤2932031007402) :
  Calls Tryz.prog 99 #[.pointer (some ⟨b,off,none⟩),.agg #[.int .u64 v,V]] w fun e w'=>e = .returned (.tuple #[])∧TabAt w' r (foldS S os)∧Ext (fun i=>i=r) w w':=by
 obtain ⟨a,cap,rfl,ab,-⟩:=hs.opened
 have s:Below w.heap.size w (w.alloc (.cells #[.int .u64 (v:Int),.slice a os.length cap] 34)):=(Below.refl _ w).alloc (ah _) _
 have J:=ae (he.below s)
 have W:=ae (hs.below s)
 have ag:=he.lt
 have O:Ext (fun i=>i=r) w (w.alloc (.cells #[.int .u64 (v:Int),.slice a os.length cap] 34)):=Ext.fM s
 clear hs he
 go_enter Tryz.func99,Tryz.ntmps99
 go_wp2
 generalize Q:w.alloc (.cells #[.int .u64 (v:Int),.slice a os.length cap] 34)=w0
 rw [Q] at J W O s
 clear Q
 go_loopw [9] (fun i wr=>pP w0 r S os i wr) (fun i _=>os.length-(intOf i).toNat)
 case atStart=>exact ⟨0,aL _,rfl,J.out.tab,Ext.refl _ _⟩
 case round =>
  obtain ⟨k,hk,rfl,d,y⟩:=hrel
  by_cases C:k<os.length
  ·have al:(k:Int)<os.length:=by omega
   have ap:=y.size
   obtain ⟨a',cap',he,-,u⟩:=(W.out.yN J.out.tab y).opened
   cases he
   obtain ⟨ob,oo,rfl,c0,c1,c2,c3⟩:=u k C
   have X:=(J.out.step y d).cell
   have av:=fP X
   have aE:=fP c0
   clear u
   have M:=ae d
   clear d
   obtain ⟨o,R⟩:∃ o,os[k]=o:=⟨_,rfl⟩
   have Y:=ae R
   rw [R] at c0 c1 c2 c3
   clear R
   obtain ⟨D,T,B,N⟩:=o
   have F:Below wr.heap.size wr (wr.alloc (.cells #[.int .i64 D,.int .i64 T,.string ⟨B.toArray⟩,.string ⟨N.toArray⟩] 96)):=(Below.refl _ wr).alloc (ah _) _
   have x:TabAt (wr.alloc (.cells #[.int .i64 D,.int .i64 T,.string ⟨B.toArray⟩,.string ⟨N.toArray⟩] 96)) r (foldS S (os.take k)):=M.out.fW (F.block r M.out.lt)
   by_cases l:D=1
   ·obtain ⟨W1,hu,m,G,Z⟩:=x.put (mt:=107) Tryz.underlying107 (T,B) N
    have aa:(D==1)=true:=by rw [bj];exact l
    have U:Hid (Ef (foldS S (os.take k)) os[k]=jJ (T,B) N (foldS S (os.take k))):=ae (by rw [Y.out];exact aF l)
    have q:=hu 1
    have j:∀ w:World,w.drewN 1=w.drew:=fun _=>rfl
    rw [j,j] at q
    simp only [kV,iX,kP] at q
    have I:=ae m
    clear hu j l x m
    go_wp2
    go_region
    go_wp2
    refine ⟨pP.step C y F G (by rw [U.out];exact I.out),?_⟩
    simp [intOf]
    omega
   ·obtain ⟨W1,hu,m,G,Z⟩:=x.drop (mt:=107) Tryz.underlying107 (T,B) 94 0
    have aa:(D==1)=false:=by rw [aD];exact l
    have U:Hid (Ef (foldS S (os.take k)) os[k]=nQ (T,B) (foldS S (os.take k))):=ae (by rw [Y.out];exact aw l)
    have q:=hu 1
    have j:∀ w:World,w.drewN 1=w.drew:=fun _=>rfl
    rw [j,j] at q
    simp only [kV,iX] at q
    have I:=ae m
    clear hu j l x m
    go_wp2
    go_region
    go_wp2
    refine ⟨pP.step C y F G (by rw [U.out];exact I.out),?_⟩
    simp [intOf]
    omega
  ·obtain rfl:k=os.length:=by omega
   have a0:¬(os.length:Int)<os.length:=by omega
   rw [be] at d
   have M:=ae d
   clear d
   go_wp2
   go_end0
   exact ⟨rfl,M.out,O.trans y⟩
end Go.Proofs.YtkkfmkhbdoeglaaGreatDoor
namespace Go.Proofs.YtkkfmkhbdoeglaaGreatDoor
open Go.RowKit
theorem vI (x:Int) (w:World):Calls Tryz.prog 154 #[.int .i64 x] w fun e w'=>e = .returned (.bool false)∧w=w':=by
 have h:(x != x)=false:=by simp
 go_enter Tryz.func154,Tryz.ntmps154
 go_wp2
 go_ret
 exact ⟨rfl,rfl⟩
theorem vJ (x:List UInt8) (w:World):Calls Tryz.prog 155 #[.string ⟨x.toArray⟩] w fun e w'=>e = .returned (.bool false)∧w=w':=by
 have h:(x==x)=true:=by simp
 go_enter Tryz.func155,Tryz.ntmps155
 go_wp2
 go_ret
 exact ⟨rfl,rfl⟩
def oY (a b:Int):Int:=if a<b then -1 else if b<a then 1 else 0
def pU (a b:List UInt8):Int:=if a<b then -1 else if b<a then 1 else 0
def oA (a b:K):Int:=if oY a.1 b.1≠0 then oY a.1 b.1 else pU a.2 b.2
theorem vk (a b:Int) (w:World):Calls Tryz.prog 133 #[.int .i64 a,.int .i64 b] w fun e w'=>e = .returned (.int .i64 (oY a b))∧w=w':=by
 rcases dS a b with h | h | h
 ·have d:Hid (oY a b = -1):=ae (by unfold oY;rw [aF h])
  go_enter Tryz.func133,Tryz.ntmps133
  go_wp2_with (go_at_call 154;refine (vI _ _).mono ?_;rintro e w' ⟨rfl,rfl⟩)
  go_ret
  exact ⟨by rw [d.out];rfl,rfl⟩
 ·subst h
  have d:Hid (oY a a=0):=ae (by unfold oY;simp)
  go_enter Tryz.func133,Tryz.ntmps133
  go_wp2_with (go_at_call 154;refine (vI _ _).mono ?_;rintro e w' ⟨rfl,rfl⟩)
  go_ret
  exact ⟨by rw [d.out];rfl,rfl⟩
 ·have i:¬a<b:=by omega
  have d:Hid (oY a b=1):=ae (by unfold oY;rw [aw i,aF h])
  go_enter Tryz.func133,Tryz.ntmps133
  go_wp2_with (go_at_call 154;refine (vI _ _).mono ?_;rintro e w' ⟨rfl,rfl⟩)
  go_ret
  exact ⟨by rw [d.out];rfl,rfl⟩
theorem Ii (a b:List UInt8):a<b∨a=b∨b<a:=by
 by_cases h1:a<b
 ·exact .inl h1
 ·by_cases h2:b<a
  ·exact .inr (.inr h2)
  ·exact .inr (.inl (List.le_antisymm (List.not_lt.1 h2) (List.not_lt.1 h1)))
theorem vm (a b:List UInt8) (w:World):Calls Tryz.prog 134 #[.string ⟨a.toArray⟩,.string ⟨b.toArray⟩] w fun e w'=>e = .returned (.int .i64 (pU a b))∧w=w':=by
 rcases Ii a b with h | h | h
 ·have d:Hid (pU a b = -1):=ae (by unfold pU;rw [aF h])
  have i:Op.bytesLess a b=true:=by rw [bytesLess_eq];exact bZ h
  clear h
  go_enter Tryz.func134,Tryz.ntmps134
  go_wp2_with (go_at_call 155;refine (vJ _ _).mono ?_;rintro e w' ⟨rfl,rfl⟩)
  go_ret
  exact ⟨by rw [d.out];rfl,rfl⟩
 ·subst h
  have d:Hid (pU a a=0):=ae (by unfold pU;simp [eQ])
  have i:Op.bytesLess a a=false:=by rw [bytesLess_eq];exact bm (eQ a)
  have hq:(a==a)=true:=eZ a
  go_enter Tryz.func134,Tryz.ntmps134
  go_wp2_with (go_at_call 155;refine (vJ _ _).mono ?_;rintro e w' ⟨rfl,rfl⟩)
  go_ret
  exact ⟨by rw [d.out];rfl,rfl⟩
 ·have h1:¬a<b:=fun j=>eQ a (List.lt_trans j h)
  have h2:a≠b:=fun e=>eQ a (by rw [e] at h⊢;exact h)
  have d:Hid (pU a b=1):=ae (by unfold pU;rw [aw h1,aF h])
  have i:Op.bytesLess a b=false:=by rw [bytesLess_eq];exact bm h1
  have hq:(a==b)=false:=by rw [aD];exact h2
  clear h h1 h2
  go_enter Tryz.func134,Tryz.ntmps134
  go_wp2_with (go_at_call 155;refine (vJ _ _).mono ?_;rintro e w' ⟨rfl,rfl⟩)
  go_ret
  exact ⟨by rw [d.out];rfl,rfl⟩
theorem AD (w:World) (a b c:Obj):(((w.alloc a).alloc b).alloc c).drew=Sort.grow (w.drewN 1) #[a,b,c]:=by
 have h:((w.heap.push a).push b).push c=w.heap++#[a,b,c]:=by
  apply Array.ext'
  simp
 unfold Sort.grow World.alloc World.drew World.drewN
 simp [h]
theorem Ir (B cap:Nat) (x y:Int) (w:World) (r:w.cell? ⟨B,0,none⟩=some (.int .i64 x)) (h1:w.cell? ⟨B,1,none⟩=some (.int .i64 y)) :
  Calls Tryz.prog 132 #[.slice (some ⟨B,0,none⟩) 2 cap] w fun e w'=>e = .returned (.int .i64 (if x≠0 then x else y))∧w=w':=by
 obtain ⟨z,l⟩:∃ z,z=if x≠0 then x else y:=⟨_,rfl⟩
 rw [←l]
 have m:=ae l
 clear l
 go_enter Tryz.func132,Tryz.ntmps132
 go_wp2
 go_loop [8] (fun i=>i = .int .i64 0∨(i = .int .i64 1∧x=0)∨(i = .int .i64 2∧x=0∧y=0)) (fun i=>2-(intOf i).toNat)
 case atStart=>exact .inl rfl
 case round =>
  rcases hrel with rfl | ⟨rfl,b⟩ | ⟨rfl,b,d⟩
  ·by_cases b:x=0
   ·have o:(x != 0)=false:=by simp [b]
    have j:=ae b
    clear b
    go_wp2
    exact ⟨.inr (.inl ⟨rfl,j.out⟩),by simp [intOf]⟩
   ·have o:(x != 0)=true:=by simp [b]
    have HV:Hid (z=x):=ae (by rw [m.out,aF b])
    clear b
    go_wp2
    go_ret
    exact ⟨by rw [HV.out];rfl,rfl⟩
  ·have j:=ae b
   clear b
   by_cases d:y=0
   ·have o:(y != 0)=false:=by simp [d]
    have q:=ae d
    clear d
    go_wp2
    exact ⟨.inr (.inr ⟨rfl,j.out,q.out⟩),by simp [intOf]⟩
   ·have o:(y != 0)=true:=by simp [d]
    have HV:Hid (z=y):=ae (by rw [m.out,aw (by rw [j.out];simp)])
    clear d
    go_wp2
    go_ret
    exact ⟨by rw [HV.out];rfl,rfl⟩
  ·have HV:Hid (z=0):=ae (by rw [m.out,aw (by rw [b];simp),d])
   clear b d
   go_wp2
   go_ret
   exact ⟨by rw [HV.out];rfl,rfl⟩
theorem xS (a b:K) (w:World) :
  Calls Tryz.prog 93 #[.agg #[.int .i64 a.1,.string ⟨a.2.toArray⟩],.agg #[.int .i64 b.1,.string ⟨b.2.toArray⟩]] w fun e w'=>e = .returned (.int .i64 (oA a b))∧∃ q u,w'=Sort.grow (w.drewN q) u:=by
 obtain ⟨at',i⟩:=a
 obtain ⟨d,j⟩:=b
 simp only
 go_enter Tryz.func93,Tryz.ntmps93
 go_wp2
 have x:Below w.heap.size w ((w.alloc (.cells #[.int .i64 at',.string ⟨i.toArray⟩] 94)).alloc (.cells #[.int .i64 d,.string ⟨j.toArray⟩] 94)):=((Below.refl _ w).alloc (ah _) _).alloc (by simp) _
 have r:=fQ _ (.cells #[.int .i64 d,.string ⟨j.toArray⟩] 94) (fL w (.cells #[.int .i64 at',.string ⟨i.toArray⟩] 94))
 have m:=fL (w.alloc (.cells #[.int .i64 at',.string ⟨i.toArray⟩] 94)) (.cells #[.int .i64 d,.string ⟨j.toArray⟩] 94)
 rw [ax] at m
 generalize o:(w.alloc (.cells #[.int .i64 at',.string ⟨i.toArray⟩] 94)).alloc (.cells #[.int .i64 d,.string ⟨j.toArray⟩] 94)=l at *
 have y:=ae o
 clear o x
 have a0:=af _ _ 0 _ _ _ r
 have a1:=af _ _ 1 _ _ _ r
 have b0:=af _ _ 0 _ _ _ m
 have C:=af _ _ 1 _ _ _ m
 clear r m
 refine wp_region_still_tail 10 (by kernel_rfl) (by kernel_rfl) ?_
 simp only [bA,ch,fe,cA]
 repeat still_step
 still_call ((vk _ _ _).mono (fun e B h=>⟨h.1,h.2.symm⟩))
 repeat still_step
 still_call ((vm _ _ _).mono (fun e B h=>⟨h.1,h.2.symm⟩))
 refine wpStill_nil ?_
 clear a0 a1 b0 C
 go_wp2_with fail
 have s:=fL l (.cells #[.int .i64 (oY at' d),.int .i64 (pU i j)] 3)
 refine (Ir l.heap.size 2 (oY at' d) (pU i j) (l.alloc (.cells #[.int .i64 (oY at' d),.int .i64 (pU i j)] 3)).drew (af (l.alloc (.cells #[.int .i64 (oY at' d),.int .i64 (pU i j)] 3)) _ 0 _ _ _ s) (af (l.alloc (.cells #[.int .i64 (oY at' d),.int .i64 (pU i j)] 3)) _ 1 _ _ _ s)).mono ?_
 rintro e w3 ⟨rfl,rfl⟩
 clear s
 rw [show (if oY at' d≠0 then oY at' d else pU i j)=oA (at',i) (d,j) from rfl]
 go_wp2
 go_ret
 refine ⟨rfl,1,#[.cells #[.int .i64 at',.string ⟨i.toArray⟩] 94,.cells #[.int .i64 d,.string ⟨j.toArray⟩] 94,.cells #[.int .i64 (oY at' d),.int .i64 (pU i j)] 3],?_⟩
 rw [←y.out]
 exact AD _ _ _ _
end Go.Proofs.YtkkfmkhbdoeglaaGreatDoor
namespace Go.Proofs.YtkkfmkhbdoeglaaGreatDoor
open Go.Shelf
def Et:Go.Shelf.Ren:=⟨fun | 6=>130 | 15=>153 | 14=>152 | 28=>169 | 29=>170 | 20=>161 | 21=>162 | 22=>163 | 23=>164 | 24=>165 | 25=>166 | 26=>167 | 27=>168 | 46=>171 | 47=>172 | 48=>173 | 49=>174 | 50=>175 | 57=>176 | n=>n,fun | 22=>174 | 24=>94 | 25=>181 | 3=>3 | 39=>193 | 0=>0 | 53=>182 | 55=>26 | 4=>4 | 46=>287 | 45=>286 | 50=>148 | 5=>5 | 9=>9 | 66=>297 | 70=>300 | 76=>302 | 77=>243 | n=>n,fun | n=>n⟩
theorem Hs:Go.Proofs.SlLaysF0.n6 Tryz.prog Et := {
 mixed:=by kernel_rfl
 f6:=⟨Tryz.f130.name,by decide,Tryz.func130.trans (bB some (by kernel_rfl))⟩
 f14:=⟨Tryz.f152.name,by decide,Tryz.func152.trans (bB some (by kernel_rfl))⟩
 f15:=Tryz.func153.trans (bB some (by kernel_rfl))
 f20:=⟨Tryz.f161.name,by decide,Tryz.func161.trans (bB some (by kernel_rfl))⟩
 f21:=⟨Tryz.f162.name,by decide,Tryz.func162.trans (bB some (by kernel_rfl))⟩
 f22:=⟨Tryz.f163.name,by decide,Tryz.func163.trans (bB some (by kernel_rfl))⟩
 f23:=⟨Tryz.f164.name,by decide,Tryz.func164.trans (bB some (by kernel_rfl))⟩
 f24:=⟨Tryz.f165.name,by decide,Tryz.func165.trans (bB some (by kernel_rfl))⟩
 f25:=⟨Tryz.f166.name,by decide,Tryz.func166.trans (bB some (by kernel_rfl))⟩
 f26:=⟨Tryz.f167.name,by decide,Tryz.func167.trans (bB some (by kernel_rfl))⟩
 f27:=⟨Tryz.f168.name,by decide,Tryz.func168.trans (bB some (by kernel_rfl))⟩
 f28:=Tryz.func169.trans (bB some (by kernel_rfl))
 f29:=Tryz.func170.trans (bB some (by kernel_rfl))
 f46:=⟨Tryz.f171.name,by decide,Tryz.func171.trans (bB some (by kernel_rfl))⟩
 f47:=Tryz.func172.trans (bB some (by kernel_rfl))
 f48:=Tryz.func173.trans (bB some (by kernel_rfl))
 f49:=⟨Tryz.f174.name,by decide,Tryz.func174.trans (bB some (by kernel_rfl))⟩
 f50:=⟨Tryz.f175.name,by decide,Tryz.func175.trans (bB some (by kernel_rfl))⟩
 f57:=⟨Tryz.f176.name,by decide,Tryz.func176.trans (bB some (by kernel_rfl))⟩
 t0:=Tryz.underlying0
 a0:=Tryz.isAgg0
 z0:=Tryz.sizeOf0
 v0:=Tryz.zeroValue0
 t3:=Tryz.underlying3
 a3:=Tryz.isAgg3
 z3:=Tryz.sizeOf3
 v3:=Tryz.zeroValue3
 t4:=Tryz.underlying4
 a4:=Tryz.isAgg4
 z4:=Tryz.sizeOf4
 v4:=Tryz.zeroValue4
 t5:=Tryz.underlying5
 a5:=Tryz.isAgg5
 z5:=Tryz.sizeOf5
 v5:=Tryz.zeroValue5
 t9:=Tryz.underlying9
 a9:=Tryz.isAgg9
 z9:=Tryz.sizeOf9
 v9:=Tryz.zeroValue9
 t22:=Tryz.underlying174
 a22:=Tryz.isAgg174
 z22:=Tryz.sizeOf174
 v22:=Tryz.zeroValue174
 t25:=Tryz.underlying181
 a25:=Tryz.isAgg181
 z25:=Tryz.sizeOf181
 v25:=Tryz.zeroValue181
 t39:=Tryz.underlying193
 a39:=Tryz.isAgg193
 z39:=Tryz.sizeOf193
 v39:=Tryz.zeroValue193
 t45:=Tryz.underlying286
 a45:=Tryz.isAgg286
 z45:=Tryz.sizeOf286
 v45:=Tryz.zeroValue286
 t46:=Tryz.underlying287
 a46:=Tryz.isAgg287
 z46:=Tryz.sizeOf287
 v46:=Tryz.zeroValue287
 t50:=Tryz.underlying148
 a50:=Tryz.isAgg148
 z50:=Tryz.sizeOf148
 v50:=Tryz.zeroValue148
 t53:=Tryz.underlying182
 a53:=Tryz.isAgg182
 z53:=Tryz.sizeOf182
 v53:=Tryz.zeroValue182
 t55:=Tryz.underlying26
 a55:=Tryz.isAgg26
 z55:=Tryz.sizeOf26
 v55:=Tryz.zeroValue26
 t66:=Tryz.underlying297
 a66:=Tryz.isAgg297
 z66:=Tryz.sizeOf297
 v66:=Tryz.zeroValue297
 t70:=Tryz.underlying300
 a70:=Tryz.isAgg300
 z70:=Tryz.sizeOf300
 v70:=Tryz.zeroValue300
 t76:=Tryz.underlying302
 a76:=Tryz.isAgg302
 z76:=Tryz.sizeOf302
 v76:=Tryz.zeroValue302
 t77:=Tryz.underlying243
 a77:=Tryz.isAgg243
 z77:=Tryz.sizeOf243
 v77:=Tryz.zeroValue243}
end Go.Proofs.YtkkfmkhbdoeglaaGreatDoor
