/- A part of what is proved here: lemmas and contracts of single functions. No condition but those that each names. -/
import Derived.Test.YtkkfmkhbdoeglaaGreatDoorG00
import Derived.BigRegionIn
import Derived.LoopIn
import Derived.LoopNIn
import Derived.Maps.AppendAt
import Derived.OwnWalkIn
import Derived.RangeFuncBound
import Derived.RangeFuncBox
import Derived.RangeFuncCalls
import Derived.RangeFuncGives
import Derived.RangeFuncLeaves
import Derived.RangeFuncMany
import Derived.RangeFuncNested
import Derived.Shelf.Abstract
import Derived.Shelf.RegionOpen
import Derived.StillTailTactics
import Derived.TacticsInMore
import Derived.WalkKit
import Derived.Test.YtkkfmkhbdoeglaaGreatDoorG02
import Derived.Test.YtkkfmkhbdoeglaaGreatDoorG05
import Derived.Test.YtkkfmkhbdoeglaaGreatDoorG08
import Derived.Test.YtkkfmkhbdoeglaaGreatDoorG09
set_option maxHeartbeats 4000000
set_option maxRecDepth 100000
namespace Go.Proofs.YtkkfmkhbdoeglaaGreatDoor
open Go.RowKit Go.Shelf
attribute [local go_sem] Oper.semAt_some
theorem gm.of_walks {w w':World} {r q:Nat} {l pre:List (K×Value)} (h:gm w r q l pre) (hk:KeepsWalks w w'):gm w' r q l pre:=by
 obtain ⟨zs,d,clock,since,c0,h1,h2,i,b,rest⟩:=h
 exact ⟨zs,d,clock,since,c0,h1,h2,hk.same r _ i rfl,hk.same q _ b rfl,rest⟩
theorem gm.iter_walk {w:World} {r q:Nat} {l pre:List (K×Value)} (h:gm w r q l pre):∃ o:Obj,w.heap[q]?=some o∧o.isWalk=true:=by
 obtain ⟨zs,d,clock,since,c0,h1,h2,i,b,rest⟩:=h
 exact ⟨_,b,rfl⟩
theorem Cm (F:Fence) (n:Nat) (hf:F.fn 131) (O:F.round=none) (hn:1≤n) (j b:Nat) (S:List E) (w:World) (Q:j<w.heap.size) (hm:w.cell? ⟨j,0,none⟩=some (.map (some b))) (ht:TabAt w b S) :
  SeqStopsA F n Tryz.prog 131 #[.pointer (some ⟨j,0,none⟩)] (fun k:K=>#[kV k]) (fun xs=>xs.Perm (S.map (·.1))) (fun _=>True) S.length w:=by
 intro l J Jx W R D a1 hY h0
 obtain ⟨-,L,m,U⟩:=ht
 have s:fS W b L:=m.fW (R.block _ m.lt)
 have a2:W.cell? ⟨j,0,none⟩=some (.map (some b)):=(R.cell (p:=⟨j,0,none⟩) Q).trans hm
 have hlen:L.length=S.length:=by rw [U.length_eq,aH]
 have u:(L.map (·.1)).Perm (S.map (·.1)):=by
  have:=U.map (·.1)
  rw [qH] at this
  exact this
 refine callsIn_of_wp Tryz.func131 rfl hf ?_ O
 try simp only [Tryz.ntmps131,dF,au,aJ,Nat.reduceAdd,Nat.reduceSub,bd,bu,bV,dG,aQ,aX]
 gi_wp2_with (first
  | (gi_at_range;refine oe rfl _ rfl Tryz.underlying107 rfl s ?_;intro w0 G d a3)
  | gi_in)
 try go_frame
 gi_loopw [3] (fun _ wr=>∃ pre,gm wr b W.heap.size L pre∧J (pre.map (·.1)) wr) (fun _ wr=>wr.rangeLeft b W.heap.size)
 case atStart =>
  exact ⟨[],G,D [] W w0 none h0 ⟨d.os,d.tape,d.output,d.size,fun k hk _=>d.block k hk⟩ (fun r e=>by cases e)⟩
 case round =>
  obtain ⟨pre,o,C⟩:=hrel
  gi_wp2_with (first
   | (gi_at_next;refine oN rfl _ rfl rfl o ?_ ?_)
   | gi_in)
  ·intro V
   gi_wp2
   go_end0
   exact ⟨⟨_,rfl⟩,.inl ⟨_,(V.map _).trans u,C⟩⟩
  ·intro x y v w2 hx a4 i X Y a5 a6
   have Z:J (pre.map (·.1)) w2:=D _ wr w2 (some W.heap.size) C X (fun r e=>by cases e;exact ⟨ah _,o.iter_walk⟩)
   have aa:(pre.map (·.1)).length<S.length:=by
    have h1:=i.left
    rw [aH]
    simp at h1
    omega
   have I:J (pre.map (·.1)) (w2.alloc (.cells #[.int .i64 x,.string ⟨y.toArray⟩] 94)):=D _ w2 _ none Z (dH w2 _ none) (fun r e=>by cases e)
   have B:=i.of_walks (KeepsWalks.alloc w2 (.cells #[.int .i64 x,.string ⟨y.toArray⟩] 94))
   obtain ⟨fn,tmps,assign,body,hy,hR⟩:=hY (pre.map (·.1)) (x,y) (w2.alloc (.cells #[.int .i64 x,.string ⟨y.toArray⟩] 94)) I aa
   have hle:=o.left
   have M:=i.left
   simp only [ar,au,aJ] at M
   clear Y
   unfold kV iX at hy
   gi_wp2
   refine hR.mono ?_
   rintro e W3 (⟨rfl,ab,ag⟩ | ⟨rfl,N⟩)
   ·gi_wp2
    have q:=B.of_walks ag
    go_roundw
    case rel=>exact ⟨_,q,by rw [bC];exact ab⟩
    case measure =>
     have:=q.left
     simp only [ar,au,aJ] at this
     omega
   ·gi_wp2
    refine aK (eh rfl _ _ _) rfl ?_
    exact ⟨⟨_,rfl⟩,.inr ⟨_,cM,N⟩⟩
end Go.Proofs.YtkkfmkhbdoeglaaGreatDoor
namespace Go.Proofs.YtkkfmkhbdoeglaaGreatDoor
open Go.RowKit Go.Shelf
attribute [local go_sem] Oper.semAt_some
def il (l:List K):List Value:=l.flatMap fun k=>[.int .i64 k.1,.string ⟨k.2.toArray⟩]
theorem wY (l:List K) (k:K):il (l++[k])=il l++[.int .i64 k.1,.string ⟨k.2.toArray⟩]:=by
 simp [il]
theorem GM:(Tryz.prog.info? 94).map (fun i=>(i.zero,i.size,i.bytes))=some (some (.agg #[.int .i64 0,.string ⟨#[]⟩]),2,24):=by kernel_rfl
theorem cell_two_new (w:World) (x y:Value) (t:TypeId):∀ j u,[x,y][j]?=some u→(w.alloc (.cells #[x,y] t)).cell? ((⟨w.heap.size,0,none⟩:Addr).add j)=some u:=by
 intro j u b
 have:=af (w.alloc (.cells #[x,y] t)) w.heap.size j _ _ _ (fL w (.cells #[x,y] t))
 match j,b with
 | 0,b=>simp at b;subst b;simp [Addr.add,this]
 | 1,b=>simp at b;subst b;simp [Addr.add,this]
 | j+2,b=>simp at b
theorem wP (F:Fence) (n:Nat) (hf:F.fn 151) (y:F.round=none) (hn:3≤n) (gf:Nat) (lb:Array Value) (O:F.fn gf) (eg:∀ args w,(callFunc gf args).run Tryz.prog w = .ok (.enter gf args) w)
  (I Sp:List K→Prop) (N:Nat) (hN:N≤1000000000) (w:World) (J:SeqStopsA F (n-1) Tryz.prog gf lb (fun k:K=>#[kV k]) I Sp N w) (_hSx:∀ xs,I xs→xs.length≤N) :
  CallsIn F n Tryz.prog 151 #[.slice none 0 0,.func (.func gf) #[] lb] w fun e W'=>∃ v xs,e = .returned v∧I xs∧W'.ownsRow w.heap.size 94 2 v xs.length (il xs)∧Below w.heap.size w W':=by
 have h1:1≤n:=by omega
 obtain ⟨i0,hi,Q,R,S⟩:=dP GM
 refine callsIn_of_wp_marks Tryz.func151 rfl hf ?_ y
 try simp only [Tryz.ntmps151,dF,au,aJ,Nat.reduceAdd,Nat.reduceSub,bd,bu,bV,dG,aQ,aX]
 gi_wp2
 have U:=Boxed.new w 174 (.slice none 0 0)
 have j:Below w.heap.size w (w.alloc (.cells #[.slice none 0 0] 174)):=(Below.refl _ w).alloc (ah _) _
 have V:(w.alloc (.cells #[.slice none 0 0] 174)).heap.size=w.heap.size+1:=by simp
 obtain ⟨Z,B⟩:∃ Z,w.alloc (.cells #[.slice none 0 0] 174)=Z:=⟨_,rfl⟩
 rw [B] at U j V⊢
 clear B
 refine wpIn_rangeFunc_ownH y h1 (gf:=gf) (lb:=lb) rfl O eg J walksK_t walksK_b j (fun _=>rfl)
  (fun pre W=>(∃ v,Boxed W w.heap.size 174 v∧W.ownsRow w.heap.size 94 2 v pre.length (il pre)∧True)∧Below w.heap.size w W)
  (fun _ _ _=>False)
  (OwnFrom.and (Own.from (holdsRow_own w.heap.size w.heap.size 174 94 2 (fun pre:List K=>pre.length) il (fun _ _=>True)) _) (ownFrom_below (ah _) (by omega)))
  (fun _ _ _ _ _ hs _ _=>hs)
  ⟨⟨_,U,World.ownsRow_nil _ _ _ _,cM⟩,j⟩
  (fun x M W=>∃ d,w.heap.size<d∧W.heap[d]?=some (.cells #[.int .i64 x.1,.string ⟨x.2.toArray⟩] 94 (0,0))∧M = {tmps:=#[.slice none 0 0,.func (.func gf) #[] lb,.pointer (some ⟨w.heap.size,0,none⟩),undef,.slice none 0 0,.pointer (some ⟨d,0,none⟩),.func (.func gf) #[] lb,.agg #[.int .i64 x.1,.string ⟨x.2.toArray⟩],undef,undef,undef,undef,undef],defers:=[]})
  (fun x M _ X Y row hs hg hr=>by
   obtain ⟨d,h1,h2,h3⟩:=hs
   exact ⟨d,h1,(hg.block d (fI h2) (fun e=>by obtain ⟨-,o,ho,hc⟩:=hr d e.symm;rw [h2] at ho;cases ho;cases hc)).trans h2,h3⟩)
  ?assign ?body ?done ?stop
 case assign =>
  rintro l pre x W K ⟨⟨v1,C,ag,-⟩,E⟩ hK
  unfold kV iX
  gi_wp2
  exact hK _ _ ((KeepsOthers.alloc _ _).from _) (KeepsWalks.alloc _ _) ⟨⟨v1,C.alloc _,ag.alloc _,cM⟩,E.alloc E.size _⟩ ⟨W.heap.size,C.lt,fL W _,rfl⟩
 case body =>
  rintro l pre ⟨kt,kb⟩ M W hl ⟨r,hr⟩ ⟨⟨v,s,b,-⟩,m⟩ ⟨d,a7,bX,rfl⟩ a9
  have hc:=s.cell
  have x0:=af _ _ 0 _ _ _ bX
  have x1:=af _ _ 1 _ _ _ bX
  have ba:=m.size
  have hmx:maxLen=9223372036854775807:=rfl
  gi_wp2_with (gi_at_builtin;refine wpListIn_append_own _ rfl _ _ 174 rfl w.heap.size 94 i0 (.agg #[.int .i64 0,.string ⟨#[]⟩]) 2 24 Tryz.underlying174 hi Q R S rfl (by decide) _ _ _ rfl (b.alloc _) ⟨W.heap.size,0,none⟩ 1 1 [.int .i64 kt,.string ⟨kb.toArray⟩] rfl rfl (cell_two_new _ _ _ _) (by simp [Value.oneCell']) (by omega) (by omega) (by simp;omega) ?_;intro v' w1 i u _;obtain ⟨g',cap',rfl⟩:=ownsRow_succ i;obtain ⟨G,al,am,q,ap⟩:=s.appended (by decide) b m.size (ah _) i u;have bb:=G.cell;have bc:=G.frozen)
  exact ⟨q.from _,⟨q.size,fun k o h hw=>q.same k o h (Obj.not_cells_of_walk hw)⟩,⟨_,al,by rw [wY];simpa using am⟩,m.trans ap⟩
 case done =>
  rintro D ys W hD hS ⟨⟨v,s,b,-⟩,m⟩ hK
  have hc:=s.cell
  gi_wp2
  refine ⟨by simp,.inl ⟨_,_,rfl,run_takeDeferred hK,?_⟩⟩
  exact ⟨_,results_tmp rfl _ _ _,v,ys,rfl,hS,ownsRow_putObj b _ hK rfl,m.trans (belowK_b (w:=w) (ah _) W D _ _ (by omega) hK rfl rfl)⟩
 case stop =>
  rintro D c pre W _ _ h _
  exact h.elim
end Go.Proofs.YtkkfmkhbdoeglaaGreatDoor
namespace Go.Proofs.YtkkfmkhbdoeglaaGreatDoor
open Go.RowKit Go.Shelf Go.Sort
attribute [local go_sem] Oper.semAt_some
def sO (k:K):List Value:=[.int .i64 k.1,.string ⟨k.2.toArray⟩]
theorem oZ (a b:K):ltOf oA a b=nJ a b:=by
 unfold ltOf nJ
 unfold oA oY pU
 rcases dS a.1 b.1 with h | h | h
 ·simp [h]
 ·have h1:¬a.1<b.1:=by omega
  have h2:¬b.1<a.1:=by omega
  by_cases h3:a.2<b.2
  ·simp [h,h3]
  ·by_cases h4:b.2<a.2
   ·simp [h,h3,h4]
   ·simp [h,h3,h4]
 ·have h1:¬a.1<b.1:=by omega
  have h2:¬a.1=b.1:=by omega
  simp [h,h1,h2]
theorem zN:SWO (ltOf oA) where
 irrefl x:=by rw [oZ];exact rF x
 trans x y z h1 h2:=by rw [oZ] at *;exact nl h1 h2
 ntrans x y z h1 h2:=by
  rw [oZ] at *
  cases h:nJ x z with
  | false=>rfl
  | true =>
   rcases uJ y x with e | e | e
   ·rw [nl e h] at h2;cases h2
   ·subst e;rw [h] at h2;cases h2
   ·rw [e] at h1;cases h1
theorem xA (x y:K) (h1:ltOf oA x y=false) (h2:ltOf oA y x=false):x=y:=by
 rw [oZ] at *
 rcases uJ x y with e | e | e
 ·rw [e] at h1;cases h1
 ·exact e
 ·rw [e] at h2;cases h2
theorem k9 (l:List K):(il l).length=l.length*2:=by
 induction l with
 | nil=>rfl
 | cons k l ih=>simp [il] at ih⊢;omega
theorem tR:∀ (l:List K) (t:Nat),t<l.length*2→(il l)[t]?=some ((sO l.toArray[t / 2]!)[t%2]!)
 | [],t,h=>by simp at h
 | k::l,0,_=>by simp [il,sO]
 | k::l,1,_=>by simp [il,sO]
 | k::l,t+2,h=>by
  have ih:=tR l t (by simp at h;omega)
  have e:il (k::l) = .int .i64 k.1 :: .string ⟨k.2.toArray⟩::il l:=rfl
  rw [e,show (t+2) / 2=t / 2+1 by omega,show (t+2)%2=t%2 by omega]
  simp only [aY,ih]
  simp
theorem Aa (l:List K) (t:Nat) (h:t<l.length*2):(il l)[t]?=some (flatK sO 2 l.toArray)[t]!:=by
 rw [tR l t h,get_flatK sO 2 l.toArray t (by simpa using h)]
theorem ux {α:Type} [Inhabited α] (enc : α→List Value) (k:Nat) (w:World) (b off m:Nat) (d:Array α) (os:Array Obj) {i:Nat} (h1:i<w.heap.size) (h2:i≠b):(sortWorldK enc k w b off m d os).heap[i]?=w.heap[i]?:=by
 unfold sortWorldK putRowK putRow mapBlock grow Sort.ahead
 simp only
 rw [eO (by simpa using h1)]
 simp [eJ,dx h2]
theorem uw {α:Type} [Inhabited α] (enc : α→List Value) (k:Nat) (w:World) (b off m base:Nat) (d:Array α) (os:Array Obj) (h:base≤b) (j:base≤w.heap.size):Below base w (sortWorldK enc k w b off m d os) :=
 ⟨rfl,rfl,rfl,size_sortWorldK_c enc k w b off m d os,fun i l=>ux enc k w b off m d os (by omega) (by omega)⟩
theorem wC {α:Type} [Inhabited α] (enc : α→List Value) (k:Nat) (w:World) (b off m:Nat) (d:Array α) (os:Array Obj) {cs:Array Value} {t:TypeId} {fz:Nat×Nat} (h:w.heap[b]?=some (.cells cs t fz)):∃ i,(sortWorldK enc k w b off m d os).heap[b]?=some (.cells i t fz):=by
 have h1:=fI h
 refine ⟨putCells id off (flatK enc k d) cs,?_⟩
 unfold sortWorldK putRowK putRow mapBlock grow Sort.ahead
 simp only
 rw [eO (by simpa using h1)]
 simp [eJ,h,onCells]
def lM (w:World) (v:Value) (l:List K):Prop:=fR w v 2 l.length (il l)∧∀ g,v.ownBlock=some g→∃ cs fz,w.heap[g]?=some (.cells cs 94 fz)
def ug (l:List K):List K:=l.mergeSort fun x y => !(ltOf oA) y x
theorem wB (l:List K):(ug l).Perm l:=List.mergeSort_perm _ _
theorem FZ {l:List K} {S:List E} (hs:SortedE S) (i:l.Perm (S.map (·.1))):ug l=S.map (·.1):=by
 have h1:(ug l).Pairwise fun x y=>(!(ltOf oA) y x)=true:=by
  refine List.pairwise_mergeSort (fun a b c h1 h2 => ?_) (fun a b => ?_) l
  ·simp only [eL] at *
   exact zN.ntrans _ _ _ h2 h1
  ·rw [oZ,oZ]
   cases h:nJ a b with
   | true=>rw [kN h];rfl
   | false=>simp
 have h2:(S.map (·.1)).Pairwise fun x y=>(!(ltOf oA) y x)=true:=by
  refine dE.2 (List.Pairwise.imp (fun {a b} h => ?_) hs)
  rw [oZ,kN h]
  rfl
 refine List.Perm.eq_of_pairwise (fun a b _ _ ha d => ?_) h1 h2 ((wB l).trans i)
 simp only [eL] at ha d
 exact xA a b d ha
theorem y8 (xs:List K) (v:Value) (base:Nat) (w:World) (G:w.ownsRow base 94 2 v xs.length (il xs)) (l:base≤w.heap.size) (Q:xs.length≤1000000000) :
  Calls Tryz.prog 130 #[v,.func (.func 93) #[] #[]] w fun e w'=>e = .returned (.tuple #[])∧lM w' v (ug xs)∧Below base w w':=by
 obtain ⟨hl,⟨rfl,I⟩ | ⟨g,cap,cur,rfl,u,b,R,hc,N,C⟩⟩:=G
 ·obtain rfl:xs=[]:=bK I
  have h:=AnyF.slices_SortFunc_none Hs none 0 (.func (.func 93) #[] #[]) w
  refine Calls.mono (P:=Tryz.prog) h ?_
  rintro e w' ⟨rfl,rfl⟩
  exact ⟨rfl,⟨by have:=fR.nil w' none 2 0;simpa [ug,il] using this,fun g u=>by simp [Value.ownBlock] at u⟩,Below.refl _ _⟩
 ·have d:=fI b
  have hH:HoldsK sO 2 w g 0 xs.toArray:=by
   intro j J
   have r:j<xs.length*2:=by simpa using J
   have hk:=Aa xs j r
   have:cur.toList[j]?=some (flatK sO 2 xs.toArray)[j]!:=by
    rw [←hk,←C,bp r]
   rw [bF]
   exact ⟨by rw [af w g j cur _ _ b,←Array.getElem?_toList,this];rfl,ao w g j _ _ b⟩
  have M:∀ args w,(callFunc 93 args).run Tryz.prog w = .ok (.enter 93 args) w:=enters_of Tryz.func93 (by kernel_rfl) rfl
  have B:CmpLays Tryz.prog 93 #[] sO 2 oA g 0 xs.toArray.size w:=by
   intro m os S O x y
   exact xS x y _
  have h:=AnyQ.slices_SortFunc_total Hs 2 Tryz.isAgg94 Tryz.sizeOf94 sO (fun _=>rfl) (fun x v D=>by simp [sO] at D;rcases D with rfl | rfl <;> rfl) oA zN 93 #[] g 0 cap xs.toArray w M B hH d (by simp;omega) xA
  rw [show xs.toArray.size=xs.length by simp] at h
  refine Calls.mono (P:=Tryz.prog) h ?_
  rintro e w' ⟨rfl,q,os,rfl⟩
  have s:=(wB xs).length_eq
  have E:=holdsK_sortWorldK_c sO 2 w g 0 xs.toArray (ug xs).toArray q os hH d (by simpa using s)
  refine ⟨rfl,⟨⟨by rw [k9],_,cap,by rw [s],by omega,fun i o=>⟨g,0,rfl,?_⟩⟩,fun U F=>by cases F;obtain ⟨cs,h⟩:=wC sO 2 w g 0 q (ug xs).toArray os b;exact ⟨cs,_,h⟩⟩,uw sO 2 w g 0 q base _ os u l⟩
  rw [k9] at o
  have h3:=(E i (by simpa using o)).1
  have h4:=Aa (ug xs) i o
  refine h3.trans ?_
  rw [ay (by rw [k9];exact o)] at h4
  exact h4.symm
theorem zO (gf:Nat) (lb:Array Value) (j:∀ args w,(callFunc gf args).run Tryz.prog w = .ok (.enter gf args) w)
  (d l:List K→Prop) (N:Nat) (q:N≤1000000000) (w:World) (b:∀ n,1≤n→SeqStopsA Fence.wide n Tryz.prog gf lb (fun k:K=>#[kV k]) d l N w) (i:∀ xs,d xs→xs.length≤N) :
  Calls Tryz.prog 129 #[.func (.func gf) #[] lb] w fun e W'=>∃ v xs,e = .returned v∧d xs∧W'.ownsRow w.heap.size 94 2 v xs.length (il xs)∧Below w.heap.size w W':=by
 have r:=ae (callsIn_wide.1 (wP Fence.wide 3 cM rfl (ah _) gf lb cM j d l N q w (b 2 (by omega)) i))
 clear b i j
 go_enter Tryz.func129,Tryz.ntmps129
 go_wp2_with fail
 refine r.out.mono ?_
 rintro e w1 ⟨v,xs,rfl,m,o,s⟩
 have u:=ae o
 have x:=ae m
 clear o m
 go_wp2
 go_ret
 exact ⟨v,xs,rfl,x.out,u.out,s⟩
theorem nI (d b:Nat) (S:List E) (w:World) (q:d<w.heap.size) (hm:w.cell? ⟨d,0,none⟩=some (.map (some b))) (m:TabAt w b S) (D:S.length≤1000000000) :
  Calls Tryz.prog 91 #[.func (.func 131) #[] #[.pointer (some ⟨d,0,none⟩)],.func (.func 93) #[] #[]] w fun e w' =>
   ∃ v,e = .returned v∧lM w' v (S.map (·.1))∧Below w.heap.size w w':=by
 have F:=ae (zO 131 #[.pointer (some ⟨d,0,none⟩)] (enters_of Tryz.func131 (by kernel_rfl) rfl)
  (fun xs=>xs.Perm (S.map (·.1))) (fun _=>True) S.length D w (fun n G=>Cm Fence.wide n cM rfl G d b S w q hm m) (fun xs h=>by rw [h.length_eq,aH];exact ah _))
 have r:=ae m.sorted
 clear m hm
 go_enter Tryz.func91,Tryz.ntmps91
 go_wp2_with fail
 refine F.out.mono ?_
 rintro e w1 ⟨v,xs,rfl,o,s,u⟩
 have x:xs.length=S.length:=by rw [o.length_eq,aH]
 have i:=FZ r.out o
 have y:=u.size
 have j:=ae (y8 xs v w.heap.size w1 s y (by omega))
 rw [i] at j
 clear s o x i
 go_wp2_with fail
 refine j.out.mono ?_
 rintro e w2 ⟨rfl,l,B⟩
 have C:=ae l
 clear l
 go_wp2
 go_ret
 exact ⟨v,rfl,C.out,u.trans B⟩
end Go.Proofs.YtkkfmkhbdoeglaaGreatDoor
namespace Go.Proofs.YtkkfmkhbdoeglaaGreatDoor
open Go.RowKit
section
variable {P:Program} {ops:Array Oper} {md:Region.Mode} {w:World} {nF:Nat}
theorem wI {F:Fence} (hd:F.depth=none) (d:∀ f,F.fn f) (hc:∀ f args w R,Calls P f args w R→CallsIn F (nF-1) P f args w R) (q:∀ (i:Nat) o,ops[i]?=some o→∀ a:Act,o.semAt F.round a.eval=execOp a.eval o)
  {i:Nat} {a:Act} {K:Act→Prop} {j:Act→World→Prop} {Q':Exit→Act→World→Prop} (h:∀ a,K a→j a w) (b:stOp P ops w i K a):wpOpIn F nF P ops Q' i j a w:=by
 unfold stOp at b
 unfold wpOpIn
 split
 ·exact h _ (by simpa [*] using b)
 ·rename_i o l
  simp only [l] at b
  split
  ·rename_i hw
   simp only [hw,dL] at b
   unfold Oper.still at b
   unfold Oper.wpIn
   refine ⟨fun f _=>d f,?_⟩
   rw [q i o l a]
   generalize (execOp a.eval o).run P w=r at b
   cases r with
   | ok x w' =>
    cases x <;> simp only [Oper.stillUpon] at b <;> simp only [Oper.uponIn]
    case enter f args =>
     obtain ⟨rfl,v,m,s⟩:=b
     refine ⟨fun h=>by simp [hd] at h,hc _ _ _ _ (m.mono fun e u ⟨he,hw⟩ => ?_)⟩
     subst he
     subst hw
     exact h _ s
    all_goals (obtain ⟨rfl,h2⟩:=b;exact h _ h2)
   | halt x w'=>simp only [Oper.stillUpon] at b
  ·rename_i hw
   simp only [hw] at b
   exact ⟨fun f _=>d f,h _ b⟩
theorem pM {F:Fence} (hd:F.depth=none) (b:∀ f,F.fn f) (hc:∀ f args w R,Calls P f args w R→CallsIn F (nF-1) P f args w R) (d:∀ (i:Nat) o,ops[i]?=some o→∀ a:Act,o.semAt F.round a.eval=execOp a.eval o)
  {n g:Nat} {L:Array Bool→Act→Prop} {Q':Exit→Act→World→Prop} (j:∀ listed a,L listed a→wpAnyIn F nF P md ops Q' g listed a w) :
  ∀ (f:Nat) (listed:Array Bool) (a:Act),wpAnyL P md ops w n L f listed a→wpAnyIn F nF P md ops Q' (f+g) listed a w
 | 0,listed,a,h=>by rw [bF];exact j _ _ h
 | f+1,listed,a,h=>by
  rw [show f+1+g=(f+g)+1 by omega]
  exact ⟨fun l=>absurd l h.1,fun i m=>wI hd b hc d (fun q r=>pM hd b hc d j f _ q r) (h.2 i m).2⟩
theorem qw {F:Fence} {Q':Exit→Act→World→Prop} : ∀ (l:List Oper) (k:Nat) (listed:Array Bool) (a:Act) (w:World),(∀ j,l[j]?=ops[k+j]?)→
  Region.seqB md ops l.length k listed=true→wpListIn F nF P ops Q' l a w→wpAnyIn F nF P md ops Q' l.length listed a w
 | [],_,_,_,_,_,b,h=>⟨by simpa [Region.seqB] using b,h⟩
 | o::l,k,listed,a,w,hl,b,h=>by
  have q:ops[k]?=some o:=by simpa using (hl 0).symm
  simp only [au,Region.seqB,dN,dj] at b
  refine ⟨fun h1=>(by rw [b.1] at h1;cases h1),fun i d => ?_⟩
  rw [b.1] at d
  have m:i=k:=by simpa using d
  subst m
  have hw:wpOpIn F nF P ops Q' i (wpListIn F nF P ops Q' l) a w:=by unfold wpOpIn;simp only [q];exact h
  exact wpOpIn_mono (fun r w' s=>qw l (i+1) _ r w' (fun j=>by have:=hl (j+1);simpa [aW,Nat.add_comm 1 j] using this) b.2 s) hw
theorem oM {F:Fence} (hd:F.depth=none) (u:∀ f,F.fn f) (hc:∀ f args w R,Calls P f args w R→CallsIn F (nF-1) P f args w R)
  {id:Nat} {Q:Exit→Act→World→Prop} {a:Act} {w:World} {l:List Oper} (n:Nat) (hm:P.follows .mixedOrders=true) (G:∀ (i:Nat) o,l.toArray[i]?=some o→∀ a:Act,o.semAt F.round a.eval=execOp a.eval o) (x:Region.lexTailB .any l.toArray n=true)
  (h:wpStill P l.toArray {w with drawn:=w.drawn+1} (fun m=>wpListIn F nF P l.toArray Q (l.drop n) m {w with drawn:=w.drawn+1}) (l.take n) a):(Code.region id l.toArray true).wpIn F nF P Q a w:=by
 simp only [Region.lexTailB,dN,dj] at x
 obtain ⟨⟨⟨⟨q,y⟩,hs⟩,B⟩,r⟩:=x
 have J:n<l.length:=by simpa using y
 have b:(l.take n).length=n:=by simp;omega
 have d:(l.drop n).length=l.toArray.size-n:=by simp
 have s:HeadInv .any l.toArray n (Array.replicate l.toArray.size false) :=
  ⟨by simp,fun j M _ hl=>(by rw [getD_replicate_false] at hl;cases hl),fun t _ I=>getD_in (by simpa using I) (getD_replicate_false _ _)⟩
 have H:=wpAnyL_lex (md := .any) (g:=l.toArray.size-n) q hs B y (l.take n) 0 _ a (fun j C=>by
  have D:j<n:=by rw [b] at C;exact C
  simp [D]) (by simpa using b) s (by rw [b];exact r) h
 refine wpIn_region_any hm ?_
 have:=pM (nF:=nF) (Q':=Q) (g:=l.toArray.size-n) hd u hc G (fun listed m E=>by
  have:=qw (nF:=nF) (md := .any) (F:=F) (Q':=Q) (l.drop n) n listed m {w with drawn:=w.drawn+1} (fun j=>by simp []) (by rw [d];exact E.1) E.2
  rwa [d] at this) _ _ _ H
 rw [b,show n+(l.toArray.size-n)=l.toArray.size by omega] at this
 exact this
theorem pz {id:Nat} {Q:Exit→Act→World→Prop} {a:Act} {w:World} {l:List Oper} (n:Nat) (hm:P.follows .mixedOrders=true) (b:Region.lexTailB .any l.toArray n=true)
  (h:wpStill P l.toArray {w with drawn:=w.drawn+1} (fun d=>wpListIn Fence.wide nF P l.toArray Q (l.drop n) d {w with drawn:=w.drawn+1}) (l.take n) a):(Code.region id l.toArray true).wpIn Fence.wide nF P Q a w :=
 oM rfl (fun _=>cM) (fun _ _ _ _ h=>callsIn_wide.2 h) n hm (fun _ _ _ _=>rfl) b h
end
end Go.Proofs.YtkkfmkhbdoeglaaGreatDoor
namespace Go.Proofs.YtkkfmkhbdoeglaaGreatDoor
open Go.RowKit Go.Shelf Go.Sort
attribute [local go_sem] Oper.semAt_some
theorem sm:∀ (l:List K) (i:Nat) (h:i<l.length),(il l)[i*2]?=some (.int .i64 l[i].1)∧(il l)[i*2+1]?=some (.string ⟨l[i].2.toArray⟩)
 | k::l,0,_=>⟨rfl,rfl⟩
 | k::l,i+1,h=>by
  have ih:=sm l i (by simpa using h)
  have e:il (k::l) = .int .i64 k.1 :: .string ⟨k.2.toArray⟩::il l:=rfl
  rw [e,show (i+1)*2=i*2+1+1 by omega,show i*2+1+1+1=(i*2+1)+1+1 by omega]
  simpa using ih
theorem lM.opened {w:World} {v:Value} {l:List K} (h:lM w v l) :
  ∃ a cap,v = .slice a l.length cap∧l.length≤cap∧∀ i (h:i<l.length),∃ b off,a=some ⟨b,off,none⟩∧w.cell? ⟨b,off+i*2,none⟩=some (.int .i64 l[i].1)∧w.cell? ⟨b,off+i*2+1,none⟩=some (.string ⟨l[i].2.toArray⟩):=by
 obtain ⟨⟨_,a,cap,rfl,hc,d⟩,-⟩:=h
 refine ⟨a,cap,rfl,hc,fun i m => ?_⟩
 have hl:=k9 l
 obtain ⟨j,h1⟩:=sm l i m
 obtain ⟨b,off,rfl,c0⟩:=d (i*2) (by omega)
 obtain ⟨q,r,o,c1⟩:=d (i*2+1) (by omega)
 cases o
 rw [ay (by omega)] at j h1
 exact ⟨b,off,rfl,c0.trans j,(by rw [←aW] at c1;exact c1.trans h1)⟩
structure gP (x y z:Nat) (W W':World):Prop where
 size:W.heap.size≤W'.heap.size
 three:∀ k,k=x∨k=y∨k=z→W'.heap[k]?=W.heap[k]?
 keys:∀ (k:Nat) (cs:Array Value) (fz:Nat×Nat),W.heap[k]?=some (Obj.cells cs 94 fz)→W'.heap[k]?=some (Obj.cells cs 94 fz)
theorem gP.refl {x y z:Nat} (W:World):gP x y z W W:=⟨ah _,fun _ _=>rfl,fun _ _ _ h=>h⟩
theorem gP.trans {x y z:Nat} {A B C:World} (h:gP x y z A B) (k:gP x y z B C):gP x y z A C :=
 ⟨aI h.size k.size,fun i b=>(k.three i b).trans (h.three i b),fun i cs fz b=>k.keys i cs fz (h.keys i cs fz b)⟩
theorem lM.kept {w w':World} {x y z:Nat} {v:Value} {l:List K} (h:lM w v l) (hk:gP x y z w w'):lM w' v l:=by
 obtain ⟨h1,h2⟩:=h
 refine ⟨h1.frame fun b d _ => ?_,fun g i => ?_⟩
 ·obtain ⟨cs,fz,h⟩:=h2 b d
  rw [h,hk.keys b cs fz h]
 ·obtain ⟨cs,fz,h⟩:=h2 g i
  exact ⟨cs,fz,hk.keys g cs fz h⟩
theorem gP.gw {x y z:Nat} {W W':World} (h:Below W.heap.size W W') (b:x<W.heap.size) (d:y<W.heap.size) (i:z<W.heap.size):gP x y z W W' :=
 ⟨h.size,fun k hk=>h.block k (by rcases hk with rfl | rfl | rfl <;> assumption),fun k cs fz hk=>(h.block k (fI hk)).trans hk⟩
theorem EntAt.kept {w w':World} {x q off r:Nat} {S:List E} (h:EntAt w q off r S) (hk:gP x q r w w'):EntAt w' q off r S :=
 ⟨(aU (a:=⟨q,off,none⟩) (hk.three q (.inr (.inl rfl)))).trans h.cell,h.tab.fW (hk.three r (.inr (.inr rfl)))⟩
theorem pI (s:ByteArray) (w:World):(Instr.field 180 (.agg #[.string s]) 0).run Tryz.prog w = .ok (.string s) w:=by kernel_rfl
theorem rD (r:Nat) (w:World):Calls Tryz.prog 92 #[.map (some r)] w fun e w' =>
  e = .returned (.func (.func 131) #[] #[.pointer (some ⟨w.heap.size,0,none⟩)])∧w'=w.alloc (.cells #[.map (some r)] 107):=by
 go_enter Tryz.func92,Tryz.ntmps92
 go_wp2
 go_ret
 exact ⟨rfl,rfl⟩
theorem nz {β:Type} (f : β→E) (Y:List β) (n:Nat) (b q off r:Nat) (S:List E) (I:Y.map f=S) (w:World) (ba:b<w.heap.size) (hm:w.cell? ⟨b,0,none⟩=some (.pointer (some ⟨q,off,none⟩))) (he:EntAt w q off r S) (hS:S.length≤1000000000) :
  SeqStopsK Fence.wide n Tryz.prog 90 #[.pointer (some ⟨b,0,none⟩)] (fun y : β=>#[kV (f y).1,.string ⟨(f y).2.toArray⟩]) (gP b q r) (fun xs=>xs=Y) (fun pre=>pre <+: Y) S.length w:=by
 intro l J Jx W hW hJ b5 hY h0
 have V:Y.length=S.length:=by rw [←I,aH]
 have bc:=ae I
 have X:=ae V
 clear I V
 have m:=he.below hW
 have Z:W.cell? ⟨b,0,none⟩=some (.pointer (some ⟨q,off,none⟩)):=(hW.cell (p:=⟨b,0,none⟩) ba).trans hm
 have b6:=hW.size
 have a5:b<W.heap.size:=by omega
 have b7:=m.lt
 have b8:=m.tab.lt
 have hc:=m.cell
 have HE:=ae m
 clear he hm m
 have aa:Below W.heap.size W (W.alloc (.cells #[.map (some r)] 107)):=(Below.refl _ W).alloc (ah _) _
 have ab:=ae (nI W.heap.size r S (W.alloc (.cells #[.map (some r)] 107)) (by simp) (af _ _ 0 _ _ _ (fL W (.cells #[.map (some r)] 107))) (HE.out.below aa).tab hS)
 refine callsIn_of_wp Tryz.func90 rfl cM ?_ rfl
 try simp only [Tryz.ntmps90,dF,au,aJ,Nat.reduceAdd,Nat.reduceSub,bd,bu,bV,dG,aQ,aX]
 gi_wp2_with (first
  | (refine ⟨cM,(fun h=>by simp [Fence.wide] at h),(callsIn_wide.2 (rD r W)).mono ?_⟩;rintro e w0 ⟨rfl,rfl⟩)
  | (refine ⟨cM,(fun h=>by simp [Fence.wide] at h),(callsIn_wide.2 ab.out).mono ?_⟩;rintro e w1 ⟨v,rfl,D,ag⟩;obtain ⟨sa,a6,rfl,-,-⟩:=D.opened;rw [aH] at *))
 have d:Below W.heap.size W w1:=aa.trans (ag.mono (by simp))
 have ca:=d.size
 have hmx:S.length≤a6:=by obtain ⟨a',c',e,h,-⟩:=D.opened;obtain ⟨-,-,rfl⟩:=Value.slice.inj e;simpa using h
 have bk:=ae D
 have ak:=ae (HE.out.below d)
 have HJ:=ae hJ
 have bn:Hid (w1.cell? ⟨b,0,none⟩=some (.pointer (some ⟨q,off,none⟩))):=ae ((d.cell (p:=⟨b,0,none⟩) a5).trans Z)
 have al:J [] w1:=hJ [] W w1 none h0 ⟨d.os,d.tape,d.output,d.size,fun k hk _=>d.block k hk⟩ (fun r e=>by cases e)
 clear D hc Z ab ag
 gi_loopw [12] (fun i wr=>∃ k:Nat,k≤S.length∧i = .int .i64 (k:Int)∧gP b q r w1 wr∧J (Y.take k) wr) (fun i _=>S.length-(intOf i).toNat)
 case atStart=>exact ⟨0,aL _,rfl,gP.refl _,al⟩
 case round =>
  clear al
  obtain ⟨k,hk,rfl,o,M⟩:=hrel
  have cb:=o.size
  by_cases N:k<S.length
  ·have g1:(k:Int)<S.length:=by omega
   obtain ⟨ce,bX,e,-,hx⟩:=(bk.out.kept o).opened
   obtain ⟨rfl,-,rfl⟩:=Value.slice.inj e
   obtain ⟨kb,ko,rfl,c0,c1⟩:=hx k (by simpa using N)
   obtain ⟨x,F⟩:∃ x,x=S[k]:=⟨_,rfl⟩
   have O:k<Y.length:=by rw [X.out];exact N
   obtain ⟨y,Q⟩:∃ y,y=Y[k]:=⟨_,rfl⟩
   have am:f y=x:=by rw [Q,F];have h1:=bc.out;subst h1;rw [eY]
   rw [eY,←F] at c0 c1
   obtain ⟨⟨T,B⟩,VB⟩:=x
   simp only at c0 c1
   have R:=ae (ak.out.kept o)
   have hg:jq (T,B) S=some VB:=(nS ak.out.tab.sorted.keys _ _).2 (by rw [F];exact cF N)
   have ap:Y.take (k+1)=Y.take k++[y]:=by rw [Q];exact (List.take_append_getElem O).symm
   have bt:=ae am
   have cf:=ae O
   have av:=ae ap
   have U:wr.cell? ⟨b,0,none⟩=some (.pointer (some ⟨q,off,none⟩)):=(aU (a:=⟨b,0,none⟩) (o.three b (.inl rfl))).trans bn.out
   have aE:=R.out.cell
   have a0:=fP U
   have bv:=fP aE
   have ci:=fP c0
   have s:Below wr.heap.size wr (wr.alloc (.cells #[.int .i64 T,.string ⟨B.toArray⟩] 94)):=(Below.refl _ wr).alloc (ah _) _
   have bw:=ae U
   have bx:=hg
   clear F ap hg hx hk Q am O
   have HG:=ae bx
   gi_wp2
   have C:=fL wr (.cells #[.int .i64 T,.string ⟨B.toArray⟩] 94)
   have bz:(wr.alloc (.cells #[.int .i64 T,.string ⟨B.toArray⟩] 94)).heap.size=wr.heap.size+1:=by simp
   have a1:Hid (J (Y.take k) (wr.alloc (.cells #[.int .i64 T,.string ⟨B.toArray⟩] 94))):=ae (HJ.out _ wr _ none M (dH wr _ none) (fun r e=>by cases e))
   generalize a2:wr.alloc (.cells #[.int .i64 T,.string ⟨B.toArray⟩] 94)=u
   rw [a2] at s C bz a1
   clear a2 c0 c1 U aE
   have a3:=ae (R.out.below s)
   have bD:u.cell? ⟨b,0,none⟩=some (.pointer (some ⟨q,off,none⟩)):=(s.cell (p:=⟨b,0,none⟩) a0).trans bw.out
   have bH:=a3.out.cell
   have bI:=pI ⟨VB.toArray⟩ u.drew
   have j:=TabAt.lookup (w:=u.drew) (a3.out.tab.fW rfl) (mt:=107) Tryz.underlying107 (sI _) (T,B)
   rw [HG.out] at j
   simp only [kV,iX,kP,bT] at j
   have d0:=af _ _ 0 _ _ _ C
   have d1:=af _ _ 1 _ _ _ C
   refine pz 9 (by kernel_rfl) (by kernel_rfl) ?_
   simp only [bA,ch,fe,cA]
   repeat still_step
   refine wpStill_nil ?_
   have bL:J (Y.take k) u.drew:=HJ.out _ u _ none a1.out ⟨rfl,rfl,rfl,ah _,fun _ _ _=>rfl⟩ (fun r e=>by cases e)
   obtain ⟨fn,tmps,assign,body,hy,hR⟩:=hY (Y.take k) y u.drew bL (by rw [aA];omega)
   rw [bt.out] at hy
   simp only [kV,iX] at hy
   have bN:gP b q r w1 u.drew:=o.trans (gP.trans (gP.gw s a0 bv R.out.tab.lt) ⟨ah _,fun _ _=>rfl,fun _ _ _ h=>h⟩)
   clear j d0 d1 bD bH bI
   have cl:wr.heap.size≤u.drew.heap.size:=s.size
   gi_wp2
   refine ⟨(fun h=>by simp [Fence.wide] at h),hR.mono ?_⟩
   rintro e W3 (⟨rfl,bP,bS⟩ | ⟨rfl,a7⟩)
   ·gi_wp2
    have G:∃ k':Nat,k'≤S.length∧Value.int .i64 ((k:Int)+1) = .int .i64 (k':Int)∧gP b q r w1 W3∧J (Y.take k') W3:=⟨k+1,by omega,rfl,bN.trans bS,by rw [av.out];exact bP⟩
    simp only [aH]
    refine ⟨?_,?_⟩
    ·first
      | exact G
      | ((repeat apply Exists.intro);exact ⟨G,rfl⟩)
    ·simp [intOf]
     omega
   ·gi_wp2
    refine aK (eh rfl _ _ _) rfl ?_
    exact ⟨⟨_,rfl⟩,.inr ⟨_,(by rw [←av.out];exact List.take_prefix _ _),a7⟩⟩
  ·obtain rfl:k=S.length:=by omega
   have g1:¬(S.length:Int)<S.length:=by omega
   gi_wp2
   go_end0
   rw [←X.out,be] at M
   exact ⟨⟨_,rfl⟩,.inl M⟩
theorem wV (n:Nat) (b q off r:Nat) (S:List E) (w:World) (d:b<w.heap.size) (hm:w.cell? ⟨b,0,none⟩=some (.pointer (some ⟨q,off,none⟩))) (he:EntAt w q off r S) (i:S.length≤1000000000) :
  SeqStopsK Fence.wide n Tryz.prog 90 #[.pointer (some ⟨b,0,none⟩)] (fun x:E=>#[kV x.1,.string ⟨x.2.toArray⟩]) (gP b q r) (fun xs=>xs=S) (fun pre=>pre <+: S) S.length w :=
 nz id S n b q off r S (List.map_id S) w d hm he i
end Go.Proofs.YtkkfmkhbdoeglaaGreatDoor
namespace Go.Proofs.YtkkfmkhbdoeglaaGreatDoor
open Go.RowKit Go.Shelf Go.Sort
theorem wU (g:Nat) (cb:Array Value) (eg:∀ args w,(callFunc g args).run Tryz.prog w = .ok (.enter g args) w) (d q off r:Nat) (S:List E) (J Jx:List E→World→Prop) (hJ:∀ s A B,J s A→A.grownBy B none→J s B)
  (hG:∀ pre x W1,J pre W1→pre++[x] <+: S→Calls Tryz.prog g (#[kV x.1,.string ⟨x.2.toArray⟩]++cb) W1 fun e W'=>(e = .returned (.bool true)∧J (pre++[x]) W'∧gP d q r W1 W')∨(e = .returned (.bool false)∧Jx (pre++[x]) W'))
  (W:World) (aE:d<W.heap.size) (U:W.cell? ⟨d,0,none⟩=some (.pointer (some ⟨q,off,none⟩))) (m:EntAt W q off r S) (hS:S.length≤1000000000) (h0:J [] W) :
  Calls Tryz.prog 90 #[.func (.func g) #[] cb,.pointer (some ⟨d,0,none⟩)] W fun e W'=>(∃ v,e = .returned v)∧(J S W'∨∃ pre,pre <+: S∧Jx pre W'):=by
 have bP:=m.lt
 have bS:=m.tab.lt
 have hc:=m.cell
 have HE:=ae m
 clear m
 have V:Below W.heap.size W (W.alloc (.cells #[.map (some r)] 107)):=(Below.refl _ W).alloc (ah _) _
 have X:=ae (nI W.heap.size r S (W.alloc (.cells #[.map (some r)] 107)) (by simp) (af _ _ 0 _ _ _ (fL W (.cells #[.map (some r)] 107))) (HE.out.below V).tab hS)
 go_enter Tryz.func90,Tryz.ntmps90
 go_wp2_with (first
  | (go_at_call 92;refine (rD r W).mono ?_;rintro e w0 ⟨rfl,rfl⟩)
  | (go_at_call 91;refine X.out.mono ?_;rintro e w1 ⟨v,rfl,D,Y⟩;obtain ⟨sa,a0,rfl,-,-⟩:=D.opened;rw [aH] at *))
 have b:Below W.heap.size W w1:=V.trans (Y.mono (by simp))
 have bX:=b.size
 have hmx:S.length≤a0:=by obtain ⟨a',c',e,h,-⟩:=D.opened;obtain ⟨-,-,rfl⟩:=Value.slice.inj e;simpa using h
 have a9:=ae D
 have Z:=ae (HE.out.below b)
 have HJ:=ae hJ
 have bb:Hid (w1.cell? ⟨d,0,none⟩=some (.pointer (some ⟨q,off,none⟩))):=ae ((b.cell (p:=⟨d,0,none⟩) aE).trans U)
 have aa:J [] w1:=hJ [] W w1 h0 ⟨b.os,b.tape,b.output,b.size,fun k hk _=>b.block k hk⟩
 clear D hc U X Y
 go_loopw [12] (fun i wr=>∃ k:Nat,k≤S.length∧i = .int .i64 (k:Int)∧gP d q r w1 wr∧J (S.take k) wr) (fun i _=>S.length-(intOf i).toNat)
 case atStart=>exact ⟨0,aL _,rfl,gP.refl _,aa⟩
 case round =>
  clear aa
  obtain ⟨k,hk,rfl,o,I⟩:=hrel
  have b0:=o.size
  by_cases M:k<S.length
  ·have g1:(k:Int)<S.length:=by omega
   obtain ⟨b1,bH,e,-,hx⟩:=(a9.out.kept o).opened
   obtain ⟨rfl,-,rfl⟩:=Value.slice.inj e
   obtain ⟨kb,ko,rfl,c0,c1⟩:=hx k (by simpa using M)
   obtain ⟨x,F⟩:∃ x,x=S[k]:=⟨_,rfl⟩
   rw [eY,←F] at c0 c1
   obtain ⟨⟨T,j⟩,R⟩:=x
   simp only at c0 c1
   have N:=ae (Z.out.kept o)
   have hg:jq (T,j) S=some R:=(nS Z.out.tab.sorted.keys _ _).2 (by rw [F];exact cF M)
   have ab:S.take (k+1)=S.take k++[((T,j),R)]:=by rw [F];exact (List.take_append_getElem M).symm
   have O:=ae ab
   have Q:wr.cell? ⟨d,0,none⟩=some (.pointer (some ⟨q,off,none⟩)):=(aU (a:=⟨d,0,none⟩) (o.three d (.inl rfl))).trans bb.out
   have ag:=N.out.cell
   have ak:=fP Q
   have bk:=fP ag
   have b2:=fP c0
   have u:Below wr.heap.size wr (wr.alloc (.cells #[.int .i64 T,.string ⟨j.toArray⟩] 94)):=(Below.refl _ wr).alloc (ah _) _
   have bl:=ae Q
   have bn:=hg
   clear F ab hg hx hk
   have HG:=ae bn
   go_wp2
   have C:=fL wr (.cells #[.int .i64 T,.string ⟨j.toArray⟩] 94)
   have bo:(wr.alloc (.cells #[.int .i64 T,.string ⟨j.toArray⟩] 94)).heap.size=wr.heap.size+1:=by simp
   have al:Hid (J (S.take k) (wr.alloc (.cells #[.int .i64 T,.string ⟨j.toArray⟩] 94))):=ae (HJ.out _ wr _ I (dH wr _ none))
   generalize am:wr.alloc (.cells #[.int .i64 T,.string ⟨j.toArray⟩] 94)=y
   rw [am] at u C bo al
   clear am c0 c1 Q ag
   have ap:=ae (N.out.below u)
   have br:y.cell? ⟨d,0,none⟩=some (.pointer (some ⟨q,off,none⟩)):=(u.cell (p:=⟨d,0,none⟩) ak).trans bl.out
   have bs:=ap.out.cell
   have bt:=pI ⟨R.toArray⟩ y.drew
   have l:=TabAt.lookup (w:=y.drew) (ap.out.tab.fW rfl) (mt:=107) Tryz.underlying107 (sI _) (T,j)
   rw [HG.out] at l
   simp only [kV,iX,kP,bT] at l
   have d0:=af _ _ 0 _ _ _ C
   have d1:=af _ _ 1 _ _ _ C
   refine wp_region_still_tail 9 (by kernel_rfl) (by kernel_rfl) ?_
   simp only [bA,ch,fe,cA]
   repeat still_step
   refine wpStill_nil ?_
   have bv:J (S.take k) y.drew:=HJ.out _ y _ al.out ⟨rfl,rfl,rfl,ah _,fun _ _ _=>rfl⟩
   have hR:=hG (S.take k) ((T,j),R) y.drew bv (by rw [←O.out];exact List.take_prefix _ _)
   simp only [kV,iX] at hR
   have HR:=ae hR
   clear hR
   have bw:gP d q r w1 y.drew:=o.trans (gP.trans (gP.gw u ak bk N.out.tab.lt) ⟨ah _,fun _ _=>rfl,fun _ _ _ h=>h⟩)
   clear l d0 d1 br bs bt
   have b3:wr.heap.size≤y.drew.heap.size:=u.size
   go_wp2
   refine HR.out.mono ?_
   rintro e W3 (⟨rfl,bz,bD⟩ | ⟨rfl,a2⟩)
   ·go_wp2
    have G:∃ k':Nat,k'≤S.length∧Value.int .i64 ((k:Int)+1) = .int .i64 (k':Int)∧gP d q r w1 W3∧J (S.take k') W3:=⟨k+1,by omega,rfl,bw.trans bD,by rw [O.out];exact bz⟩
    simp only [aH]
    refine ⟨?_,?_⟩
    ·first
      | exact G
      | ((repeat apply Exists.intro);exact ⟨G,rfl⟩)
    ·simp [intOf]
     omega
   ·go_wp2
    refine aK (eh rfl _ _ _) rfl ?_
    exact ⟨⟨_,rfl⟩,.inr ⟨_,(by rw [←O.out];exact List.take_prefix _ _),a2⟩⟩
  ·obtain rfl:k=S.length:=by omega
   have g1:¬(S.length:Int)<S.length:=by omega
   go_wp2
   go_end0
   rw [be] at I
   exact ⟨⟨_,rfl⟩,.inl I⟩
end Go.Proofs.YtkkfmkhbdoeglaaGreatDoor
namespace Go.Proofs.YtkkfmkhbdoeglaaGreatDoor
open Go.RowKit
theorem uF (a c:Int) (b d:List UInt8) (w:World):(binOp .eql 94 (.agg #[.int .i64 a,.string ⟨b.toArray⟩]) (.agg #[.int .i64 c,.string ⟨d.toArray⟩])).run Tryz.prog w = .ok (.bool ((a,b)==(c,d))) w:=by
 have h:=sP (a,b) (c,d) w
 unfold kV iX at h
 simp only [binOp]
 simp [h]
end Go.Proofs.YtkkfmkhbdoeglaaGreatDoor
namespace Go.Proofs.YtkkfmkhbdoeglaaGreatDoor
open Go.RowKit
theorem Fw (a b:Int) (c d:List UInt8) (w:World):(binOp .neq 96 (.agg #[.int .i64 a,.int .i64 b,.string ⟨c.toArray⟩,.string ⟨d.toArray⟩]) (.agg #[.int .i64 a,.int .i64 b,.string ⟨c.toArray⟩,.string ⟨d.toArray⟩])).run Tryz.prog w = .ok (.bool false) w:=by
 have h1:(part 3 #[Value.int .i64 a,.int .i64 b,.string ⟨c.toArray⟩,.string ⟨d.toArray⟩] 0).run Tryz.prog w = .ok (.int .i64 a) w:=cP w (by kernel_rfl) rfl
 have h2:(part 94 #[Value.int .i64 a,.int .i64 b,.string ⟨c.toArray⟩,.string ⟨d.toArray⟩] 1).run Tryz.prog w = .ok (iX b c) w:=by kernel_rfl
 have h3:(part 9 #[Value.int .i64 a,.int .i64 b,.string ⟨c.toArray⟩,.string ⟨d.toArray⟩] 3).run Tryz.prog w = .ok (.string ⟨d.toArray⟩) w:=cP w (by kernel_rfl) rfl
 have i:Tryz.prog.underlying 96=some (.struct (Tryz.prog.fieldsOf 96)):=by kernel_rfl
 have j:Tryz.prog.stoodInHeld 96=false:=by kernel_rfl
 have l:=TypeDesc.struct.inj (Option.some.inj (i.symm.trans Tryz.underlying96))
 have q:∀ m (x y:Int),(Op.equalIn (m+1) 3 (.int .i64 x) (.int .i64 y)).run Tryz.prog w = .ok (x==y) w:=fun m x y=>by simp [Op.equalIn,aN Tryz.underlying3]
 have r:∀ m (x y:ByteArray),(Op.equalIn (m+1) 9 (.string x) (.string y)).run Tryz.prog w = .ok (x==y) w:=fun m x y=>by simp [Op.equalIn,aN Tryz.underlying9]
 have s:∀ n,(Op.equalIn (n+2) 94 (iX b c) (iX b c)).run Tryz.prog w = .ok true w:=by
  intro n
  have g1:(part 3 #[Value.int .i64 b,.string ⟨c.toArray⟩] 0).run Tryz.prog w = .ok (.int .i64 b) w:=cP w (by kernel_rfl) rfl
  have g2:(part 9 #[Value.int .i64 b,.string ⟨c.toArray⟩] 1).run Tryz.prog w = .ok (.string ⟨c.toArray⟩) w:=cP w (by kernel_rfl) rfl
  have i:Tryz.prog.underlying 94=some (.struct (Tryz.prog.fieldsOf 94)):=by kernel_rfl
  have j:Tryz.prog.stoodInHeld 94=false:=by kernel_rfl
  have l:=TypeDesc.struct.inj (Option.some.inj (i.symm.trans Tryz.underlying94))
  unfold iX
  rw [ft w (n+1) 94 _ _ i j,l]
  simp only [Op.eqFields]
  rw [aF (by decide),aF (by decide)]
  have o:((⟨c.toArray⟩:ByteArray)==⟨c.toArray⟩)=true:=(cR _ _).2 rfl
  simp [g1,g2,q,r,o]
 have hd:∀ n,(Op.equalIn (n+3) 96 (.agg #[.int .i64 a,.int .i64 b,.string ⟨c.toArray⟩,.string ⟨d.toArray⟩]) (.agg #[.int .i64 a,.int .i64 b,.string ⟨c.toArray⟩,.string ⟨d.toArray⟩])).run Tryz.prog w = .ok true w:=by
  intro n
  rw [ft w (n+2) 96 _ _ i j,l]
  simp only [Op.eqFields]
  rw [aF (by decide),aF (by decide),aF (by decide)]
  have o:((⟨d.toArray⟩:ByteArray)==⟨d.toArray⟩)=true:=(cR _ _).2 rfl
  simp [h1,h2,h3,q,r,s,o]
 have u:=hd 9997
 simp only [binOp]
 simp [Op.equal,Op.maxDepth,u]
end Go.Proofs.YtkkfmkhbdoeglaaGreatDoor
namespace Go.Proofs.YtkkfmkhbdoeglaaGreatDoor
open Go.RowKit
def entCells (l:List E):List Value:=l.flatMap fun x=>[.int .i64 x.1.1,.string ⟨x.1.2.toArray⟩,.string ⟨x.2.toArray⟩]
theorem wT (l:List E) (x:E):entCells (l++[x])=entCells l++[.int .i64 x.1.1,.string ⟨x.1.2.toArray⟩,.string ⟨x.2.toArray⟩]:=by simp [entCells]
theorem jX (l:List E):(entCells l).length=l.length*3:=by
 induction l with
 | nil=>rfl
 | cons k l ih=>simp [entCells] at ih⊢;omega
theorem tK:∀ (l:List E) (i:Nat) (h:i<l.length),(entCells l)[i*3]?=some (.int .i64 l[i].1.1)∧(entCells l)[i*3+1]?=some (.string ⟨l[i].1.2.toArray⟩)∧(entCells l)[i*3+2]?=some (.string ⟨l[i].2.toArray⟩)
 | k::l,0,_=>⟨rfl,rfl,rfl⟩
 | k::l,i+1,h=>by
  have ih:=tK l i (by simpa using h)
  have e:entCells (k::l) = .int .i64 k.1.1 :: .string ⟨k.1.2.toArray⟩ :: .string ⟨k.2.toArray⟩::entCells l:=rfl
  rw [e,show (i+1)*3=i*3+1+1+1 by omega,show i*3+1+1+1+1=(i*3+1)+1+1+1 by omega,show i*3+1+1+1+2=(i*3+2)+1+1+1 by omega]
  simpa using ih
def ic (w:World) (v:Value) (l:List E):Prop:=fR w v 3 l.length (entCells l)
theorem ic.opened {w:World} {v:Value} {l:List E} (h:ic w v l) :
  ∃ a cap,v = .slice a l.length cap∧l.length≤cap∧∀ i (h:i<l.length),∃ b off,a=some ⟨b,off,none⟩∧w.cell? ⟨b,off+i*3,none⟩=some (.int .i64 l[i].1.1)∧w.cell? ⟨b,off+i*3+1,none⟩=some (.string ⟨l[i].1.2.toArray⟩)∧w.cell? ⟨b,off+i*3+2,none⟩=some (.string ⟨l[i].2.toArray⟩):=by
 obtain ⟨_,a,cap,rfl,hc,d⟩:=h
 refine ⟨a,cap,rfl,hc,fun i m => ?_⟩
 have hl:=jX l
 obtain ⟨j,h1,h2⟩:=tK l i m
 obtain ⟨b,off,rfl,c0⟩:=d (i*3) (by omega)
 obtain ⟨r,s,o,c1⟩:=d (i*3+1) (by omega)
 cases o
 obtain ⟨u,x,q,c2⟩:=d (i*3+2) (by omega)
 cases q
 rw [ay (by omega)] at j h1 h2
 exact ⟨b,off,rfl,c0.trans j,(by rw [aW];exact c1.trans h1),(by rw [aW];exact c2.trans h2)⟩
end Go.Proofs.YtkkfmkhbdoeglaaGreatDoor
namespace Go.Proofs.YtkkfmkhbdoeglaaGreatDoor
open Go.RowKit
theorem pC (l m:List E):entCells (l++m)=entCells l++entCells m:=by simp [entCells]
theorem yD (l:List E):∀ u∈entCells l,u.oneCell'=true:=by
 intro u hu
 obtain ⟨x,-,b⟩:=List.mem_flatMap.1 hu
 simp at b
 rcases b with rfl | rfl | rfl <;> rfl
theorem ic.below {w w':World} {v:Value} {l:List E} (h:ic w v l) (b:Below w.heap.size w w'):ic w' v l:=fR.below h b
theorem OwnS.IH {w:World} {base:Nat} {v:Value} {l:List E} (h:OwnS w base 3 v l.length (entCells l)):ic w v l:=h.sliceAt
end Go.Proofs.YtkkfmkhbdoeglaaGreatDoor
namespace Go.Proofs.YtkkfmkhbdoeglaaGreatDoor
open Go.RowKit
theorem DL (a:Int) (c d:List UInt8) (w:World):(binOp .eql 123 (.agg #[.int .i64 a,.string ⟨c.toArray⟩,.string ⟨d.toArray⟩]) (.agg #[.int .i64 a,.string ⟨c.toArray⟩,.string ⟨d.toArray⟩])).run Tryz.prog w = .ok (.bool true) w:=by
 have h1:(part 3 #[Value.int .i64 a,.string ⟨c.toArray⟩,.string ⟨d.toArray⟩] 0).run Tryz.prog w = .ok (.int .i64 a) w:=cP w (by kernel_rfl) rfl
 have h2:(part 9 #[Value.int .i64 a,.string ⟨c.toArray⟩,.string ⟨d.toArray⟩] 1).run Tryz.prog w = .ok (.string ⟨c.toArray⟩) w:=cP w (by kernel_rfl) rfl
 have h3:(part 9 #[Value.int .i64 a,.string ⟨c.toArray⟩,.string ⟨d.toArray⟩] 2).run Tryz.prog w = .ok (.string ⟨d.toArray⟩) w:=cP w (by kernel_rfl) rfl
 have b:Tryz.prog.underlying 123=some (.struct (Tryz.prog.fieldsOf 123)):=by kernel_rfl
 have j:Tryz.prog.stoodInHeld 123=false:=by kernel_rfl
 have l:=TypeDesc.struct.inj (Option.some.inj (b.symm.trans Tryz.underlying123))
 have o:∀ m (x y:Int),(Op.equalIn (m+1) 3 (.int .i64 x) (.int .i64 y)).run Tryz.prog w = .ok (x==y) w:=fun m x y=>by simp [Op.equalIn,aN Tryz.underlying3]
 have q:∀ m (x y:ByteArray),(Op.equalIn (m+1) 9 (.string x) (.string y)).run Tryz.prog w = .ok (x==y) w:=fun m x y=>by simp [Op.equalIn,aN Tryz.underlying9]
 have hd:∀ n,(Op.equalIn (n+2) 123 (.agg #[.int .i64 a,.string ⟨c.toArray⟩,.string ⟨d.toArray⟩]) (.agg #[.int .i64 a,.string ⟨c.toArray⟩,.string ⟨d.toArray⟩])).run Tryz.prog w = .ok true w:=by
  intro n
  rw [ft w (n+1) 123 _ _ b j,l]
  simp only [Op.eqFields]
  rw [aF (by decide),aF (by decide),aF (by decide)]
  have r:((⟨c.toArray⟩:ByteArray)==⟨c.toArray⟩)=true:=(cR _ _).2 rfl
  have i:((⟨d.toArray⟩:ByteArray)==⟨d.toArray⟩)=true:=(cR _ _).2 rfl
  simp [h1,h2,h3,o,q,r,i]
 have s:=hd 9998
 simp only [binOp]
 simp [Op.equal,Op.maxDepth,s]
def qJ (d:World) (bo bi bn k:Nat) (b:Bool):World:=((d.drew.setCell ⟨bo,0,none⟩ (.bool true)).setCell ⟨bi,0,none⟩ (.int .i64 ((k+1:Nat):Int))).setCell ⟨bn,0,none⟩ (.bool b)
theorem Ak (bo bn bi bl k:Nat) (v:Value) (l:List E) (w:World) (y:w.cell? ⟨bo,0,none⟩=some (.bool true)) (B:w.cell? ⟨bn,0,none⟩=some (.bool false)) (C:w.cell? ⟨bi,0,none⟩=some (.int .i64 (k:Int))) (q:w.cell? ⟨bl,0,none⟩=some v)
  (fo:w.frozen? ⟨bo,0,none⟩=false) (fn:w.frozen? ⟨bn,0,none⟩=false) (D:w.frozen? ⟨bi,0,none⟩=false) (he:ic w v l) (hk:k<l.length) (hl:l.length≤1000000000)
  (h1:bo≠bn) (h2:bo≠bi) (h3:bo≠bl) (h4:bn≠bi) (h5:bn≠bl) (h6:bi≠bl) :
  Calls Tryz.prog 89 #[.agg #[.int .i64 l[k].1.1,.string ⟨l[k].1.2.toArray⟩],.string ⟨l[k].2.toArray⟩,.pointer (some ⟨bo,0,none⟩),.pointer (some ⟨bn,0,none⟩),.pointer (some ⟨bi,0,none⟩),.pointer (some ⟨bl,0,none⟩)] w fun e w' =>
   e = .returned (.bool (!decide (l.length / 2<k+1)))∧
   ∃ m,Hid (m=w.alloc (.cells #[.int .i64 l[k].1.1,.string ⟨l[k].1.2.toArray⟩] 94))∧w'=qJ m bo bi bn k (decide (l.length / 2<k+1)):=by
 obtain ⟨a,cap,rfl,-,F⟩:=he.opened
 obtain ⟨b,o,rfl,c0,c1,c2⟩:=F k hk
 generalize l[k]=x at *
 obtain ⟨⟨T,i⟩,J⟩:=x
 simp only at c0 c1 c2⊢
 clear F he
 go_enter Tryz.func89,Tryz.ntmps89
 go_wp2
 have g1:(k:Int)<l.length:=by omega
 have g0:(0:Int)≤k:=by omega
 have d:Below w.heap.size w (w.alloc (.cells #[.int .i64 T,.string ⟨i.toArray⟩] 94)):=(Below.refl _ w).alloc (ah _) _
 have j:=fL w (.cells #[.int .i64 T,.string ⟨i.toArray⟩] 94)
 have lo:=fP y
 have G:=fP B
 have li:=fP C
 have ll:=fP q
 have lb:=fP c0
 have M:=(d.cell (p:=⟨bo,0,none⟩) lo).trans y
 have N:=(d.cell (p:=⟨bn,0,none⟩) G).trans B
 have O:=(d.cell (p:=⟨bi,0,none⟩) li).trans C
 have Q:=(d.cell (p:=⟨bl,0,none⟩) ll).trans q
 have d0:=(d.cell (p:=⟨b,o+k*3,none⟩) lb).trans c0
 have d1:=(d.cell (p:=⟨b,o+k*3+1,none⟩) lb).trans c1
 have d2:=(d.cell (p:=⟨b,o+k*3+2,none⟩) lb).trans c2
 have R:(w.alloc (.cells #[.int .i64 T,.string ⟨i.toArray⟩] 94)).frozen? ⟨bo,0,none⟩=false:=by
  rw [←fo];exact cU (a:=⟨bo,0,none⟩) (d.block bo lo)
 have S:(w.alloc (.cells #[.int .i64 T,.string ⟨i.toArray⟩] 94)).frozen? ⟨bn,0,none⟩=false:=by
  rw [←fn];exact cU (a:=⟨bn,0,none⟩) (d.block bn G)
 have U:(w.alloc (.cells #[.int .i64 T,.string ⟨i.toArray⟩] 94)).frozen? ⟨bi,0,none⟩=false:=by
  rw [←D];exact cU (a:=⟨bi,0,none⟩) (d.block bi li)
 have W:=af _ _ 0 _ _ _ j
 have X:=af _ _ 1 _ _ _ j
 generalize s:w.alloc (.cells #[.int .i64 T,.string ⟨i.toArray⟩] 94)=m at *
 have u:Hid (m=w.alloc (.cells #[.int .i64 T,.string ⟨i.toArray⟩] 94)):=ae s.symm
 clear s
 clear d j y B C q c0 c1 c2 fo fn D
 have hq:=fun w=>DL T i J w
 refine wp_region_still_tail 24 (by kernel_rfl) (by kernel_rfl) ?_
 simp only [bA,ch,fe,cA]
 repeat still_step
 refine wpStill_nil ?_
 have V:wrap64 ((k:Int)+1)=(k:Int)+1:=IntWalk.wrap64_in _ (by omega)
 cases hd:decide (l.length / 2<k+1) with
 | true =>
  have I:(l.length:Int) / 2<(k:Int)+1:=by have:=dV hd;omega
  have r:=ae hd
  clear hd
  go_wp2
  go_ret
  exact ⟨by rw [r.out];rfl,m,u,by rw [r.out];rfl⟩
 | false =>
  have I:¬(l.length:Int) / 2<(k:Int)+1:=by have:=of_decide_eq_false hd;omega
  have r:=ae hd
  clear hd
  go_wp2
  go_ret
  exact ⟨by rw [r.out];rfl,m,u,by rw [r.out];rfl⟩
end Go.Proofs.YtkkfmkhbdoeglaaGreatDoor
namespace Go.Proofs.YtkkfmkhbdoeglaaGreatDoor
open Go.RowKit Go.Shelf
theorem mN {X:World} {a b:Nat} {t t':TypeId} {u d:Value} (h:Boxed X a t u) (k:Boxed X b t' d) (i:t≠t'):a≠b:=by
 rintro rfl
 have:=(show X.heap[a]?=_ from h).symm.trans k
 cases this
 exact i rfl
structure iG (w:World) (bo bn bi bl D:Nat) (v:Value) (S:List E) (vo vn vi:Value) (X:World):Prop where
 ok:Boxed X bo 4 vo
 no:Boxed X bn 4 vn
 n:Boxed X bi 3 vi
 l:Boxed X bl 43 v
 row:X.ownsRow w.heap.size 123 3 v S.length (entCells S)
 defer:X.heap[D]?=some (.deferred (some []))
 below:Below w.heap.size w X
 ne:bo≠bn
 lo:w.heap.size≤bo∧w.heap.size≤bn∧w.heap.size≤bi
section
variable {w:World} {bo bn bi bl D:Nat} {v:Value} {S:List E} {vo vn vi:Value} {A B:World}
theorem iG.grown (h:iG w bo bn bi bl D v S vo vn vi A) (b:A.grownBy B none):iG w bo bn bi bl D v S vo vn vi B :=
 ⟨h.ok.kept b (by simp),h.no.kept b (by simp),h.n.kept b (by simp),h.l.kept b (by simp),h.row.kept b (by
  rcases h.row.2 with ⟨rfl,_⟩ | ⟨g,cap,cur,rfl,_⟩
  ·exact .inl rfl
  ·exact .inr (by simp [Value.ownBlock])),(b.block D (fI h.defer) (by simp)).trans h.defer,h.below.grown b h.below.size (fun k e=>by cases e),h.ne,h.lo⟩
theorem iG.Ik {t:TypeId} {u:Value} {b:Nat} (h:iG w bo bn bi bl D v S vo vn vi A) (d:Boxed A b t u):D≠b:=by
 rintro rfl
 have:=h.defer.symm.trans d
 cases this
theorem iG.I8 (h:iG w bo bn bi bl D v S vo vn vi A) (u:Value):iG w bo bn bi bl D v S u vn vi (A.setCell ⟨bo,0,none⟩ u):=by
 have b:=grownBy_setCell' A bo u
 exact ⟨h.ok.set u,h.no.kept b (by simpa using h.ne.symm),h.n.kept b (by simpa using mN h.n h.ok (by decide)),h.l.kept b (by simpa using mN h.l h.ok (by decide)),
  h.row.kept b (.inr (h.ok.not_row (by decide) h.row).symm),(Below.heap_setCell _ _ _ D (h.Ik h.ok)).trans h.defer,h.below.setCell (p:=⟨bo,0,none⟩) h.lo.1 u,h.ne,h.lo⟩
theorem iG.I7 (h:iG w bo bn bi bl D v S vo vn vi A) (u:Value):iG w bo bn bi bl D v S vo u vi (A.setCell ⟨bn,0,none⟩ u):=by
 have b:=grownBy_setCell' A bn u
 exact ⟨h.ok.kept b (by simpa using h.ne),h.no.set u,h.n.kept b (by simpa using mN h.n h.no (by decide)),h.l.kept b (by simpa using mN h.l h.no (by decide)),
  h.row.kept b (.inr (h.no.not_row (by decide) h.row).symm),(Below.heap_setCell _ _ _ D (h.Ik h.no)).trans h.defer,h.below.setCell (p:=⟨bn,0,none⟩) h.lo.2.1 u,h.ne,h.lo⟩
theorem iG.Ix (h:iG w bo bn bi bl D v S vo vn vi A) (u:Value):iG w bo bn bi bl D v S vo vn u (A.setCell ⟨bi,0,none⟩ u):=by
 have b:=grownBy_setCell' A bi u
 exact ⟨h.ok.kept b (by simpa using mN h.ok h.n (by decide)),h.no.kept b (by simpa using mN h.no h.n (by decide)),h.n.set u,h.l.kept b (by simpa using mN h.l h.n (by decide)),
  h.row.kept b (.inr (h.n.not_row (by decide) h.row).symm),(Below.heap_setCell _ _ _ D (h.Ik h.n)).trans h.defer,h.below.setCell (p:=⟨bi,0,none⟩) h.lo.2.2 u,h.ne,h.lo⟩
end
theorem tL {X:World} {base:Nat} {v:Value} {S:List E} (h:X.ownsRow base 123 3 v S.length (entCells S)):ic X v S:=by
 obtain ⟨hl,⟨rfl,m⟩ | ⟨g,cap,cur,rfl,r,d,o,hc,q,j⟩⟩:=h
 ·obtain rfl:S=[]:=bK m
  exact fR.nil X none 3 0
 ·refine ⟨hl,_,cap,rfl,o,fun i b=>⟨g,0,rfl,?_⟩⟩
  have l:i<S.length*3:=by rw [hl] at b;exact b
  rw [bF,af X g i cur _ _ d,←Array.getElem?_toList,←ay b,←j,bp l]
theorem CD {X:World} {base:Nat} {v:Value} {n:Nat} {xs:List Value} (h:X.ownsRow base 123 3 v n xs):∀ k,v.ownBlock=some k→base≤k:=by
 obtain ⟨hl,⟨rfl,l⟩ | ⟨g,cap,cur,rfl,b,d,m,hc,i,j⟩⟩:=h
 ·intro k e;simp [Value.ownBlock] at e
 ·intro k e
  cases e
  exact b
theorem sq (X:World) (o:Obj) (bo bi bn k:Nat) (b:Bool) (j:Nat) (d:j<X.heap.size) (h1:j≠bo) (h2:j≠bi) (h3:j≠bn):(qJ (X.alloc o) bo bi bn k b).heap[j]?=X.heap[j]?:=by
 unfold qJ
 rw [Below.heap_setCell _ _ _ j h3,Below.heap_setCell _ _ _ j h2,Below.heap_setCell _ _ _ j h1]
 exact ((Below.refl X.heap.size X).alloc (ah _) o).block j d
theorem yR (X:World) (o:Obj) (bo bi bn k:Nat) (b:Bool):(qJ (X.alloc o) bo bi bn k b).heap.size=X.heap.size+1:=by
 unfold qJ
 rw [size_setCell,size_setCell,size_setCell]
 exact ax X o
theorem iG.call {w:World} {bo bn bi bl D:Nat} {v:Value} {S pre:List E} {x:E} {X:World} {i q r:Nat} (h:iG w bo bn bi bl D v S (.bool true) (.bool false) (.int .i64 (pre.length:Int)) X) (m:pre++[x] <+: S) (o:S.length≤1000000000)
  (h1:i<w.heap.size) (h2:q<w.heap.size) (h3:r<w.heap.size) :
  Calls Tryz.prog 89 (#[kV x.1,.string ⟨x.2.toArray⟩]++#[.pointer (some ⟨bo,0,none⟩),.pointer (some ⟨bn,0,none⟩),.pointer (some ⟨bi,0,none⟩),.pointer (some ⟨bl,0,none⟩)]) X fun e W' =>
   (e = .returned (.bool true)∧iG w bo bn bi bl D v S (.bool true) (.bool false) (.int .i64 ((pre++[x]).length:Int)) W'∧gP i q r X W')∨
   (e = .returned (.bool false)∧∃ vn vi,iG w bo bn bi bl D v S (.bool true) vn vi W'):=by
 have hk:pre.length<S.length:=by have:=m.length_le;simp at this;omega
 have s:S[pre.length]=x:=by
  obtain ⟨t,rfl⟩:=m
  simp
 have H:=Ak bo bn bi bl pre.length v S X h.ok.cell h.no.cell h.n.cell h.l.cell h.ok.frozen h.no.frozen h.n.frozen (tL h.row) hk o h.ne (mN h.ok h.n (by decide)) (mN h.ok h.l (by decide)) (mN h.no h.n (by decide)) (mN h.no h.l (by decide)) (mN h.n h.l (by decide))
 rw [s] at H
 refine H.mono ?_
 rintro e W' ⟨rfl,C,⟨rfl⟩,rfl⟩
 have hl:=((h.grown (dH X (.cells #[.int .i64 x.1.1,.string ⟨x.1.2.toArray⟩] 94) none)).grown (B:=(X.alloc (.cells #[.int .i64 x.1.1,.string ⟨x.1.2.toArray⟩] 94)).drew) ⟨rfl,rfl,rfl,ah _,fun _ _ _=>rfl⟩)
 have hl:=((hl.I8 (.bool true)).Ix (.int .i64 ((pre.length+1:Nat):Int))).I7 (.bool (decide (S.length / 2<pre.length+1)))
 have u:=h.lo
 have y:=h.below.size
 have d:gP i q r X (qJ (X.alloc (.cells #[.int .i64 x.1.1,.string ⟨x.1.2.toArray⟩] 94)) bo bi bn pre.length (decide (S.length / 2<pre.length+1))):=by
  refine ⟨aI (dR _) (Nat.le_of_eq (yR X _ bo bi bn _ _).symm),fun j b => ?_,fun j cs fz b => ?_⟩
  ·exact sq X _ bo bi bn _ _ j (by rcases b with rfl | rfl | rfl <;> omega) (by rcases b with rfl | rfl | rfl <;> omega) (by rcases b with rfl | rfl | rfl <;> omega) (by rcases b with rfl | rfl | rfl <;> omega)
  ·refine (sq X _ bo bi bn _ _ j (fI b) ?_ ?_ ?_).trans b
   ·rintro rfl;have:=b.symm.trans h.ok;cases this
   ·rintro rfl;have:=b.symm.trans h.n;cases this
   ·rintro rfl;have:=b.symm.trans h.no;cases this
 cases hd:decide (S.length / 2<pre.length+1) with
 | true=>exact .inr ⟨rfl,_,_,by rw [hd] at hl;exact hl⟩
 | false=>exact .inl ⟨rfl,by rw [hd] at hl;rw [ar];exact hl,by rw [hd] at d;exact d⟩
end Go.Proofs.YtkkfmkhbdoeglaaGreatDoor
namespace Go.Proofs.YtkkfmkhbdoeglaaGreatDoor
open Go.RowKit Go.Shelf
attribute [local go_sem] Oper.semAt_some
theorem DV:(Tryz.prog.info? 123).map (fun i=>(i.zero,i.size,i.bytes))=some (some (.agg #[.int .i64 0,.string ⟨#[]⟩,.string ⟨#[]⟩]),3,40):=by kernel_rfl
theorem vj (w:World) (x y z:Value) (t:TypeId):∀ j u,[x,y,z][j]?=some u→(w.alloc (.cells #[x,y,z] t)).cell? ((⟨w.heap.size,0,none⟩:Addr).add j)=some u:=by
 intro j u b
 have:=af (w.alloc (.cells #[x,y,z] t)) w.heap.size j _ _ _ (fL w (.cells #[x,y,z] t))
 match j,b with
 | 0,b=>simp at b;subst b;simp [Addr.add,this]
 | 1,b=>simp at b;subst b;simp [Addr.add,this]
 | 2,b=>simp at b;subst b;simp [Addr.add,this]
 | j+3,b=>simp at b
theorem ye {W:World} {base B:Nat} {t e t':TypeId} {k m:Nat} {v v':Value} {xs:List Value} (i:Boxed W B t v) (l:W.ownsRow base e m v k xs) {o:Obj} {w1:World} (q:(W.alloc o).grownBy w1 v.ownBlock) (r:t≠t') (he:e≠t') {j:Nat} {cs:Array Value} {fz:Nat×Nat} (h:W.heap[j]?=some (.cells cs t' fz)) :
  (w1.setCell ⟨B,0,none⟩ v').heap[j]?=some (.cells cs t' fz):=by
 have h1:(W.alloc o).heap[j]?=some (.cells cs t' fz):=fQ W o h
 have b:some j≠v.ownBlock:=by
  rcases l.2 with ⟨rfl,_⟩ | ⟨g,cap,cur,rfl,_,d,_⟩
  ·simp [Value.ownBlock]
  ·intro s
   obtain rfl:j=g:=by simpa [Value.ownBlock] using s
   rw [d] at h
   cases h
   exact he rfl
 have u:j≠B:=by
  rintro rfl
  have:=(show W.heap[j]?=_ from i).symm.trans h
  cases this
  exact r rfl
 rw [Below.heap_setCell _ ⟨B,0,none⟩ _ j u,q.block j (fI h1) b,h1]
theorem xj {W:World} {base B:Nat} {t e:TypeId} {k m:Nat} {v:Value} {xs:List Value} (b:Boxed W B t v) (d:W.ownsRow base e m v k xs) (i:t≠94) (he:e≠94) :
  ∀ (o:Obj) (w1:World) (v':Value),(W.alloc o).grownBy w1 v.ownBlock→∀ (j:Nat) (cs:Array Value) (fz:Nat×Nat),W.heap[j]?=some (Obj.cells cs 94 fz)→(w1.setCell ⟨B,0,none⟩ v').heap[j]?=some (Obj.cells cs 94 fz) :=
 fun _ _ _ l _ _ _ h=>ye b d l i he h
theorem EZ {W:World} {base B b:Nat} {t t2 e:TypeId} {k m:Nat} {v u:Value} {xs:List Value} (h2:Boxed W b t2 u) (d:Boxed W B t v) (i:W.ownsRow base e m v k xs) {o:Obj} {w1:World} (j:(W.alloc o).grownBy w1 v.ownBlock) (v':Value) (l:t≠t2) (he:e≠t2) (_hB:b≠B):Boxed (w1.setCell ⟨B,0,none⟩ v') b t2 u :=
 ye d i j l he h2
theorem vP (i q off r:Nat) (S:List E) (w:World) (J:i<w.heap.size) (hm:w.cell? ⟨i,0,none⟩=some (.pointer (some ⟨q,off,none⟩))) (he:EntAt w q off r S) (hS:S.length≤1000000000) :
  Calls Tryz.prog 48 #[.func (.func 90) #[] #[.pointer (some ⟨i,0,none⟩)]] w fun e w'=>∃ v,e = .returned (.tuple #[v,.bool true])∧ic w' v S∧(∀ k,v.ownBlock=some k→w.heap.size≤k)∧Below w.heap.size w w':=by
 obtain ⟨i0,hi,a0,a1,a2⟩:=dP DV
 refine (callsIn_wide (n:=9)).1 ?_
 refine callsIn_of_wp_marks Tryz.func48 rfl cM ?_ rfl
 try simp only [Tryz.ntmps48,dF,au,aJ,Nat.reduceAdd,Nat.reduceSub,bd,bu,bV,dG,aQ,aX]
 gi_wp2
 have bL:=(Boxed.new w 43 (.slice none 0 0)).alloc (.cells #[.bool true] 4)
 have b6:=Boxed.new (w.alloc (.cells #[.slice none 0 0] 43)) 4 (.bool true)
 rw [ax] at b6
 have M:Below w.heap.size w ((w.alloc (.cells #[.slice none 0 0] 43)).alloc (.cells #[.bool true] 4)):=((Below.refl _ w).alloc (ah _) _).alloc (by simp) _
 have a4:((w.alloc (.cells #[.slice none 0 0] 43)).alloc (.cells #[.bool true] 4)).heap.size=w.heap.size+2:=by simp
 obtain ⟨W0,U⟩:∃ W0,(w.alloc (.cells #[.slice none 0 0] 43)).alloc (.cells #[.bool true] 4)=W0:=⟨_,rfl⟩
 rw [U] at bL b6 M a4⊢
 clear U
 have hmx:maxLen=9223372036854775807:=rfl
 have hq:=he.lt
 have hr:=he.tab.lt
 refine wpIn_rangeFunc_ownH rfl (by omega) (gf:=90) (lb:=#[.pointer (some ⟨i,0,none⟩)]) rfl cM (enters_of Tryz.func90 (by kernel_rfl) rfl)
  (wV (9-1) i q off r S w J hm he hS) (fun h k=>gP.trans h k)
  (fun W l o o' hl y hc _=>⟨by simp,(fun k hk=>World.putObj_heap_other (by rcases hk with rfl | rfl | rfl <;> omega)),(fun k cs fz hk=>(World.putObj_heap_other (fun e=>by subst e;rw [hk] at y;cases y;cases hc)).trans hk)⟩) M (fun _=>rfl)
  (fun pre W=>((∃ v,Boxed W w.heap.size 43 v∧W.ownsRow w.heap.size 123 3 v pre.length (entCells pre)∧True)∧Boxed W (w.heap.size+1) 4 (.bool true))∧Below w.heap.size w W)
  (fun _ _ _=>False)
  (OwnFrom.and (OwnFrom.and (Own.from (holdsRow_own w.heap.size w.heap.size 43 123 3 (fun pre:List E=>pre.length) entCells (fun _ _=>True)) _) (Own.from (boxed_own _ _ _) _)) (ownFrom_below (ah _) (by omega)))
  (fun _ _ _ _ _ hs _ _=>hs)
  ⟨⟨⟨_,bL,World.ownsRow_nil _ _ _ _,cM⟩,b6⟩,M⟩
  (fun x a' W=>∃ m,w.heap.size+1<m∧W.heap[m]?=some (.cells #[.int .i64 x.1.1,.string ⟨x.1.2.toArray⟩] 94 (0,0))∧a' = {tmps:=#[.func (.func 90) #[] #[.pointer (some ⟨i,0,none⟩)],undef,.slice none 0 0,.bool false,.pointer (some ⟨w.heap.size,0,none⟩),.pointer (some ⟨w.heap.size+1,0,none⟩),.pointer (some ⟨m,0,none⟩),.string ⟨x.2.toArray⟩,undef,undef,.func (.func 90) #[] #[.pointer (some ⟨i,0,none⟩)],.agg #[.int .i64 x.1.1,.string ⟨x.1.2.toArray⟩],.string ⟨x.2.toArray⟩,undef,undef,undef,undef,undef,undef,undef,undef,undef,undef,undef,undef,undef,undef],defers:=[]})
  (fun x a' _ X Y row hs hg hr=>by
   obtain ⟨m,h1,h2,h3⟩:=hs
   exact ⟨m,h1,(hg.block m (fI h2) (fun e=>by obtain ⟨-,o,y,hc⟩:=hr m e.symm;rw [h2] at y;cases y;cases hc)).trans h2,h3⟩)
  ?assign ?body ?done ?stop
 case assign =>
  rintro l pre x W K ⟨⟨⟨v1,a6,a7,-⟩,d⟩,u⟩ hK
  unfold kV iX
  gi_wp2
  exact hK _ _ ((KeepsOthers.alloc _ _).from _) (gP.gw ((Below.refl _ W).alloc (ah _) _) (by have:=u.size;omega) (by have:=u.size;omega) (by have:=u.size;omega)) ⟨⟨⟨v1,a6.alloc _,a7.alloc _,cM⟩,d.alloc _⟩,u.alloc u.size _⟩ ⟨W.heap.size,d.lt,fL W _,rfl⟩
 case body =>
  rintro l pre ⟨⟨kt,kb⟩,vb⟩ a' W hl ⟨rr,bM⟩ ⟨⟨⟨v,C,b,-⟩,d⟩,G⟩ ⟨m,bN,b7,rfl⟩ bO
  have hc:=C.cell
  have x0:=af _ _ 0 _ _ _ b7
  have x1:=af _ _ 1 _ _ _ b7
  have V:=G.size
  have Q:=xj C b (by decide) (by decide)
  gi_wp2_with (gi_at_builtin;refine wpListIn_append_own _ rfl _ _ 43 rfl w.heap.size 123 i0 (.agg #[.int .i64 0,.string ⟨#[]⟩,.string ⟨#[]⟩]) 3 40 Tryz.underlying43 hi a0 a1 a2 rfl (by decide) _ _ _ rfl (b.alloc _) ⟨W.heap.size,0,none⟩ 1 1 [.int .i64 kt,.string ⟨kb.toArray⟩,.string ⟨vb.toArray⟩] rfl rfl (vj _ _ _ _ _) (by simp [Value.oneCell']) (by omega) (by omega) (by simp;omega) ?_;intro v' w1 F j _;obtain ⟨g',cap',rfl⟩:=ownsRow_succ F;obtain ⟨Z,bb,bc,aa,ab⟩:=C.appended (by decide) b G.size (ah _) F j;have bi:=Q _ _ (.slice (some ⟨g',0,none⟩) (pre.length+1) cap') j;have bk:=EZ d C b j (.slice (some ⟨g',0,none⟩) (pre.length+1) cap') (by decide) (by decide) (by omega);have bP:=Z.cell;have bS:=Z.frozen)
  exact ⟨aa.from _,⟨aa.size,(fun k hk=>ab.block k (by rcases hk with rfl | rfl | rfl <;> omega)),bi⟩,⟨⟨_,bb,by rw [wT];simpa using bc⟩,bk⟩,G.trans ab⟩
 case done =>
  rintro D I W hD rfl ⟨⟨⟨v,C,b,-⟩,d⟩,G⟩ hK
  have hc:=C.cell
  have y:=d.cell
  have V:=G.size
  have bX:=d.lt
  have N:Below w.heap.size w ((W.alloc (.cells #[.int .i64 0] 3)).alloc (.cells #[.bool false] 4)):=(G.alloc V _).alloc (by simp;omega) _
  have bI:=(Boxed.new W 3 (.int .i64 0)).alloc (.cells #[.bool false] 4)
  have b8:=Boxed.new (W.alloc (.cells #[.int .i64 0] 3)) 4 (.bool false)
  rw [ax] at b8
  have LV:Hid (iG w (w.heap.size+1) (W.heap.size+1) W.heap.size w.heap.size D v I (.bool true) (.bool false) (.int .i64 ((([]:List E).length:Nat):Int)) ((W.alloc (.cells #[.int .i64 0] 3)).alloc (.cells #[.bool false] 4))) :=
   ae ⟨(d.alloc _).alloc _,b8,bI,(C.alloc _).alloc _,(b.alloc _).alloc _,(by rw [fQ _ _ (fQ W _ hK)]),N,by omega,by omega,by omega,by omega⟩
  have HE:=ae (he.below N)
  have HM:=ae ((N.cell (p:=⟨i,0,none⟩) J).trans hm)
  have b0:((W.alloc (.cells #[.int .i64 0] 3)).alloc (.cells #[.bool false] 4)).heap.size=W.heap.size+2:=by simp
  clear hc y he hm
  gi_wp2_with fail
  generalize bs:(W.alloc (.cells #[.int .i64 0] 3)).alloc (.cells #[.bool false] 4)=W2 at *
  clear bs
  have HC:=wU 89 #[.pointer (some ⟨w.heap.size+1,0,none⟩),.pointer (some ⟨W.heap.size+1,0,none⟩),.pointer (some ⟨W.heap.size,0,none⟩),.pointer (some ⟨w.heap.size,0,none⟩)] (enters_of Tryz.func89 (by kernel_rfl) rfl) i q off r I
   (fun pre X=>iG w (w.heap.size+1) (W.heap.size+1) W.heap.size w.heap.size D v I (.bool true) (.bool false) (.int .i64 (pre.length:Int)) X)
   (fun pre X=>∃ vn vi,iG w (w.heap.size+1) (W.heap.size+1) W.heap.size w.heap.size D v I (.bool true) vn vi X)
   (fun s A B h hg=>h.grown hg) (fun pre x W1 h hp=>h.call hp hS J hq hr) W2 (by omega) HM.out HE.out hS LV.out
  refine ⟨cM,callsIn_wide.2 (HC.mono ?_)⟩
  rintro e W3 ⟨⟨v',rfl⟩,hJ⟩
  obtain ⟨vn,vi,R⟩:∃ vn vi,iG w (w.heap.size+1) (W.heap.size+1) W.heap.size w.heap.size D v I (.bool true) vn vi W3:=by
   rcases hJ with h | ⟨pre,-,h⟩
   ·exact ⟨_,_,h⟩
   ·exact h
  clear hJ LV HE HM HC
  have c1:=R.l.cell
  have c2:=R.ok.cell
  have O:=R.defer
  gi_wp2_with fail
  gi_region
  have L4:iG w (w.heap.size+1) (W.heap.size+1) W.heap.size w.heap.size D v I (.bool true) vn vi W3.drew:=R.grown ⟨rfl,rfl,rfl,ah _,fun _ _ _=>rfl⟩
  gi_wp2_with fail
  refine ⟨by simp,.inl ⟨_,_,rfl,run_takeDeferred O,?_⟩⟩
  exact ⟨_,results_tmp2 rfl _ _ _,v,rfl,tL (ownsRow_putObj L4.row _ O rfl),CD L4.row,L4.below.trans (belowK_b (w:=w) (ah _) W3.drew D _ _ (by omega) O rfl rfl)⟩
 case stop =>
  rintro D c pre W _ _ h _
  exact h.elim
end Go.Proofs.YtkkfmkhbdoeglaaGreatDoor
