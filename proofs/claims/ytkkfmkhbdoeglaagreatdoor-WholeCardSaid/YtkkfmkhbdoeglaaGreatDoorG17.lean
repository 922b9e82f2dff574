/- A part of what is proved here: lemmas and contracts of single functions. No condition but those that each names. -/
import Derived.Test.YtkkfmkhbdoeglaaGreatDoorG00
import Derived.Test.YtkkfmkhbdoeglaaGreatDoorG02
import Derived.Test.YtkkfmkhbdoeglaaGreatDoorG16
set_option maxHeartbeats 4000000
set_option maxRecDepth 100000
namespace Go.Proofs.YtkkfmkhbdoeglaaGreatDoor
open Go.RowKit Go.Shelf
def fJ.kR (H:fJ) (k:Nat):fJ := {H with fail:=if H.fail<0 then H.fail else H.fail-k}
theorem CM (H:fJ):H.kR 0=H:=by
 unfold fJ.kR
 have:(if H.fail<0 then H.fail else H.fail-(0:Nat))=H.fail:=by split <;> omega
 rw [this]
theorem CL {H:fJ} {k:Nat} (hk:¬(0≤H.fail∧H.fail<(k:Int))):((H.kR k).gW=true↔H.fail=k)∧(H.fail≠k→(H.kR k).asked=H.kR (k+1))∧(H.fail=k→(H.kR k).asked = {H with fail := -1}):=by
 have key:∀ a b:Int,a=b→({H with fail:=a} : fJ) = {H with fail:=b} := fun a b e=>by rw [e]
 refine ⟨?_,fun h=>key _ _ ?_,fun h=>key _ _ ?_⟩
 ·unfold fJ.kR fJ.gW
  simp only [dj]
  split <;> omega
 ·unfold fJ.kR
  simp only
  split <;> (try split) <;> omega
 ·unfold fJ.kR
  simp only
  split <;> (try split) <;> omega
def jG (g:LogS) (seen:List (List UInt8)) (k:Nat):Nat:=max g.stamp (gK (seen.take k))
theorem xd (l:List (List UInt8)) (b:List UInt8):gK (l++[b])=max (gK l) (parseSec b).stamp:=by
 unfold gK
 rw [di]
 rfl
theorem AP {g:LogS} {seen:List (List UInt8)} {k:Nat} {b:List UInt8} (h:seen[k]?=some b):jG g seen (k+1)=max (jG g seen k) (parseSec b).stamp:=by
 unfold jG
 rw [mj _ _ h,xd,Nat.max_assoc]
def lW (seen:List (List UInt8)) (k:Nat):List (List UInt8):=seen.take k++List.replicate (seen.length-k) []
theorem BU {seen:List (List UInt8)} {k:Nat} (h:k≤seen.length):(lW seen k).length=seen.length:=by
 unfold lW
 rw [ar,aA,bG]
 omega
theorem z8 {seen:List (List UInt8)} {k:Nat} {b:List UInt8} (h:seen[k]?=some b):lW seen (k+1)=(lW seen k).set k b:=by
 have hk:=(aG.1 h).1
 unfold lW
 rw [mj _ _ h,List.set_append_right _ _ (by rw [aA];omega),aA,show k-min k seen.length=0 by omega,show seen.length-k=(seen.length-(k+1))+1 by omega,List.replicate_succ,aj]
 simp
def zv (w:World) (F:Nat→Prop) (lg h:Nat) (H:fJ) (g:LogS) (b:Value) (k:Nat) (wr:World):Prop :=
 HostAt wr F h (H.kR k)∧RowsAt wr (fun j=>w.heap.size≤j∧j<wr.heap.size) b (lW H.seen k)∧LogAt wr lg h {g with stamp:=jG g H.seen k}∧Ext (fun j=>F j∨j=lg) w wr∧¬(0≤H.fail∧H.fail<(k:Int))
def Ht (w:World) (lg h:Nat) (H:fJ) (g:LogS) (e:Ending) (w':World):Option Nat→Prop
 | some f=>∃ v,e = .returned (.tuple #[.slice none 0 0,v])∧kF w w' v f
 | none=>∃ v,e = .returned (.tuple #[v,.nilIface])∧RowsAt w' (fun j=>w.heap.size≤j∧j<w'.heap.size) v H.seen∧LogAt w' lg h {g with stamp:=jG g H.seen H.seen.length}
theorem FV (w:World) (n:Nat) (m:n≤1000):RowsAt (w.alloc (.cells (madeCells #[.slice none 0 0] n) 59)) (fun j=>w.heap.size≤j∧j<w.heap.size+1) (.slice (some ⟨w.heap.size,0,none⟩) n n) (List.replicate n []):=by
 have o:(madeCells #[Value.slice none 0 0] n).size=n:=by simp [madeCells]
 have h:=OwnS.new w (madeCells #[.slice none 0 0] n) 59 0 0 0 1 n n (aL _) (ah _) (by have:maxLen=9223372036854775807:=rfl;omega) (by omega) (.inl (by omega))
 have e:(madeCells #[Value.slice none 0 0] n).toList.take (n*1)=List.replicate n (.slice none 0 0):=by
  rw [ey,Nat.mul_one,aS (by simp)]
 rw [e] at h
 refine ⟨List.replicate n (.slice none 0 0),by rw [bG];exact h,fun k hk => ?_,fun k hk => ?_,fun i b l => ?_⟩
 ·cases hk
  exact ⟨_,_,fL w _⟩
 ·cases hk
  exact ⟨ah _,Nat.lt_succ_self _⟩
 ·obtain ⟨hl,d⟩:=aG.1 l
  rw [List.getElem_replicate] at d
  subst d
  rw [bG] at hl
  exact ⟨_,by rw [List.getElem?_replicate,aF hl],BytesAt.nil _ _ _,CellsOf.nil _ _,fun k e=>by simp [Value.ownBlock] at e⟩
theorem vQ (lg h:Nat) (F:Nat→Prop) (H:fJ) (g:LogS) (B:Nat) (w:World) (hl:LogAt w lg h g) (hh:HostAt w F h H) (a0:HostOk H B) (bs:¬F lg) :
  Calls Tryz.prog 156 #[.pointer (some ⟨lg,0,none⟩)] w fun e w'=>HostAt w' F h (readAll H).1∧Ext (fun j=>F j∨j=lg) w w'∧Ht w lg h H g e w' (readAll H).2:=by
 have hn:=a0.n
 have a1:=ae (nV h F H w hh)
 have d2:=nc h
 have d3:=lh h
 have d4:=Eb h
 have d5:=yT h
 have aa:=hl
 unfold LogAt at aa
 have c0:w.cell? ⟨lg,0,none⟩=some (.iface 188 (.agg #[.pointer (some ⟨h,0,none⟩)])):=af _ _ 0 _ _ _ aa
 have Q:=fI aa
 have HH:=ae hh
 have HL:=ae hl
 have bt:=ae hh.lt
 have bv:=ae a0
 obtain ⟨N,hN⟩:∃ N,N=H.seen.length:=⟨_,rfl⟩
 have r:=ae hN
 have d6:N≤128:=by omega
 have d7:∀ w,(Instr.makeSlice 82 (.int .i64 N) (.int .i64 N)).run Tryz.prog w = .ok (.slice (some ⟨w.heap.size,0,none⟩) N N) (w.alloc (.cells (madeCells #[.slice none 0 0] N) 59)):=fun w =>
  run_make_row' 82 59 (.slice none 0 0) 24 Tryz.underlying82 (by kernel_rfl) rfl .i64 .i64 N (by omega) (by omega) w
 rw [←hN] at a1
 clear hl aa hh a0 hN
 go_enter Tryz.func156,Tryz.ntmps156
 go_wp2_with fail
 refine a1.out.mono ?_
 rintro e w1 ⟨rfl,a2⟩
 have bw:=ae a2
 have ab:=ae (FV w1 N (by omega))
 have a3:=a2.size
 clear a2
 go_wp2
 obtain ⟨w2,ag⟩:∃ w2,w2=w1.alloc (.cells (madeCells #[.slice none 0 0] N) 59):=⟨_,rfl⟩
 rw [←ag] at ab⊢
 have a4:Hid (Below w.heap.size w w2):=ae (by rw [ag];exact bw.out.alloc a3 _)
 have cf:w2.heap.size=w1.heap.size+1:=by rw [ag];simp
 obtain ⟨o,bx⟩:∃ o,o=w1.heap.size:=⟨_,rfl⟩
 rw [←bx] at ab⊢a3 cf
 have ci:Hid (zv w F lg h H g (.slice (some ⟨o,0,none⟩) N N) 0 w2):=ae (by
  refine ⟨by rw [CM];exact HH.out.below a4.out,?_,?_,(Ext.fM a4.out),by omega⟩
  ·have h0:lW H.seen 0=List.replicate N []:=by unfold lW;rw [r.out];simp
   rw [h0]
   exact ab.out.mono fun j d=>by omega
  ·have h0:jG g H.seen 0=g.stamp:=by unfold jG gK;simp
   rw [h0]
   exact fK a4.out (fI HL.out) HL.out)
 clear ag bx c0 a1 bw ab
 go_loopw [17] (fun i wr=>∃ k:Nat,k≤N∧i = .int .i64 (k:Int)∧zv w F lg h H g (.slice (some ⟨o,0,none⟩) N N) k wr) (fun i _=>N-(intOf i).toNat)
 case atStart=>exact ⟨0,aL _,rfl,ci.out⟩
 case round =>
  obtain ⟨k,hk,rfl,hrel⟩:=hrel
  obtain ⟨r1,r2,r3,r4,r5⟩:=hrel
  have a5:=ae r1
  have bz:=ae r2
  have bD:=ae r3
  have R:=ae r4
  have ak:=ae r5
  have al:=r3
  unfold LogAt at al
  have c0:wr.cell? ⟨lg,0,none⟩=some (.iface 188 (.agg #[.pointer (some ⟨h,0,none⟩)])):=af _ _ 0 _ _ _ al
  have dl:=fI al
  clear r1 r2 r3 al r4 r5
  by_cases Q:k<N
  ·have g1:(k:Int)<N:=by omega
   obtain ⟨q1,q2,q3⟩:=CL ak.out
   obtain ⟨b,hb⟩:∃ b,H.seen[k]?=some b:=⟨_,ay (by rw [←r.out];exact Q)⟩
   have a6:=ae hb
   have a7:b.length=64:=bv.out.s64 b (aZ hb)
   have bH:=ae q1
   have cs:=ae q2
   have ct:=ae q3
   have cu:N≤1000:=by omega
   have a9:Hid (k<(H.kR k).seen.length∧(H.kR k).seen.length≤1000):=ae (by show k<H.seen.length∧H.seen.length≤1000;rw [←r.out];exact ⟨Q,cu⟩)
   clear hb q1 q2 q3
   cases U:(H.kR k).gW with
   | true =>
    have q:H.fail=k:=bH.out.1 U
    have ba:Hid (readAll H=((H.kR k).asked,some (k+2))):=ae (by
     rw [ct.out q]
     unfold readAll
     rw [aF (by rw [q,←r.out];omega),q]
     rfl)
    clear q
    go_wp2_with fail
    refine (FQ h F (H.kR k) k wr a5.out a9.out.1 a9.out.2 U).mono ?_
    rintro e w5 ⟨v,rfl,bI,V,W⟩
    have cv:=ae bI
    have cB:=ae V
    have c1:=ae W
    obtain ⟨er,rfl,-,-⟩:=bI
    clear V W
    go_wp2
    go_ret2
    rw [ba.out]
    exact ⟨cB.out,R.out.trans (c1.out.mono fun j d => .inl d),_,rfl,cv.out.mono R.out.size⟩
   | false =>
    have q:H.fail≠k:=fun e=>by rw [bH.out.2 e] at U;cases U
    have bL:=ae q
    have bM : -1≤(H.kR k).fail∧(H.kR k).fail≤9223372036854775807:=by
     have:=bv.out.fail
     have h5:=ak.out
     unfold fJ.kR
     simp only
     split <;> omega
    clear q
    go_wp2_with fail
    refine (Ej h F (H.kR k) k b wr a5.out a6.out a9.out.2 (by omega) U bM).mono ?_
    rintro e w5 ⟨v,rfl,bN,bO,bP,V,W⟩
    have bb:=ae bN
    have am:=ae bO
    have bS:=ae bP
    have bc:=ae V
    have ap:=ae W
    obtain ⟨G,I,rfl,-,-⟩:=bN.opened
    clear bO bP V W bM c0
    have bX:Hid (LogAt w5 lg h {g with stamp:=jG g H.seen k}):=ae (bD.out.ext ap.out bs)
    have X:=bX.out
    unfold LogAt at X
    have d1:w5.cell? ⟨lg,1,none⟩=some (.int .u64 (jG g H.seen k:Nat)):=af _ _ 1 _ _ _ X
    have f1:=ao _ _ 1 _ _ X
    have bi:=fI X
    clear X
    go_wp2
    have x:Hid (Below w5.heap.size w5 (w5.alloc (.cells #[.slice G b.length I,.int .i64 0,.int .i64 0,.pointer none] 211))):=ae ((Below.refl _ w5).alloc (ah _) _)
    have J:=fL w5 (.cells #[.slice G b.length I,.int .i64 0,.int .i64 0,.pointer none] 211)
    have av:Hid (CurAt (w5.alloc (.cells #[.slice G b.length I,.int .i64 0,.int .i64 0,.pointer none] 211)) w5.heap.size w5.heap.size ⟨b,0,0,none⟩):=ae ⟨aL _,ah _,by unfold gx;simp only;omega,ah _,_,none,J,bb.out.below x.out,fun j e=>by
     obtain ⟨C,fz,hC⟩:=am.out j e
     exact fI hC,rfl⟩
    rw [a7] at J x av
    obtain ⟨M,bk⟩:∃ M,M=w5.alloc (.cells #[.slice G 64 I,.int .i64 0,.int .i64 0,.pointer none] 211):=⟨_,rfl⟩
    rw [←bk] at x av J⊢
    have d8:M.heap.size=w5.heap.size+1:=by rw [bk];simp
    have b8:w.heap.size≤o:=a3
    have Z:M.cell? ⟨lg,1,none⟩=some (.int .u64 (jG g H.seen k:Nat)):=(x.out.cell (p:=⟨lg,1,none⟩) bi).trans d1
    have e2:M.frozen? ⟨lg,1,none⟩=false:=(x.out.frozen (p:=⟨lg,1,none⟩) bi).trans f1
    clear bk d1 f1 J
    have c2:Hid (iL ((⟨b,0,0,none⟩:Cu).take 8).2=(parseSec b).stamp):=ae (by
     rw [Cu.ik,aw (by omega)]
     rfl)
    refine iz (n:=10) (S:=(fun w'=>w'.cell? ⟨lg,1,none⟩=some (.int .u64 (jG g H.seen k:Nat)))) (by kernel_rfl) (by kernel_rfl) rfl (by first | exact Z | exact Y) ?_
    intro dn
    simp only [cK,cg,cA,cL,bA,ch,bd,bu,bV,aQ,aX]
    refine wpAnyH_take (i:=0) (v := ?_) rfl (by kernel_rfl) (by kernel_rfl) (by kernel_rfl) (fun _ _ _ h=>h) (Or.inl ⟨by rfl,?_⟩) (by assumption) ?_
    rotate_left 1
    ·(intro w l;(try dsimp only at l);go_simp;(try with_reducible rfl))
    try simp only [Act.put,ai,aj]
    refine wpAnyH_take (i:=1) (v := ?_) rfl (by kernel_rfl) (by kernel_rfl) (by kernel_rfl) (fun _ _ _ h=>h) (Or.inl ⟨by rfl,?_⟩) (by assumption) ?_
    rotate_left 1
    ·(intro w l;(try dsimp only at l);go_simp;(try with_reducible rfl))
    try simp only [Act.put,ai,aj,aq]
    refine wpAnyH_take (i:=2) (v := ?_) rfl (by kernel_rfl) (by kernel_rfl) (by kernel_rfl) (fun _ _ _ h=>h) (Or.inl ⟨by rfl,?_⟩) (by assumption) ?_
    rotate_left 1
    ·(intro w l;(try dsimp only at l);go_simp;(try with_reducible rfl))
    try simp only [Act.put,ai,aj,aq]
    refine wpAnyH_take (i:=3) (v := ?_) rfl (by kernel_rfl) (by kernel_rfl) (by kernel_rfl) (fun _ _ _ h=>h) (Or.inl ⟨by rfl,?_⟩) (by assumption) ?_
    rotate_left 1
    ·(intro w l;(try dsimp only at l);go_simp;(try with_reducible rfl))
    try simp only [Act.put,ai,aj,aq]
    refine wpAnyH_take (i:=4) (v := ?_) rfl (by kernel_rfl) (by kernel_rfl) (by kernel_rfl) (fun _ _ _ h=>h) (Or.inl ⟨by rfl,?_⟩) (by assumption) ?_
    rotate_left 1
    ·(intro w l;(try dsimp only at l);go_simp;(try with_reducible rfl))
    try simp only [Act.put,ai,aj,aq]
    refine wpAnyH_take (i:=5) (v := ?_) rfl (by kernel_rfl) (by kernel_rfl) (by kernel_rfl) (fun _ _ _ h=>h) (Or.inl ⟨by rfl,?_⟩) (by assumption) ?_
    rotate_left 1
    ·(intro w l;(try dsimp only at l);go_simp;(try with_reducible rfl))
    try simp only [Act.put,ai,aj,aq]
    refine wpAnyH_ready (rs:=[6]) (by kernel_rfl) (by simp) ?_
    refine AllReadyH.cons rfl ?_ AllReadyH.nil
    intro K' hK'
    go_simp;go_at_call 120;refine (mo w5.heap.size w5.heap.size ⟨b,0,0,none⟩ _ (by first | exact av.out | exact av.out.fW ((Below.refl _ M).drew)) (by show w5.heap.size≤M.heap.size;omega)).mono ?_;rintro e m ⟨rfl,cb,y⟩;have bl:Hid (Ext (fun j=>j=w5.heap.size) M m):=ae ⟨y.os,y.tape,y.output,y.size,fun j d c3=>y.block j d fun e=>c3 (by cases e;rfl)⟩;have Y:m.cell? ⟨lg,1,none⟩=some (.int .u64 (jG g H.seen k:Nat)):=bl.out.cell (p:=⟨lg,1,none⟩) (by show lg≠w5.heap.size;omega) Z;clear cb y;rw [c2.out];refine hK'.out _ _ Y ?_
    clear hK' K'
    intro dp
    try simp only [ai,aj,aq]
    refine wpAnyH_ready (rs:=[7]) (by kernel_rfl) (by simp) ?_
    refine AllReadyH.cons rfl ?_ AllReadyH.nil
    intro K' hK'
    go_simp
    refine hK'.out _ _ (by first | exact Z | exact Y) ?_
    clear hK' K'
    intro ds
    try simp only [ai,aj,aq]
    refine wpAnyH_take (i:=8) (v := ?_) rfl (by kernel_rfl) (by kernel_rfl) (by kernel_rfl) (fun _ _ _ h=>h) (Or.inl ⟨by rfl,?_⟩) (by assumption) ?_
    rotate_left 1
    ·(intro w l;(try dsimp only at l);go_simp;(try with_reducible rfl))
    try simp only [Act.put,ai,aj,aq]
    refine wpAnyH_take (i:=9) (v := ?_) rfl (by kernel_rfl) (by kernel_rfl) (by kernel_rfl) (fun _ _ _ h=>h) (Or.inl ⟨by rfl,?_⟩) (by assumption) ?_
    rotate_left 1
    ·(intro w l;(try dsimp only at l);go_simp;(try with_reducible rfl))
    try simp only [Act.put,ai,aj,aq]
    refine wpAnyH_done (by kernel_rfl) ?_ _
    show Oper.wp _ _ _ _ _ _
    have e7:m.cell? ⟨lg,1,none⟩=some (.int .u64 (jG g H.seen k:Nat)):=Y
    have e8:m.frozen? ⟨lg,1,none⟩=false:=by
     rw [←e2]
     exact cU (w:=M) (a:=⟨lg,1,none⟩) (bl.out.block lg (by omega) (by show lg≠w5.heap.size;omega))
    have D:Hid (Ext (fun j=>j=w5.heap.size) w5 m):=ae ((Ext.fM x.out).trans bl.out)
    clear Z e2 Y
    have d9:=R.out.size
    have c4:=ap.out.size
    have c5:=D.out.size
    have dv:=fI HL.out
    have b0:Hid (RowsAt m (fun j=>w.heap.size≤j∧j<wr.heap.size) (.slice (some ⟨o,0,none⟩) N N) (lW H.seen k)):=ae (bz.out.fW (aI c4 c5) fun j C t fz d _ hF=>(D.out.block j (by omega) (by show j≠w5.heap.size;omega)).trans (ap.out.block j (by omega) fun e=>by have:=bt.out j e;omega))
    have aE:Hid ((lW H.seen k).length=N):=ae (by rw [BU (by rw [←r.out];omega),r.out])
    obtain ⟨gs,os,cap,u0,b1,s0,sf,-,-⟩:=b0.out.store (n:=k) (by rw [aE.out];exact Q)
    obtain ⟨Z,e2,e3⟩:=Value.slice.inj b1
    obtain ⟨rfl,rfl⟩:o=gs∧0=os:=by cases Z;exact ⟨rfl,rfl⟩
    rw [bF] at s0 sf
    have eb:=fP s0
    have ec:o≠lg:=by omega
    have ce:Hid (jd m (fun j=>w.heap.size≤j∧j<m.heap.size) (.slice G 64 I) b):=ae (by
     have h1:jd w5 (fun j=>w.heap.size≤j∧j<m.heap.size) (.slice G b.length I) b:=⟨bb.out,am.out,fun j e=>by
      have h2:=bS.out j e
      obtain ⟨C,fz,hC⟩:=am.out j e
      have:=fI hC
      omega⟩
     rw [a7] at h1
     exact h1.fW fun j C fz d _=>D.out.block j (fI d) (by show j≠w5.heap.size;have:=fI d;omega))
    clear Z e2 e3 b1 am bb bS
    go_wp2
    obtain ⟨w8,E⟩:∃ w8,w8=m.setCell ⟨lg,1,none⟩ (.int .u64 (max (jG g H.seen k:Int) ((parseSec b).stamp:Int))):=⟨_,rfl⟩
    have c7:Hid (LogAt w8 lg h {g with stamp:=jG g H.seen (k+1)}):=ae (by
     rw [E,AP a6.out]
     have h1:=heap_setCell m lg 1 (.int .u64 (max (jG g H.seen k:Int) ((parseSec b).stamp:Int))) (D.out.at (by show lg≠w5.heap.size;omega) bX.out)
     rw [show (max (jG g H.seen k:Int) ((parseSec b).stamp:Int))=((max (jG g H.seen k) (parseSec b).stamp:Nat):Int) by omega] at h1⊢
     exact h1)
    have O:∀ j,j≠lg→w8.heap[j]?=m.heap[j]?:=fun j d=>by rw [E];exact Below.heap_setCell m ⟨lg,1,none⟩ _ j d
    have ed:w8.heap.size=m.heap.size:=by rw [E,size_setCell]
    have c8:Hid (Ext (fun j=>F j∨j=lg) w w8):=ae (by
     rw [E]
     exact ((R.out.trans (ap.out.mono fun j d => .inl d)).trans' D.out fun j d => .inr (by have eg:j=w5.heap.size:=d;omega)).setCell _ _ (.inl (.inr rfl)))
    have c9:Hid (RowsAt w8 (fun j=>w.heap.size≤j∧j<m.heap.size) (.slice (some ⟨o,0,none⟩) N N) (lW H.seen k)):=ae ((b0.out.fW (by omega) fun j C t fz d _ hF=>O j (by omega)).mono fun j d=>by omega)
    have da:Hid (jd w8 (fun j=>w.heap.size≤j∧j<m.heap.size) (.slice G 64 I) b):=ae (ce.out.fW fun j C fz d hF=>O j (by omega))
    have dc:Hid (HostAt w8 F h (H.kR k).asked):=ae (bc.out.frame (by omega) fun j d=>(O j (fun e=>bs (e▸d))).trans (D.out.block j (bc.out.lt j d) (by show j≠w5.heap.size;have:=bc.out.lt j d;omega)))
    rw [←E]
    clear E
    have bn:=RowsAt.set (w:=w8) (w':=w8.setCell ⟨o,0+k,none⟩ (.slice G 64 I)) (gs:=o) (os:=0) (cap:=N) (n:=k) (rows:=lW H.seen k) (F:=fun j=>w.heap.size≤j∧j<m.heap.size) (u := .slice G 64 I) (s:=b) (by rw [aE.out];exact c9.out) (by rw [aE.out];exact Q) (fun _ _ _=>da.out) rfl
    rw [aE.out,bF,←z8 a6.out] at bn
    refine ⟨⟨k+1,by omega,by go_num,?_,bn.mono fun j d=>by rw [size_setCell];omega,?_,c8.out.setCell _ _ (.inr b8),?_⟩,by simp [intOf];omega⟩
    ·rw [←cs.out bL.out]
     exact dc.out.frame (by rw [size_setCell];exact ah _) fun j d=>Below.heap_setCell w8 ⟨o,k,none⟩ _ j (by show j≠o;have:=bt.out j d;omega)
    ·exact (Below.heap_setCell w8 ⟨o,k,none⟩ _ lg (by show lg≠o;omega)).trans c7.out
    ·intro hc
     exact ak.out ⟨hc.1,by have:=bL.out;omega⟩
  ·obtain rfl:k=N:=by omega
   have ba:Hid (readAll H=(H.kR k,none)):=ae (by
    unfold readAll fJ.kR
    rw [aw (by rw [←r.out];exact ak.out),←r.out])
   go_wp2
   go_ret2
   rw [ba.out]
   have h1:lW H.seen k=H.seen:=by unfold lW;rw [r.out,be,ef];simp
   exact ⟨a5.out,R.out,⟨_,rfl,by rw [←h1];exact bz.out,by rw [←r.out];exact bD.out⟩⟩
end Go.Proofs.YtkkfmkhbdoeglaaGreatDoor
