/- A part of what is proved here: lemmas and contracts of single functions. No condition but those that each names. -/
import Derived.Test.YtkkfmkhbdoeglaaGreatDoorG00
import Derived.Test.YtkkfmkhbdoeglaaGreatDoorG03
import Derived.Test.YtkkfmkhbdoeglaaGreatDoorG23
set_option maxHeartbeats 4000000
set_option maxRecDepth 100000
namespace Go.Proofs.YtkkfmkhbdoeglaaGreatDoor
open Go.RowKit Go.Shelf
def fx.j6 (H:fx) (k:Nat):fx := {H with fail:=if H.fail<0 then H.fail else H.fail-k}
theorem AD (H:fx):H.j6 0=H:=by
 unfold fx.j6
 have:(if H.fail<0 then H.fail else H.fail-(0:Nat))=H.fail:=by split <;> omega
 rw [this]
theorem BC {H:fx} {k:Nat} (hk:¬(0≤H.fail∧H.fail<(k:Int))):((H.j6 k).gy=true↔H.fail=k)∧(H.fail≠k→(H.j6 k).asked=H.j6 (k+1))∧(H.fail=k→(H.j6 k).asked = {H with fail := -1}):=by
 have key:∀ a b:Int,a=b→({H with fail:=a} : fx) = {H with fail:=b} := fun a b e=>by rw [e]
 refine ⟨?_,fun h=>key _ _ ?_,fun h=>key _ _ ?_⟩
 ·unfold fx.j6 fx.gy
  simp only [de]
  split <;> omega
 ·unfold fx.j6
  simp only
  split <;> (try split) <;> omega
 ·unfold fx.j6
  simp only
  split <;> (try split) <;> omega
def ju (g:LogS) (seen:List (List UInt8)) (k:Nat):Nat:=max g.stamp (gm (seen.take k))
theorem vz (l:List (List UInt8)) (b:List UInt8):gm (l++[b])=max (gm l) (parseSec b).stamp:=by
 unfold gm
 rw [dx]
 rfl
theorem zv {g:LogS} {seen:List (List UInt8)} {k:Nat} {b:List UInt8} (h:seen[k]?=some b):ju g seen (k+1)=max (ju g seen k) (parseSec b).stamp:=by
 unfold ju
 rw [lA _ _ h,vz,Nat.max_assoc]
def kR (seen:List (List UInt8)) (k:Nat):List (List UInt8):=seen.take k++List.replicate (seen.length-k) []
theorem BF {seen:List (List UInt8)} {k:Nat} (h:k≤seen.length):(kR seen k).length=seen.length:=by
 unfold kR
 rw [aq,aD,bu]
 omega
theorem y7 {seen:List (List UInt8)} {k:Nat} {b:List UInt8} (h:seen[k]?=some b):kR seen (k+1)=(kR seen k).set k b:=by
 have hk:=(aF.1 h).1
 unfold kR
 rw [lA _ _ h,List.set_append_right _ _ (by rw [aD];omega),aD,show k-min k seen.length=0 by omega,show seen.length-k=(seen.length-(k+1))+1 by omega,List.replicate_succ,ai]
 simp
def zf (w:World) (F:Nat→Prop) (lg h:Nat) (H:fx) (g:LogS) (b:Value) (k:Nat) (wr:World):Prop :=
 HostAt wr F h (H.j6 k)∧RowsAt wr (fun j=>w.heap.size≤j∧j<wr.heap.size) b (kR H.seen k)∧LogAt wr lg h {g with stamp:=ju g H.seen k}∧Ext (fun j=>F j∨j=lg) w wr∧¬(0≤H.fail∧H.fail<(k:Int))
def Gu (w:World) (lg h:Nat) (H:fx) (g:LogS) (e:Ending) (w':World):Option Nat→Prop
 | some f=>∃ v,e = .returned (.tuple #[.slice none 0 0,v])∧jZ w w' v f
 | none=>∃ v,e = .returned (.tuple #[v,.nilIface])∧RowsAt w' (fun j=>w.heap.size≤j∧j<w'.heap.size) v H.seen∧LogAt w' lg h {g with stamp:=ju g H.seen H.seen.length}
theorem Ee (w:World) (n:Nat) (m:n≤1000):RowsAt (w.alloc (.cells (madeCells #[.slice none 0 0] n) 59)) (fun j=>w.heap.size≤j∧j<w.heap.size+1) (.slice (some ⟨w.heap.size,0,none⟩) n n) (List.replicate n []):=by
 have o:(madeCells #[Value.slice none 0 0] n).size=n:=by simp [madeCells]
 have h:=OwnS.new w (madeCells #[.slice none 0 0] n) 59 0 0 0 1 n n (aK _) (af _) (by have:maxLen=9223372036854775807:=rfl;omega) (by omega) (.inl (by omega))
 have e:(madeCells #[Value.slice none 0 0] n).toList.take (n*1)=List.replicate n (.slice none 0 0):=by
  rw [ei,Nat.mul_one,aS (by simp)]
 rw [e] at h
 refine ⟨List.replicate n (.slice none 0 0),by rw [bu];exact h,fun k hk => ?_,fun k hk => ?_,fun i b l => ?_⟩
 ·cases hk
  exact ⟨_,_,fA w _⟩
 ·cases hk
  exact ⟨af _,Nat.lt_succ_self _⟩
 ·obtain ⟨hl,d⟩:=aF.1 l
  rw [List.getElem_replicate] at d
  subst d
  rw [bu] at hl
  exact ⟨_,by rw [List.getElem?_replicate,aB hl],BytesAt.nil _ _ _,CellsOf.nil _ _,fun k e=>by simp [Value.ownBlock] at e⟩
theorem uk (lg h:Nat) (F:Nat→Prop) (H:fx) (g:LogS) (B:Nat) (w:World) (hl:LogAt w lg h g) (hh:HostAt w F h H) (a1:HostOk H B) (bs:¬F lg) :
  Calls Tryz.prog 156 #[.pointer (some ⟨lg,0,none⟩)] w fun e w'=>HostAt w' F h (readAll H).1∧Ext (fun j=>F j∨j=lg) w w'∧Gu w lg h H g e w' (readAll H).2:=by
 have hn:=a1.n
 have a2:=ab (nb h F H w hh)
 have d4:=l7 h
 have d5:=kA h
 have d6:=CL h
 have d7:=xu h
 have aa:=hl
 unfold LogAt at aa
 have c0:w.cell? ⟨lg,0,none⟩=some (.iface 188 (.agg #[.pointer (some ⟨h,0,none⟩)])):=ae _ _ 0 _ _ _ aa
 have Q:=fw aa
 have HH:=ab hh
 have HL:=ab hl
 have bt:=ab hh.lt
 have bv:=ab a1
 obtain ⟨N,hN⟩:∃ N,N=H.seen.length:=⟨_,rfl⟩
 have r:=ab hN
 have d8:N≤128:=by omega
 have d9:∀ w,(Instr.makeSlice 82 (.int .i64 N) (.int .i64 N)).run Tryz.prog w = .ok (.slice (some ⟨w.heap.size,0,none⟩) N N) (w.alloc (.cells (madeCells #[.slice none 0 0] N) 59)):=fun w =>
  run_make_row' 82 59 (.slice none 0 0) 24 Tryz.underlying82 (by kernel_rfl) rfl .i64 .i64 N (by omega) (by omega) w
 rw [←hN] at a2
 clear hl aa hh a1 hN
 go_enter Tryz.func156,Tryz.ntmps156
 go_wp2_with fail
 refine a2.out.mono ?_
 rintro e w1 ⟨rfl,a3⟩
 have bw:=ab a3
 have ag:=ab (Ee w1 N (by omega))
 have a4:=a3.size
 clear a3
 go_wp2
 obtain ⟨w2,ak⟩:∃ w2,w2=w1.alloc (.cells (madeCells #[.slice none 0 0] N) 59):=⟨_,rfl⟩
 rw [←ak] at ag⊢
 have a5:Hid (Below w.heap.size w w2):=ab (by rw [ak];exact bw.out.alloc a4 _)
 have ci:w2.heap.size=w1.heap.size+1:=by rw [ak];simp
 obtain ⟨o,bx⟩:∃ o,o=w1.heap.size:=⟨_,rfl⟩
 rw [←bx] at ag⊢a4 ci
 have cl:Hid (zf w F lg h H g (.slice (some ⟨o,0,none⟩) N N) 0 w2):=ab (by
  refine ⟨by rw [AD];exact HH.out.below a5.out,?_,?_,(Ext.fD a5.out),by omega⟩
  ·have h0:kR H.seen 0=List.replicate N []:=by unfold kR;rw [r.out];simp
   rw [h0]
   exact ag.out.mono fun j d=>by omega
  ·have h0:ju g H.seen 0=g.stamp:=by unfold ju gm;simp
   rw [h0]
   exact fy a5.out (fw HL.out) HL.out)
 clear ak bx c0 a2 bw ag
 go_loopw [17] (fun i wr=>∃ k:Nat,k≤N∧i = .int .i64 (k:Int)∧zf w F lg h H g (.slice (some ⟨o,0,none⟩) N N) k wr) (fun i _=>N-(intOf i).toNat)
 case atStart=>exact ⟨0,aK _,rfl,cl.out⟩
 case round =>
  obtain ⟨k,hk,rfl,hrel⟩:=hrel
  obtain ⟨r1,r2,r3,r4,r5⟩:=hrel
  have a6:=ab r1
  have bz:=ab r2
  have bD:=ab r3
  have R:=ab r4
  have al:=ab r5
  have am:=r3
  unfold LogAt at am
  have c0:wr.cell? ⟨lg,0,none⟩=some (.iface 188 (.agg #[.pointer (some ⟨h,0,none⟩)])):=ae _ _ 0 _ _ _ am
  have dn:=fw am
  clear r1 r2 r3 am r4 r5
  by_cases Q:k<N
  ·have g1:(k:Int)<N:=by omega
   obtain ⟨q1,q2,q3⟩:=BC al.out
   obtain ⟨b,hb⟩:∃ b,H.seen[k]?=some b:=⟨_,aw (by rw [←r.out];exact Q)⟩
   have a7:=ab hb
   have a9:b.length=64:=bv.out.s64 b (aU hb)
   have bH:=ab q1
   have ct:=ab q2
   have cu:=ab q3
   have cv:N≤1000:=by omega
   have ba:Hid (k<(H.j6 k).seen.length∧(H.j6 k).seen.length≤1000):=ab (by show k<H.seen.length∧H.seen.length≤1000;rw [←r.out];exact ⟨Q,cv⟩)
   clear hb q1 q2 q3
   cases U:(H.j6 k).gy with
   | true =>
    have q:H.fail=k:=bH.out.1 U
    have bb:Hid (readAll H=((H.j6 k).asked,some (k+2))):=ab (by
     rw [cu.out q]
     unfold readAll
     rw [aB (by rw [q,←r.out];omega),q]
     rfl)
    clear q
    go_wp2_with fail
    refine (EN h F (H.j6 k) k wr a6.out ba.out.1 ba.out.2 U).mono ?_
    rintro e w5 ⟨v,rfl,bI,V,W⟩
    have cB:=ab bI
    have c1:=ab V
    have c2:=ab W
    obtain ⟨eS,rfl,-,-⟩:=bI
    clear V W
    go_wp2
    go_ret2
    rw [bb.out]
    exact ⟨c1.out,R.out.trans (c2.out.mono fun j d => .inl d),_,rfl,cB.out.mono R.out.size⟩
   | false =>
    have q:H.fail≠k:=fun e=>by rw [bH.out.2 e] at U;cases U
    have bL:=ab q
    have bM : -1≤(H.j6 k).fail∧(H.j6 k).fail≤9223372036854775807:=by
     have:=bv.out.fail
     have h5:=al.out
     unfold fx.j6
     simp only
     split <;> omega
    clear q
    go_wp2_with fail
    refine (CS h F (H.j6 k) k b wr a6.out a7.out ba.out.2 (by omega) U bM).mono ?_
    rintro e w5 ⟨v,rfl,bN,bO,bP,V,W⟩
    have bc:=ab bN
    have ap:=ab bO
    have bS:=ab bP
    have bd:=ab V
    have av:=ab W
    obtain ⟨G,I,rfl,-,-⟩:=bN.opened
    clear bO bP V W bM c0
    have bX:Hid (LogAt w5 lg h {g with stamp:=ju g H.seen k}):=ab (bD.out.ext av.out bs)
    have X:=bX.out
    unfold LogAt at X
    have d1:w5.cell? ⟨lg,1,none⟩=some (.int .u64 (ju g H.seen k:Nat)):=ae _ _ 1 _ _ _ X
    have f1:=aj _ _ 1 _ _ X
    have bi:=fw X
    clear X
    go_wp2
    have x:Hid (Below w5.heap.size w5 (w5.alloc (.cells #[.slice G b.length I,.int .i64 0,.int .i64 0,.pointer none] 211))):=ab ((Below.refl _ w5).alloc (af _) _)
    have J:=fA w5 (.cells #[.slice G b.length I,.int .i64 0,.int .i64 0,.pointer none] 211)
    have aE:Hid (CurAt (w5.alloc (.cells #[.slice G b.length I,.int .i64 0,.int .i64 0,.pointer none] 211)) w5.heap.size w5.heap.size ⟨b,0,0,none⟩):=ab ⟨aK _,af _,by unfold fX;simp only;omega,af _,_,none,J,bc.out.below x.out,fun j e=>by
     obtain ⟨C,fz,hC⟩:=ap.out j e
     exact fw hC,rfl⟩
    rw [a9] at J x aE
    obtain ⟨M,bk⟩:∃ M,M=w5.alloc (.cells #[.slice G 64 I,.int .i64 0,.int .i64 0,.pointer none] 211):=⟨_,rfl⟩
    rw [←bk] at x aE J⊢
    have eb:M.heap.size=w5.heap.size+1:=by rw [bk];simp
    have b8:w.heap.size≤o:=a4
    have Z:M.cell? ⟨lg,1,none⟩=some (.int .u64 (ju g H.seen k:Nat)):=(x.out.cell (p:=⟨lg,1,none⟩) bi).trans d1
    have e2:M.frozen? ⟨lg,1,none⟩=false:=(x.out.frozen (p:=⟨lg,1,none⟩) bi).trans f1
    clear bk d1 f1 J
    have c3:Hid (iw ((⟨b,0,0,none⟩:Cu).take 8).2=(parseSec b).stamp):=ab (by
     rw [Cu.gM,au (by omega)]
     rfl)
    refine gW (n:=10) (S:=(fun w'=>w'.cell? ⟨lg,1,none⟩=some (.int .u64 (ju g H.seen k:Nat)))) (by kernel_rfl) (by kernel_rfl) rfl (by first | exact Z | exact Y) ?_
    intro dp
    simp only [cH,bW,cw,cG,bj,bY,aZ,bm,bJ,aO,aV]
    refine wpAnyH_take (i:=0) (v := ?_) rfl (by kernel_rfl) (by kernel_rfl) (by kernel_rfl) (fun _ _ _ h=>h) (Or.inl ⟨by rfl,?_⟩) (by assumption) ?_
    rotate_left 1
    ·(intro w l;(try dsimp only at l);go_simp;(try with_reducible rfl))
    try simp only [Act.put,ah,ai]
    refine wpAnyH_take (i:=1) (v := ?_) rfl (by kernel_rfl) (by kernel_rfl) (by kernel_rfl) (fun _ _ _ h=>h) (Or.inl ⟨by rfl,?_⟩) (by assumption) ?_
    rotate_left 1
    ·(intro w l;(try dsimp only at l);go_simp;(try with_reducible rfl))
    try simp only [Act.put,ah,ai,ao]
    refine wpAnyH_take (i:=2) (v := ?_) rfl (by kernel_rfl) (by kernel_rfl) (by kernel_rfl) (fun _ _ _ h=>h) (Or.inl ⟨by rfl,?_⟩) (by assumption) ?_
    rotate_left 1
    ·(intro w l;(try dsimp only at l);go_simp;(try with_reducible rfl))
    try simp only [Act.put,ah,ai,ao]
    refine wpAnyH_take (i:=3) (v := ?_) rfl (by kernel_rfl) (by kernel_rfl) (by kernel_rfl) (fun _ _ _ h=>h) (Or.inl ⟨by rfl,?_⟩) (by assumption) ?_
    rotate_left 1
    ·(intro w l;(try dsimp only at l);go_simp;(try with_reducible rfl))
    try simp only [Act.put,ah,ai,ao]
    refine wpAnyH_take (i:=4) (v := ?_) rfl (by kernel_rfl) (by kernel_rfl) (by kernel_rfl) (fun _ _ _ h=>h) (Or.inl ⟨by rfl,?_⟩) (by assumption) ?_
    rotate_left 1
    ·(intro w l;(try dsimp only at l);go_simp;(try with_reducible rfl))
    try simp only [Act.put,ah,ai,ao]
    refine wpAnyH_take (i:=5) (v := ?_) rfl (by kernel_rfl) (by kernel_rfl) (by kernel_rfl) (fun _ _ _ h=>h) (Or.inl ⟨by rfl,?_⟩) (by assumption) ?_
    rotate_left 1
    ·(intro w l;(try dsimp only at l);go_simp;(try with_reducible rfl))
    try simp only [Act.put,ah,ai,ao]
    refine wpAnyH_ready (rs:=[6]) (by kernel_rfl) (by simp) ?_
    refine AllReadyH.cons rfl ?_ AllReadyH.nil
    intro K' hK'
    go_simp;go_at_call 120;refine (lL w5.heap.size w5.heap.size ⟨b,0,0,none⟩ _ (by first | exact aE.out | exact aE.out.fP ((Below.refl _ M).drew)) (by show w5.heap.size≤M.heap.size;omega)).mono ?_;rintro e m ⟨rfl,cb,y⟩;have bl:Hid (Ext (fun j=>j=w5.heap.size) M m):=ab ⟨y.os,y.tape,y.output,y.size,fun j d c4=>y.block j d fun e=>c4 (by cases e;rfl)⟩;have Y:m.cell? ⟨lg,1,none⟩=some (.int .u64 (ju g H.seen k:Nat)):=bl.out.cell (p:=⟨lg,1,none⟩) (by show lg≠w5.heap.size;omega) Z;clear cb y;rw [c3.out];refine hK'.out _ _ Y ?_
    clear hK' K'
    intro ds
    try simp only [ah,ai,ao]
    refine wpAnyH_ready (rs:=[7]) (by kernel_rfl) (by simp) ?_
    refine AllReadyH.cons rfl ?_ AllReadyH.nil
    intro K' hK'
    go_simp
    refine hK'.out _ _ (by first | exact Z | exact Y) ?_
    clear hK' K'
    intro dv
    try simp only [ah,ai,ao]
    refine wpAnyH_take (i:=8) (v := ?_) rfl (by kernel_rfl) (by kernel_rfl) (by kernel_rfl) (fun _ _ _ h=>h) (Or.inl ⟨by rfl,?_⟩) (by assumption) ?_
    rotate_left 1
    ·(intro w l;(try dsimp only at l);go_simp;(try with_reducible rfl))
    try simp only [Act.put,ah,ai,ao]
    refine wpAnyH_take (i:=9) (v := ?_) rfl (by kernel_rfl) (by kernel_rfl) (by kernel_rfl) (fun _ _ _ h=>h) (Or.inl ⟨by rfl,?_⟩) (by assumption) ?_
    rotate_left 1
    ·(intro w l;(try dsimp only at l);go_simp;(try with_reducible rfl))
    try simp only [Act.put,ah,ai,ao]
    refine wpAnyH_done (by kernel_rfl) ?_ _
    show Oper.wp _ _ _ _ _ _
    have e7:m.cell? ⟨lg,1,none⟩=some (.int .u64 (ju g H.seen k:Nat)):=Y
    have e8:m.frozen? ⟨lg,1,none⟩=false:=by
     rw [←e2]
     exact cP (w:=M) (a:=⟨lg,1,none⟩) (bl.out.block lg (by omega) (by show lg≠w5.heap.size;omega))
    have D:Hid (Ext (fun j=>j=w5.heap.size) w5 m):=ab ((Ext.fD x.out).trans bl.out)
    clear Z e2 Y
    have ec:=R.out.size
    have c5:=av.out.size
    have c6:=D.out.size
    have d0:=fw HL.out
    have b0:Hid (RowsAt m (fun j=>w.heap.size≤j∧j<wr.heap.size) (.slice (some ⟨o,0,none⟩) N N) (kR H.seen k)):=ab (bz.out.fP (aH c5 c6) fun j C t fz d _ hF=>(D.out.block j (by omega) (by show j≠w5.heap.size;omega)).trans (av.out.block j (by omega) fun e=>by have:=bt.out j e;omega))
    have a0:Hid ((kR H.seen k).length=N):=ab (by rw [BF (by rw [←r.out];omega),r.out])
    obtain ⟨gs,os,cap,u0,b1,s0,sf,-,-⟩:=b0.out.store (n:=k) (by rw [a0.out];exact Q)
    obtain ⟨Z,e2,e3⟩:=Value.slice.inj b1
    obtain ⟨rfl,rfl⟩:o=gs∧0=os:=by cases Z;exact ⟨rfl,rfl⟩
    rw [bE] at s0 sf
    have ed:=fE s0
    have eg:o≠lg:=by omega
    have ce:Hid (iP m (fun j=>w.heap.size≤j∧j<m.heap.size) (.slice G 64 I) b):=ab (by
     have h1:iP w5 (fun j=>w.heap.size≤j∧j<m.heap.size) (.slice G b.length I) b:=⟨bc.out,ap.out,fun j e=>by
      have h2:=bS.out j e
      obtain ⟨C,fz,hC⟩:=ap.out j e
      have:=fw hC
      omega⟩
     rw [a9] at h1
     exact h1.fP fun j C fz d _=>D.out.block j (fw d) (by show j≠w5.heap.size;have:=fw d;omega))
    clear Z e2 e3 b1 ap bc bS
    go_wp2
    obtain ⟨w8,E⟩:∃ w8,w8=m.setCell ⟨lg,1,none⟩ (.int .u64 (max (ju g H.seen k:Int) ((parseSec b).stamp:Int))):=⟨_,rfl⟩
    have c8:Hid (LogAt w8 lg h {g with stamp:=ju g H.seen (k+1)}):=ab (by
     rw [E,zv a7.out]
     have h1:=heap_setCell m lg 1 (.int .u64 (max (ju g H.seen k:Int) ((parseSec b).stamp:Int))) (D.out.at (by show lg≠w5.heap.size;omega) bX.out)
     rw [show (max (ju g H.seen k:Int) ((parseSec b).stamp:Int))=((max (ju g H.seen k) (parseSec b).stamp:Nat):Int) by omega] at h1⊢
     exact h1)
    have O:∀ j,j≠lg→w8.heap[j]?=m.heap[j]?:=fun j d=>by rw [E];exact Below.heap_setCell m ⟨lg,1,none⟩ _ j d
    have ej:w8.heap.size=m.heap.size:=by rw [E,size_setCell]
    have c9:Hid (Ext (fun j=>F j∨j=lg) w w8):=ab (by
     rw [E]
     exact ((R.out.trans (av.out.mono fun j d => .inl d)).trans' D.out fun j d => .inr (by have el:j=w5.heap.size:=d;omega)).setCell _ _ (.inl (.inr rfl)))
    have da:Hid (RowsAt w8 (fun j=>w.heap.size≤j∧j<m.heap.size) (.slice (some ⟨o,0,none⟩) N N) (kR H.seen k)):=ab ((b0.out.fP (by omega) fun j C t fz d _ hF=>O j (by omega)).mono fun j d=>by omega)
    have dc:Hid (iP w8 (fun j=>w.heap.size≤j∧j<m.heap.size) (.slice G 64 I) b):=ab (ce.out.fP fun j C fz d hF=>O j (by omega))
    have dk:Hid (HostAt w8 F h (H.j6 k).asked):=ab (bd.out.frame (by omega) fun j d=>(O j (fun e=>bs (e▸d))).trans (D.out.block j (bd.out.lt j d) (by show j≠w5.heap.size;have:=bd.out.lt j d;omega)))
    rw [←E]
    clear E
    have bn:=RowsAt.set (w:=w8) (w':=w8.setCell ⟨o,0+k,none⟩ (.slice G 64 I)) (gs:=o) (os:=0) (cap:=N) (n:=k) (rows:=kR H.seen k) (F:=fun j=>w.heap.size≤j∧j<m.heap.size) (u := .slice G 64 I) (s:=b) (by rw [a0.out];exact da.out) (by rw [a0.out];exact Q) (fun _ _ _=>dc.out) rfl
    rw [a0.out,bE,←y7 a7.out] at bn
    refine ⟨⟨k+1,by omega,by go_num,?_,bn.mono fun j d=>by rw [size_setCell];omega,?_,c9.out.setCell _ _ (.inr b8),?_⟩,by simp [intOf];omega⟩
    ·rw [←ct.out bL.out]
     exact dk.out.frame (by rw [size_setCell];exact af _) fun j d=>Below.heap_setCell w8 ⟨o,k,none⟩ _ j (by show j≠o;have:=bt.out j d;omega)
    ·exact (Below.heap_setCell w8 ⟨o,k,none⟩ _ lg (by show lg≠o;omega)).trans c8.out
    ·intro hc
     exact al.out ⟨hc.1,by have:=bL.out;omega⟩
  ·obtain rfl:k=N:=by omega
   have bb:Hid (readAll H=(H.j6 k,none)):=ab (by
    unfold readAll fx.j6
    rw [au (by rw [←r.out];exact al.out),←r.out])
   go_wp2
   go_ret2
   rw [bb.out]
   have h1:kR H.seen k=H.seen:=by unfold kR;rw [r.out,bp,dU];simp
   exact ⟨a6.out,R.out,⟨_,rfl,by rw [←h1];exact bz.out,by rw [←r.out];exact bD.out⟩⟩
end Go.Proofs.YtkkfmkhbdoeglaaGreatDoor
