/- A part of what is proved here: lemmas and contracts of single functions. No condition but those that each names. -/
import Derived.Test.YtkkfmkhbdoeglabGreatDoorG00
import Derived.Deep.DeepCutAuto
import Derived.Deep.RegionLaw
import Derived.Test.YtkkfmkhbdoeglabGreatDoorG06
import Derived.Test.YtkkfmkhbdoeglabGreatDoorG14
set_option maxHeartbeats 2000000
set_option maxRecDepth 100000
namespace Go.Proofs.YtkkfmkhbdoeglabGreatDoor
open Go.RowKit
def BO (l:List UInt8) (w:World) (e:Ending) (w':World):Prop :=
 Below w.heap.size w w'∧match pt l with
  | .inl (n,os)=>∃ b,e = .returned (.tuple #[.agg #[.int .u64 n,b],.nilIface])∧OwnS w' w.heap.size 4 b os.length (gx os)
  | .inr (k,p)=>∃ ev,e = .returned (.tuple #[.agg #[.int .u64 0,.slice none 0 0],ev])∧ja w' w.heap.size ev k p
theorem CurAt.fault {w:World} {base c:Nat} {cu:Cu} {k p:Nat} (h:CurAt w base c cu) (b:cu.f=some (k,p)):∃ g,w.cell? ⟨c,3,none⟩=some (.pointer (some ⟨g,0,none⟩))∧base≤g∧w.heap[g]?=some (.cells #[.int .i64 k,.int .i64 p,.nilIface] 186 (0,0)):=by
 obtain ⟨h1,h2,h3,h4,v,fp,h5,h6,h7,h8⟩:=h
 rw [b] at h8
 obtain ⟨g,rfl,d,i⟩:=h8
 exact ⟨g,ae w c 3 _ _ _ h5,d,i⟩
theorem OwnS.j4 {w:World} {base:Nat} {v:Value} {n:Nat} {xs:List Value} (h:OwnS w base 4 v n xs) (i:0<n):∀ g,v.ownBlock=some g→∀ k m:Int,w.heap[g]?≠some (.cells #[.int .i64 k,.int .i64 m,.nilIface] 186 (0,0)):=by
 intro g b k m e
 obtain ⟨_,⟨rfl,_⟩ | ⟨j,off,cap,rfl,_,_,hc,_,_,d⟩⟩:=h
 ·cases b
 ·cases b
  have:=(d 3 (by omega)).1
  unfold World.cell? at this
  rw [e] at this
  simp at this
def vp (w5:World) (base c r D n V:Nat) (C:Cu) (i:Value) (wr:World):Prop :=
 ∃ (k:Nat) (cu:Cu) (d:List K) (os:List OpB) (b:Value),k≤n∧i = .int .i64 k∧iL n C [] []=iL (n-k) cu d os∧os.length=k∧(k=0→b = .slice none 0 0)∧CurAt wr base c cu∧
  (cu.f=none→gQ wr r d)∧wr.heap[D]?=some (.cells #[.int .u64 V,b] 51 (0,0))∧OwnS wr (r+1) 4 b os.length (gx os)∧Ext (fun i=>i=c∨i=r∨i=D) w5 wr
theorem vp.step {w5 wr q s:World} {base c r D n V k:Nat} {C cu':Cu} {N:List K} {os:List OpB} {o:OpB} {B E:Option Addr} {l x:Nat} {X:Obj}
  (Y:iL n C [] []=iL (n-(k+1)) cu' (N++[(o.table,o.key)]) (os++[o])) (hk:k+1≤n) (Z:os.length=k) (O:k=0→Value.slice B os.length l = .slice none 0 0)
  (Q:CurAt q base c cu') (R:cu'.f=none→gQ q r (N++[(o.table,o.key)])) (D6:q.heap[D]?=some (.cells #[.int .u64 V,.slice B os.length l] 51 (0,0)))
  (y:OwnS q (r+1) 4 (.slice B os.length l) os.length (gx os)) (F:OwnS s (r+1) 4 (.slice E (os.length+1) x) (os.length+1) (gx (os++[o])))
  (d:(q.alloc X).grownBy s (Value.slice B os.length l).ownBlock) (hx:Ext (fun i=>i=c∨i=r∨i=D) w5 wr) (u:Ext (fun i=>i=c∨i=r) wr.drew q)
  (ag:c<D) (a3:D<r) (_hr:r<wr.heap.size) (a4:w5.heap.size=r+1) :
  vp w5 base c r D n V C (.int .i64 ((k+1:Nat):Int)) (s.setCell ⟨D,1,none⟩ (.slice E (os.length+1) x)):=by
 have a5:wr.heap.size≤q.heap.size:=u.size
 have a6:q.heap.size≤s.heap.size:=aH (by simp) d.size
 have G:s.grownBy (s.setCell ⟨D,1,none⟩ (.slice E (os.length+1) x)) (some D):=grownBy_set (Below.refl _ s) 1 _
 have I:∀ b,(Value.slice B os.length l).ownBlock=some b→r+1≤b:=y.gh
 have M:s.heap[D]?=some (.cells #[.int .u64 V,.slice B os.length l] 51 (0,0)) :=
  (d.block D (by simp;have:=fO D6;omega) (fun e=>by have:=I D e.symm;omega)).trans (fX q X D6)
 have S:CurAt s base c cu':=by
  have ha:=Q.gr ((Below.refl _ q).alloc (af _) X)
  cases m:(Value.slice B os.length l).ownBlock with
  | none =>
   rw [m] at d
   exact ha.gr ⟨d.os,d.tape,d.output,d.size,fun j U=>d.block j U (by simp)⟩
  | some b =>
   rw [m] at d
   have hb:=I b m
   have W:0<os.length:=by
    by_cases h0:k=0
    ·rw [O h0] at m;cases m
    ·omega
   refine ha.grown d (by omega) (fun k' m' e => ?_)
   have J:=y.gP b m
   rw [heap_alloc_old q X J] at e
   exact y.j4 W b m k' m' e
 refine ⟨k+1,cu',N++[(o.table,o.key)],os++[o],.slice E (os.length+1) x,hk,rfl,Y,by simp [Z],fun h=>absurd h (by omega),?_,fun hf => ?_,?_,?_,?_⟩
 ·exact S.grown G ag (fun k' m' e=>by rw [M] at e;simp at e)
 ·have h1:=R hf
  refine fY.gr h1 ?_
  have hl:=h1.lt
  exact (G.block r (by omega) (fun e=>by cases e;omega)).trans ((d.block r (by simp;omega) (fun e=>by have:=I r e.symm;omega)).trans (heap_alloc_old q X hl))
 ·exact heap_setCell s D 1 _ M
 ·have e:(os++[o]).length=os.length+1:=by simp
  rw [e]
  exact F.frame (by rw [size_setCell];exact af _) (fun b hb J=>G.block b J (fun e=>by cases e;have:=F.gh _ hb;omega))
 ·have x1:Ext (fun i=>i=c∨i=r∨i=D) w5 q:=hx.trans' (T:=fun i=>i=c∨i=r) ⟨u.os,u.tape,u.output,u.size,u.block⟩ (fun i e => .inl (by rcases e with e | e;exact .inl e;exact .inr (.inl e)))
  have x2:=x1.alloc X
  have x3:Ext (fun i=>i=c∨i=r∨i=D) w5 s:=by
   cases m:(Value.slice B os.length l).ownBlock with
   | none =>
    rw [m] at d
    exact x2.rT ⟨d.os,d.tape,d.output,d.size,fun j U=>d.block j U (by simp)⟩
   | some b =>
    rw [m] at d
    exact x2.grow d (.inr (by have:=I b m;omega))
  exact x3.grow G (.inl (.inr (.inr rfl)))
theorem Gm (base c r:Nat) (cu cu':Cu) (b:List K) (o:OpB) (w:World) (h:CurAt w base c cu) (hm:gQ w r b) (m:ShapesVar w) (d:2≤base) (q:base≤w.heap.size) (j:c<r) (l:cu.op b=(cu',o)) :
  Calls Tryz.prog 187 #[.pointer (some ⟨c,0,none⟩),.map (some r)] w fun e w'=>e = .returned (.agg #[.int .i64 o.kind,.int .i64 o.table,.string ⟨o.key.toArray⟩,.string ⟨o.val.toArray⟩])∧CurAt w' base c cu'∧(cu'.f=none→gQ w' r (b++[(o.table,o.key)]))∧Ext (fun i=>i=c∨i=r) w w':=by
 have h1:cu'=(cu.op b).1:=by rw [l]
 have h2:o=(cu.op b).2:=by rw [l]
 subst h1 h2
 exact IS base c r cu b w h hm m d q j
theorem DR {k:List UInt8} (h:k.length=1):∃ a,k=[a]:=by
 match k,h with
 | [a],_=>exact ⟨a,rfl⟩
theorem vq (v:Value) (l:List UInt8) (w:World) (hv:BytesAt w v l) (c5:∀ b,v.ownBlock=some b→b<w.heap.size) (hl:l.length≤gF) (hg:ShapesVar w) :
  Calls Tryz.prog 151 #[v] w (BO l w):=by
 obtain ⟨va,G,rfl,-,-⟩:=hv.opened
 have b6:=hg.two
 have HG:=ab hg
 have bx:BytesAt ((w.alloc (.cells #[.int .u64 0,.slice none 0 0] 51)).alloc (.cells #[.slice va l.length G,.int .i64 0,.int .i64 0,.pointer none] 254)) (.slice va l.length G) l:=hv.below (((Below.refl _ w).alloc (af _) _).alloc (by simp) _)
 have R:CurAt ((w.alloc (.cells #[.int .u64 0,.slice none 0 0] 51)).alloc (.cells #[.slice va l.length G,.int .i64 0,.int .i64 0,.pointer none] 254)) w.heap.size (w.heap.size+1) ⟨l,0,0,none⟩:=by
  refine ⟨aM _,af _,hl,by omega,.slice va l.length G,none,?_,bx,fun b hb=>by have:=c5 b hb;omega,rfl⟩
  have:=fR (w.alloc (.cells #[.int .u64 0,.slice none 0 0] 51)) (.cells #[.slice va l.length G,.int .i64 0,.int .i64 0,.pointer none] 254)
  simpa using this
 have c6:=ab R
 clear R bx hg
 obtain ⟨a,hA⟩:∃ a,a=Cu.take ⟨l,0,0,none⟩ 8:=⟨_,rfl⟩
 have HA:=ab hA
 go_enter Tryz.func151,Tryz.ntmps151
 go_wp2_with fail
 refine (mJ w.heap.size (w.heap.size+1) ⟨l,0,0,none⟩ _ c6.out (by simp;omega)).mono ?_
 rintro e w1 ⟨rfl,av,I⟩
 rw [←HA.out] at av⊢
 clear hA
 have fb:w.heap.size+1+1≤w1.heap.size:=by simpa using I.size
 have A1:Hid (w1.heap[w.heap.size]?=some (.cells #[.int .u64 0,.slice none 0 0] 51 (0,0))):=ab (carry I (fX _ _ (fR w _)) (by omega))
 have gc:Below w.heap.size w w1:=⟨I.os,I.tape,I.output,by omega,fun k hk=>(I.block k (by simp;omega) (fun e=>by cases e;omega)).trans ((heap_alloc_old _ _ (by simp;omega)).trans (heap_alloc_old _ _ hk))⟩
 obtain ⟨V,hV⟩:∃ V,V=iP a.2:=⟨_,rfl⟩
 have HV:=ab hV
 rw [←hV]
 clear hV
 have D1:=fR w1 (.cells #[.int .u64 V,.slice none 0 0] 51)
 have bz:=ab D1
 clear D1
 go_wp2_with fail
 refine (jO V _).mono ?_
 rintro e w2 ⟨rfl,rfl⟩
 go_wp2_with fail
 refine (iO w.heap.size (w.heap.size+1) a.1 (isVersionB V) 4 _ (av.gr ((Below.refl _ w1).alloc (af _) _)) (by simp;omega)).mono ?_
 rintro e w2 ⟨rfl,bc,y⟩
 have fc:w1.heap.size+1≤w2.heap.size:=by simpa using y.size
 have A2:=ab (carry y (fX w1 _ A1.out) (by omega))
 have D2:=ab (carry y bz.out (by omega))
 have ge:Below w.heap.size w w2:=⟨y.os.trans gc.os,y.tape.trans gc.tape,y.output.trans gc.output,by omega,fun k hk=>(y.block k (by simp;omega) (fun e=>by cases e;omega)).trans ((heap_alloc_old _ _ (by omega)).trans (gc.block k hk))⟩
 obtain ⟨b,O⟩:∃ b,b=(a.1.jC (isVersionB V) 4).take 1:=⟨_,rfl⟩
 have HB:=ab O
 clear O
 go_wp2_with fail
 refine (jU w.heap.size (w.heap.size+1) _ 1 _ bc (by omega) (by decide) (by decide)).mono ?_
 rintro e w3 ⟨vv,rfl,a2,-,X,B⟩
 rw [←HB.out] at a2 X
 have fd:=B.size
 have A3:=ab (carry B A2.out (by omega))
 have D3:=ab (carry B D2.out (by omega))
 have gf:Below w.heap.size w w3:=⟨B.os.trans ge.os,B.tape.trans ge.tape,B.output.trans ge.output,by omega,fun k hk=>(B.block k (by omega) (fun e=>by cases e;omega)).trans (ge.block k hk)⟩
 obtain ⟨x,hx⟩:=DR (show b.2.length=1 by rw [HB.out,Cu.take_length])
 rw [hx] at a2
 have HX:=ab hx
 clear hx
 obtain ⟨fg,eT,rfl,a3,bD⟩:=a2.opened
 obtain ⟨xb,xo,rfl,R⟩:=bD 0 (by simp)
 simp only [cz,cj] at R
 have ca:=fU R
 have dp:=x.toNat_lt
 simp only [ar,aJ] at a3
 clear bD a2
 obtain ⟨C,hC⟩:∃ C,C=b.1.jC (decide (1≤x.toNat)&&decide (x.toNat≤8)) 5:=⟨_,rfl⟩
 have HC:=ab hC
 clear hC
 go_upto_region 5 with fail
 go_cut [] (fun wx=>CurAt wx w.heap.size (w.heap.size+1) C∧wx.heap[w.heap.size]?=some (.cells #[.int .u64 0,.slice none 0 0] 51 (0,0))∧wx.heap[w1.heap.size]?=some (.cells #[.int .u64 V,.slice none 0 0] 51 (0,0))∧Below w.heap.size w wx)
 case first =>
  have fin:∀ (Y:World),w3.grownBy Y (some (w.heap.size+1))→Y.heap[w.heap.size]?=some (.cells #[.int .u64 0,.slice none 0 0] 51 (0,0))∧Y.heap[w1.heap.size]?=some (.cells #[.int .u64 V,.slice none 0 0] 51 (0,0))∧Below w.heap.size w Y:=fun Y q =>
   ⟨carry q A3.out (by omega),carry q D3.out (by omega),q.os.trans gf.os,q.tape.trans gf.tape,q.output.trans gf.output,by have:=q.size;omega,fun k hk=>(q.block k (by omega) (fun e=>by cases e;omega)).trans (gf.block k hk)⟩
  have bH:=ab fin
  clear fin
  by_cases h1:x.toNat<1
  ·have dv:(x.toNat:Int)<1:=by omega
   have gl:Hid (C=b.1.jC false 5):=ab (by rw [HC.out,show decide (1≤x.toNat)=false from bY (by omega)];rfl)
   go_wp2_with fail
   refine (iO w.heap.size (w.heap.size+1) b.1 false 5 _ X (by omega)).mono ?_
   rintro e Y ⟨rfl,s,q⟩
   rw [←gl.out] at s
   have bk:=bH.out Y q
   go_wp2_with fail
   go_meet
   exact ⟨s,bk⟩
  ·have dv:(1:Int)≤x.toNat:=by omega
   have gl:Hid (C=b.1.jC (decide ((x.toNat:Int)≤8)) 5):=ab (by rw [HC.out,show decide (1≤x.toNat)=true from cK (by omega),Bool.true_and,show decide ((x.toNat:Int)≤8)=decide (x.toNat≤8) from by rw [dI,decide_eq_true_iff,decide_eq_true_iff];omega])
   go_wp2_with fail
   refine (iO w.heap.size (w.heap.size+1) b.1 _ 5 _ X (by omega)).mono ?_
   rintro e Y ⟨rfl,s,q⟩
   rw [←gl.out] at s
   have bk:=bH.out Y q
   go_wp2_with fail
   go_meet
   exact ⟨s,bk⟩
 case rest =>
  obtain ⟨s,bI,a4,bL⟩:=hcut
  have a5:w1.heap.size<wc.heap.size:=fO a4
  have aE:Hid (pt l=match (iL x.toNat C [] []).1.ended.f with | some f => .inr f | none => .inl (V,(iL x.toNat C [] []).2)):=ab (by
   unfold pt
   simp only [←HA.out,←HV.out,←HB.out,HX.out,fx,←HC.out]
   generalize iL x.toNat C [] []=L
   cases L.1.ended.f <;> rfl)
  obtain ⟨n,hn⟩:∃ n,n=x.toNat:=⟨_,rfl⟩
  rw [←hn] at aE dp
  rw [←hn]
  obtain ⟨D,hD⟩:∃ D,D=w1.heap.size:=⟨_,rfl⟩
  rw [←hD] at a4 a5
  rw [←hD]
  have dT:w.heap.size+1<D:=by omega
  clear hn hD R ca X a3 HA HB HC HX HV bc av
  clear A3 D3 A2 D2 A1 bz I y B gc ge gf
  have d0 := @run_makeMap Tryz.prog
  go_wp2
  generalize ak:wc.alloc (.map #[] 0)=w5
  have r5:gQ w5 wc.heap.size []:=by rw [←ak];exact fY.new wc
  have s5:wc.heap.size+1≤w5.heap.size:=by rw [←ak];simp
  have t5:Below wc.heap.size wc w5:=by rw [←ak];exact (Below.refl _ wc).alloc (af _) _
  have bM:Hid (w5.heap.size=wc.heap.size+1):=ab (by rw [←ak];simp)
  clear ak d0
  obtain ⟨r,hr⟩:∃ r,r=wc.heap.size:=⟨_,rfl⟩
  have b5:Below w.heap.size w w5:=bL.trans (t5.mono (by omega))
  have A5:=ab (fQ t5 (by omega) bI)
  have h0:vp w5 w.heap.size (w.heap.size+1) r D n V C (.int .i64 0) w5 :=
   ⟨0,C,[],[],.slice none 0 0,aM _,rfl,rfl,rfl,fun _=>rfl,s.gr t5,fun _=>by rw [hr];exact r5,fQ t5 a5 a4,OwnS.nil _ _ _,Ext.refl _ _⟩
  rw [←hr] at s5 bM a5
  rw [←hr]
  clear hr r5 t5 s bI a4 bL
  go_loopw [8] (fun i wr=>vp w5 w.heap.size (w.heap.size+1) r D n V C i wr) (fun i _=>n-(intOf i).toNat)
  case atStart=>exact h0
  case round =>
   clear h0
   obtain ⟨k,cu,ks,os,sv,fi,rfl,bN,bO,bl,al,bP,bS,J,hx⟩:=hrel
   obtain ⟨u,d,rfl⟩:=J.shape
   have fk:=hx.size
   have M:Below w.heap.size w wr:=b5.trans (hx.below (by have:=b5.size;omega) (fun j hj e=>by omega))
   have AR:=ab (hx.at (fun e=>by omega) A5.out)
   have S:=ab bS
   have bX:=ab bN
   have b0:=ab bO
   have d1:wr.cell? ⟨D,1,none⟩=some (.slice u os.length d):=ae _ _ 1 _ _ _ S.out
   have f1:=aj _ _ 1 _ _ S.out
   have fl:=fO S.out
   clear bS bN bO
   have fn:=al.lt
   by_cases a6:k<n∧cu.f=none
   ·obtain ⟨m,F⟩:=a6
    have e3:(k:Int)<n:=by omega
    have k3:=al.j4 F
    obtain ⟨cu',o,ho⟩:∃ cu' o,cu.op ks=(cu',o):=⟨_,_,rfl⟩
    have d8:Hid (iL n C [] []=iL (n-(k+1)) cu' (ks++[(o.table,o.key)]) (os++[o])):=ab (by
     rw [bX.out,show n-k=(n-(k+1))+1 by omega,iL,F,ho])
    have d9:=ab (fun W h1 h2 h3 h4=>Gm w.heap.size (w.heap.size+1) r cu cu' ks o W h1 h2 h3 b6 h4 (by omega) ho)
    have ea:ShapesVar wr:=HG.out.new M
    have b1:=bP F
    have Z:w.heap.size≤wr.heap.size:=M.size
    have eb:r<wr.heap.size:=b1.lt
    have fo:os.length≤300:=by have:=b0.out;omega
    have cp:=ab bl
    clear ho bP bl
    go_wp2
    go_region_law
     ((first
       | (refine uS rfl (.tmp 47) (.tmp 51) rfl (r+1) (.slice u os.length d) os rfl (by exact a7.below ((Below.refl _ w6).alloc (af _) _)) [o] (by exact wM w6 o) (by simp;omega) (by simp at ec⊢;omega) ?_;intro v7 w7 aa ed eg e5;
          obtain ⟨fp,e6,rfl⟩:=aa.shape;
          have D7:=ab (fQ eg (by omega) (fX w6 (.cells #[.int .i64 o.kind,.int .i64 o.table,.string ⟨o.key.toArray⟩,.string ⟨o.val.toArray⟩] 105) D6.out));
          have d7:w7.cell? ⟨D,1,none⟩=some (.slice u os.length d):=ae _ _ 1 _ _ _ D7.out;
          have f7:=aj _ _ 1 _ _ D7.out;have fr:=fO D7.out)
       | (go_simp;go_at_call 187;refine (d9.out _ (by exact al) (by exact b1) (by exact ea.new ((Below.refl _ wr).drew)) (by exact Z)).mono ?_;rintro e w6 ⟨rfl,cs,ct,U⟩;
          have d6:w6.cell? ⟨D,1,none⟩=some (.slice u os.length d):=U.cell (w:=wr.drew) (by simp;omega) d1;
          have D6:=ab (U.at (w:=wr.drew) (fun e=>by rcases e with e | e <;> omega) S.out);
          have a7:OwnS w6 (r+1) 4 (.slice u os.length d) os.length (gx os):=OwnS.frame (w:=wr.drew) J U.size (fun b hb m=>U.block b m (fun e=>by have:=J.gh b hb;rcases e with e | e <;> omega));
          have ec:=U.size;have fv:=fO D6.out)))
    all_goals
     go_wp2
     go_roundw
     case rel =>
      have e7:(os++[o]).length=os.length+1:=by simp
      rw [e7] at aa
      exact vp.step d8.out m b0.out cp.out cs ct D6.out a7 aa ed hx U dT a5 eb bM.out
     case measure=>simp [intOf];omega
   ·have bo:(iL n C [] []).1=cu∧(cu.f=none→(iL n C [] []).2=os):=by
     rw [bX.out]
     by_cases m:k<n
     ·cases F:cu.f with
      | none=>exact absurd ⟨m,F⟩ a6
      | some f=>exact ⟨sr _ _ _ _ f F,fun h=>by cases h⟩
     ·rw [show n-k=0 by omega]
      exact ⟨rfl,fun _=>rfl⟩
    have a0:=ab bo
    clear bo
    have bw:(¬(k:Int)<n)∨((k:Int)<n∧∃ g,wr.cell? ⟨w.heap.size+1,3,none⟩=some (.pointer (some ⟨g,0,none⟩))):=by
     by_cases m:k<n
     ·cases F:cu.f with
      | none=>exact absurd ⟨m,F⟩ a6
      | some f=>exact .inr ⟨by omega,al.qL (by rw [F];simp)⟩
     ·exact .inl (by omega)
    have HR:=ab S.out
    have Z:w.heap.size≤wr.heap.size:=M.size
    clear a6 d1 f1
    have cv:=ab (fun W=>yd w.heap.size (w.heap.size+1) cu W)
    rcases bw with m | ⟨m,gg,b2⟩
    all_goals
     go_wp2_with fail
     refine (cv.out _ al Z).mono ?_
     rintro e w8 ⟨rfl,a1,E⟩
     have ej:=E.size
     have Q:=ab (carry E AR.out (by omega))
     have D8:=ab (carry E S.out (by omega))
     have b8:Below w.heap.size w w8:=⟨E.os.trans M.os,E.tape.trans M.tape,E.output.trans M.output,by omega,fun j hj=>(E.block j (by omega) (fun e=>by cases e;omega)).trans (M.block j hj)⟩
     have e8:=a1.lt
     have p0:w8.cell? ⟨w.heap.size,0,none⟩=some (.int .u64 0):=ae _ _ 0 _ _ _ Q.out
     have p1:w8.cell? ⟨w.heap.size,1,none⟩=some (.slice none 0 0):=ae _ _ 1 _ _ _ Q.out
     have e0:=aj _ _ 0 _ _ Q.out
     have e1:=aj _ _ 1 _ _ Q.out
     have fz:=fO Q.out
     cases N:cu.ended.f with
     | some kp =>
      obtain ⟨kk,pp⟩:=kp
      obtain ⟨g,en,c0,b3⟩:=a1.fault N
      have HP:Hid (pt l = .inr (kk,pp)):=ab (by rw [aE.out,a0.out.1,N])
      have b4:=ab b3
      clear N b3
      try clear b2
      go_wp2
      go_region
      have x0:((w8.setCell ⟨w.heap.size,0,none⟩ (.int .u64 0)).setCell ⟨w.heap.size,1,none⟩ (.slice none 0 0)).cell? ⟨w.heap.size,0,none⟩=some (.int .u64 0):=ae _ _ 0 _ _ _ (heap_setCell _ _ 1 _ (heap_setCell _ _ 0 _ Q.out))
      have x1:((w8.setCell ⟨w.heap.size,0,none⟩ (.int .u64 0)).setCell ⟨w.heap.size,1,none⟩ (.slice none 0 0)).cell? ⟨w.heap.size,1,none⟩=some (.slice none 0 0):=ae _ _ 1 _ _ _ (heap_setCell _ _ 1 _ (heap_setCell _ _ 0 _ Q.out))
      have am:g≠w.heap.size:=fun e=>by have h1:=b4.out;have h2:=Q.out;rw [e,h2] at h1;simp at h1
      have er:((w8.setCell ⟨w.heap.size,0,none⟩ (.int .u64 0)).setCell ⟨w.heap.size,1,none⟩ (.slice none 0 0)).heap[g]?=some (.cells #[.int .i64 kk,.int .i64 pp,.nilIface] 186 (0,0)) :=
       (Below.heap_setCell _ ⟨w.heap.size,1,none⟩ _ g am).trans ((Below.heap_setCell w8 ⟨w.heap.size,0,none⟩ _ g am).trans b4.out)
      have O:Below w.heap.size w ((w8.setCell ⟨w.heap.size,0,none⟩ (.int .u64 0)).setCell ⟨w.heap.size,1,none⟩ (.slice none 0 0)):=(b8.setCell (p:=⟨w.heap.size,0,none⟩) (af _) _).setCell (p:=⟨w.heap.size,1,none⟩) (af _) _
      all_goals
       go_wp2
       refine aI (v := .tuple #[.agg #[.int .u64 0,.slice none 0 0],.iface 171 (.pointer (some ⟨g,0,none⟩))]) (by simp [results,Tryz.results151,go_sem,x0,x1]) rfl ?_
       refine ⟨⟨O.os,O.tape,O.output,O.size,O.block⟩,?_⟩
       rw [HP.out]
       exact ⟨_,rfl,g,rfl,c0,er⟩
     | none =>
      have eC:cu.f=none:=by
       cases F:cu.f with
       | none=>rfl
       | some x=>unfold Cu.ended at N;rw [F] at N;simp only at N;rw [F] at N;cases N
      have HP:Hid (pt l = .inl (V,os)):=ab (by rw [aE.out,a0.out.1,N,a0.out.2 eC])
      have en:=a1.j4 N
      have q0:w8.cell? ⟨D,0,none⟩=some (.int .u64 V):=ae _ _ 0 _ _ _ D8.out
      have q1:w8.cell? ⟨D,1,none⟩=some (.slice u os.length d):=ae _ _ 1 _ _ _ D8.out
      have fa:=fO D8.out
      have a9:OwnS w8 (r+1) 4 (.slice u os.length d) os.length (gx os):=J.frame ej (fun b hb m=>E.block b m (fun e=>by cases e;have:=J.gh _ hb;omega))
      clear N
      try clear b2
      have x0:((w8.setCell ⟨w.heap.size,0,none⟩ (.int .u64 V)).setCell ⟨w.heap.size,1,none⟩ (.slice u os.length d)).cell? ⟨w.heap.size,0,none⟩=some (.int .u64 V):=ae _ _ 0 _ _ _ (heap_setCell _ _ 1 _ (heap_setCell _ _ 0 _ Q.out))
      have x1:((w8.setCell ⟨w.heap.size,0,none⟩ (.int .u64 V)).setCell ⟨w.heap.size,1,none⟩ (.slice u os.length d)).cell? ⟨w.heap.size,1,none⟩=some (.slice u os.length d):=ae _ _ 1 _ _ _ (heap_setCell _ _ 1 _ (heap_setCell _ _ 0 _ Q.out))
      have am:w8.grownBy ((w8.setCell ⟨w.heap.size,0,none⟩ (.int .u64 V)).setCell ⟨w.heap.size,1,none⟩ (.slice u os.length d)) (some w.heap.size):=gG (grownBy_set (Below.refl _ w8) 0 _) 1 _
      have eD:=(a9.frame am.size (fun b hb m=>am.block b m (fun e=>by cases e;have:=a9.gh _ hb;omega))).mono (show w.heap.size≤r+1 by omega)
      have O:Below w.heap.size w ((w8.setCell ⟨w.heap.size,0,none⟩ (.int .u64 V)).setCell ⟨w.heap.size,1,none⟩ (.slice u os.length d)):=(b8.setCell (p:=⟨w.heap.size,0,none⟩) (af _) _).setCell (p:=⟨w.heap.size,1,none⟩) (af _) _
      go_wp2
      refine aI (v := .tuple #[.agg #[.int .u64 V,.slice u os.length d],.nilIface]) (by simp [results,Tryz.results151,go_sem,x0,x1]) rfl ?_
      refine ⟨O,?_⟩
      rw [HP.out]
      exact ⟨_,rfl,eD⟩
end Go.Proofs.YtkkfmkhbdoeglabGreatDoor
