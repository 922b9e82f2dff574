/- A part of what is proved here: lemmas and contracts of single functions. No condition but those that each names. -/
import Derived.Test.YtkkfmkhbdoeglaaGreatDoorG00
import Derived.Deep.CutBlock
import Derived.Test.YtkkfmkhbdoeglaaGreatDoorG21
import Derived.Test.YtkkfmkhbdoeglaaGreatDoorG39
import Derived.Test.YtkkfmkhbdoeglaaGreatDoorG40
import Derived.Test.YtkkfmkhbdoeglaaGreatDoorG41
set_option maxHeartbeats 8000000
set_option maxRecDepth 100000
namespace Go.Proofs.YtkkfmkhbdoeglaaGreatDoor
open Go.RowKit Go.Shelf
def Hj (b c d:Nat) (j:Nat):Prop:=j<b∨(c≤j∧j<d)
def lN (b c d e f:Nat) (j:Nat):Prop:=Hj b c d j∨(e≤j∧j<f)
def Hy (w b:World) (c g d X:Nat) (H:fJ) (p:PAg) (T:List E) (i:Value) (wr:World):Prop :=
 ∃ (k:Nat) (S:List E),k≤20∧i = .int .i64 ((8*k:Nat):Int)∧In60 S∧mJ wr (Hj w.heap.size c d) X H (some p)∧jO wr (c+2) (c+1) c T∧jO wr (g+2) (g+1) g S∧Ext (fun j=>j=g) b wr
def Hz (b:World) (K:Nat→Prop) (X n k N j:Nat) (T U:List E) (wr:World):Prop:=∃ H p,mJ wr K X H (some p)∧uX n k N j H p T U∧lL K b wr
theorem Br (fW raw:List Int) (o size y cut mask:Int) (vx rv:Value) (w:World) (vb:kg w vx fW) (vc:kg w rv raw) (hf:∀ x∈fW,-9223372036854775808≤x∧x≤9223372036854775807) (hg:∀ x∈raw,-9223372036854775808≤x∧x≤9223372036854775807) (ci:fW.length≤gx) (_r9:raw.length≤gx) (wn : -9223372036854775808≤o∧o≤9223372036854775807) (v0 : -9223372036854775808≤size∧size≤9223372036854775807) (v1 : -9223372036854775808≤y∧y≤9223372036854775807) (v2 : -9223372036854775808≤cut∧cut≤9223372036854775807) (wp : -9223372036854775808≤mask∧mask≤9223372036854775807) (hh:ShapesVar w) (c9:ErrVar w) :
  Calls Tryz.prog 4 #[.int .i64 o,vx,rv,.int .i64 size,.int .i64 y,.int .i64 cut,.int .i64 mask] w fun e w'=>e = .returned (.bool true)∧Below w.heap.size w w':=by
 have m0:=iP o 81 (by omega)
 obtain ⟨n,v3⟩:∃ n:Nat,(n:Int)=48+ji o 81:=⟨(48+ji o 81).toNat,by omega⟩
 have da:48≤n∧n≤128:=by omega
 obtain ⟨H0,p0,s1,s2,v4,wq,ut⟩:=j7.new da
 have m3:=ae (yO o n w wn v3 hh c9 H0 p0 s1 s2)
 have sa:=ae ut
 have m4:Hid (gV H0.dp):=ae ⟨v4,ut.dead⟩
 obtain ⟨xk,ro,rfl,sb,-⟩:=vb.opened
 obtain ⟨ww,k2,rfl,sc,-⟩:=vc.opened
 have HO:=ae vb
 have HR:=ae vc
 have hi:=ae hf
 have hj:=ae hg
 have Z:isVersionB 1=true:=by decide
 have hl:=ut.recv (by omega) (by omega) fW
 simp only [bF] at hl
 obtain ⟨H1,uc,r1,t60,rc⟩:=hl
 have bH:=m4.out.recv {p0 with a := {p0.a with out:=[]}} (sealB 1 (jo 1 (gy fW)))
 rw [r1] at bH
 have cl:Hid (uc.a.Fit∧uc.a.out=[sealB 17 (j4 1)]∧j7 n 1 2 1480 H1 {uc with a := {uc.a with out:=[]}} (foldS [] (gy fW)) false):=ae (by
  rcases rc with ⟨hd,-⟩ | ⟨-,-,k3,k4,m7⟩ | ⟨-,-,-,hd,-⟩
  ·rw [bH.2] at hd;cases hd
  ·exact ⟨k3,k4,m7⟩
  ·cases hd)
 have hn:=ae r1
 have dl:(sealB 1 (jo 1 (gy fW))).length≤1000000:=by
  have:=(mx (kq fW 1 Z)).2
  rw [nf]
  omega
 have ho:=ae (ut.ready (by omega) (by omega))
 have sf:=c9.1
 have dn:=ae t60
 have hp:Hid (([sealB 17 (j4 1)]:List (List UInt8)).foldl jB 0=1):=ae (zf 0 1 (by omega) 17 (.inr rfl))
 obtain ⟨G,ds⟩:∃ G,G=foldS [] (gy fW):=⟨_,rfl⟩
 rw [←ds] at cl
 have dv:=ae ds
 have hr:j8 1 [] (gy fW)=foldS [] (gy fW):=by unfold j8;rw [kq fW 1 Z]
 have hs:=ae hr
 clear s1 s2 v4 wq ut vb vc hf hg hh c9 rc r1 bH t60 ds hr v3 m0
 go_enter Tryz.func4,Tryz.ntmps4
 go_wp2_with fail
 refine m3.out.mono ?_
 rintro e w1 ⟨X,rfl,ht,hu⟩
 have dT:=ae ht
 have co:=ae hu
 clear ht hu
 go_wp2_with fail
 refine (rm w1).mono ?_
 rintro e w2 ⟨rfl,d2,Y⟩
 have d3:=ae d2
 have hv:=ae Y
 obtain ⟨c,hc⟩:∃ c,c=w1.heap.size:=⟨_,rfl⟩
 obtain ⟨g,vi⟩:∃ g,g=w2.heap.size:=⟨_,rfl⟩
 have sk:c+3≤g:=by have h9:w1.heap.size+2<w2.heap.size:=fP d2.cell;omega
 rw [←hc] at d3⊢
 have HC:=ae hc
 have sl:=ae vi
 clear d2 Y hc
 go_wp2_with fail
 refine (rm w2).mono ?_
 rintro e w3 ⟨rfl,cp,d4⟩
 rw [←vi] at cp⊢
 have hw:=ae (d3.out.below d4)
 have hx:=ae cp
 have d5:=ae (hv.out.tn d4)
 have sn:g+3≤w3.heap.size:=by have h9:g+2<w3.heap.size:=fP cp.cell;omega
 have m9:=ae (co.out.tn d5.out)
 clear cp d4 vi
 go_upto_region 6 with fail
 go_wp2_with fail
 refine (q9 1 _ fW w3 (HO.out.below m9.out) ci hi.out).mono ?_
 rintro e w4 ⟨⟨xo,rfl,bI⟩,bk⟩
 obtain ⟨vl,vn,rfl⟩:=bI.shape
 have a0:Below w4.heap.size w4 (w4.alloc (.cells #[.int .u64 ((1:Nat):Int),.slice vl (gy fW).length vn] 34)):=(Below.rf w4).alloc (ah _) _
 have D5:=fL w4 (.cells #[.int .u64 ((1:Nat):Int),.slice vl (gy fW).length vn] 34)
 have hy:=ae ((hw.out.below bk).below a0)
 have hz:=ae ((hx.out.below bk).below a0)
 have d7:=ae ((d5.out.tn bk).tn a0)
 have d8:=ae (fR.below bI.ops a0)
 have ss:=a0.size
 have sv:=bk.size
 clear bI bk
 go_upto_region 7 with fail
 generalize w4.alloc (.cells #[.int .u64 ((1:Nat):Int),.slice vl (gy fW).length vn] 34)=w5 at *
 have d9:=ae (dT.out.below d7.out)
 have d0:=af _ _ 0 _ _ _ D5
 have d1:=af _ _ 1 _ _ _ D5
 have sN:=fI D5
 have eb:=ae D5
 clear a0 D5
 go_wp2_with fail
 refine (wX 1 _ (gy fW) w5 d8.out d9.out.sh d9.out.er (kq fW 1 Z) (by omega) (wR fW).2).mono ?_
 rintro e w6 ⟨rfl,ab⟩
 have ed:=ae (hy.out.below ab)
 have hA:=ae (hz.out.below ab)
 have cq:=ae (d7.out.tn ab)
 have hB:=ae (fR.below d8.out ab)
 have D6:=fK ab (fI eb.out) eb.out
 have d0:=af _ _ 0 _ _ _ D6
 have d1:=af _ _ 1 _ _ _ D6
 have rs:=fI D6
 have sT:=ab.size
 have bl:Hid (mJ w6 (Hj w.heap.size c w6.heap.size) X H0 (some {p0 with a := {p0.a with out:=[]}})):=ae (dT.out.yN cq.out (fun j=>c≤j∧j<w6.heap.size) (fun j r=>⟨by have:=HC.out;omega,r.2⟩))
 have sW:w.heap.size≤c:=by have:=co.out.size;have:=HC.out;omega
 obtain ⟨d,hd⟩:∃ d,d=w6.heap.size:=⟨_,rfl⟩
 rw [←hd] at bl
 have s0:g+3≤d:=by omega
 have s3:=ae hd
 clear ab D6 hd
 go_wp2_with fail
 refine (pD (c+2) (c+1) c [] 1 _ (gy fW) w6 ed.out hB.out bl.out.sh bl.out.er (vy fW) (by omega)).mono ?_
 rintro e w7 ⟨rfl,eg,bn⟩
 rw [hs.out,←dv.out] at eg
 have hC:Hid (mJ w7 (Hj w.heap.size c d) X H0 (some {p0 with a := {p0.a with out:=[]}})):=ae (bl.out.other bn (fun j r => .inr (by omega)) (fun j r=>by omega))
 have hD:=ae (ed.out.step bn eg)
 have hE:=ae (hA.out.other bn (by omega) (by omega) (by omega))
 have ej:=ae ((co.out.tn cq.out).trans (bn.below (co.out.tn cq.out).size (fun j r e=>by omega)))
 have s:=ae (nj (Hj w.heap.size c d) X H0 {p0 with a := {p0.a with out:=[]}} w7 (sealB 1 (jo 1 (gy fW))) hC.out ho.out dl)
 rw [hn.out] at s
 obtain ⟨v5,hG⟩:∃ v5,v5=sealB 1 (jo 1 (gy fW)):=⟨_,rfl⟩
 rw [←hG] at s⊢
 clear bn eg hG dl d0 d1
 go_wp2_with fail
 refine s.out.mono ?_
 rintro e w8 ⟨rfl,hH,cr⟩
 have hI:Hid (mJ w8 (Hj w.heap.size c d) X H1 (some uc)):=ae hH
 have hJ:=ae (hD.out.ext cr (fun e=>e (.inr (by omega))) (fun e=>e (.inr (by omega))) (fun e=>e (.inr (by omega))))
 have hL:=ae (hE.out.ext cr (fun e=>e (.inr (by omega))) (fun e=>e (.inr (by omega))) (fun e=>e (.inr (by omega))))
 have el:=ae (ej.out.trans (cr.below ej.out.size fun j r => .inl r))
 clear hH cr s
 go_wp2_with fail
 refine (yP (Hj w.heap.size c d) X H1 uc w8 hI.out cl.out.1).mono ?_
 rintro e w9 ⟨rfl,hM,cs⟩
 rw [cl.out.2.1,hp.out]
 have em:=ae hM
 have hN:=ae (hJ.out.ext cs (fun e=>e (.inr (by omega))) (fun e=>e (.inr (by omega))) (fun e=>e (.inr (by omega))))
 have hO:=ae (hL.out.ext cs (fun e=>e (.inr (by omega))) (fun e=>e (.inr (by omega))) (fun e=>e (.inr (by omega))))
 have bo:=ae (el.out.trans (cs.below el.out.size fun j r => .inl r))
 have hP:=ae cl.out.2.2
 clear hM cs hn ho hp hs
 generalize {uc with a := {uc.a with out:=[]}} = va at em hP
 go_upto_block 0 with fail
 go_cut [] from 91 to 109 (fun wx=>∃ S,In60 S∧mJ wx (Hj w.heap.size c d) X H1 (some va)∧jO wx (c+2) (c+1) c G∧jO wx (g+2) (g+1) g S∧Ext (fun j=>j=g) w9 wx)
 case first =>
  go_wp2_with fail
  go_loopw [26] (fun i wr=>Hy w w9 c g d X H1 va G i wr) (fun i _=>160-(intOf i).toNat)
  case atStart=>exact ⟨0,[],by omega,rfl,In60.nil,em.out,hN.out,hO.out,Ext.refl _ _⟩
  case round =>
   obtain ⟨k,S,hk,rfl,up,hQ,v6,hR,ua⟩:=hrel
   have HS:=ae up
   have hS:=ae hQ
   have hT:=ae v6
   have hU:=ae hR
   have hV:=ae ua
   have nw:=ae (bo.out.trans (ua.below bo.out.size (fun j r e=>by omega)))
   have nx:Hid (kg wr (.slice ww raw.length k2) raw):=ae (HR.out.below nw.out)
   clear up hQ v6 hR ua
   by_cases hW:8*k+8≤raw.length∧k<20
   ·obtain ⟨a1,I⟩:=hW
    have rt:((8*k:Nat):Int)+8≤raw.length:=by omega
    have s4:((8*k:Nat):Int)<160:=by omega
    obtain ⟨xq,io,rfl,-,s5,eC⟩:=nx.out.sub (8*k) a1
    have eD:=ae eC
    clear eC
    generalize hK:8*k=K at *
    obtain ⟨C,ct⟩:∃ C,C=(raw.drop K).take 8:=⟨_,rfl⟩
    rw [←ct] at eD
    have hX:∀ x∈C,-9223372036854775808≤x∧x≤9223372036854775807:=fun x ua=>hj.out x (List.mem_of_mem_drop (dA (ct▸ua)))
    have hY:C.length≤gx:=by rw [ct,aA];unfold gx;omega
    have nF:=ae (q9 1 _ C wr eD.out hY hX)
    have hZ:j8 1 S (gy C)=foldS S (gy C):=by unfold j8;rw [kq C 1 Z]
    have n0:=ae hZ
    have n1:=ae (HS.out.fold C)
    clear ct hX hY hZ
    go_wp2_with fail
    refine nF.out.mono ?_
    rintro e wa ⟨⟨s6,rfl,eS⟩,Y⟩
    obtain ⟨s7,q6,rfl⟩:=eS.shape
    have n2:=ae eS.ops
    have eT:=ae (hS.out.below Y)
    have n3:=ae (hT.out.below Y)
    have h0:=ae (hU.out.below Y)
    have n4:=ae (hV.out.qj Y)
    clear eS Y
    go_wp2_with fail
    refine (pD (g+2) (g+1) g S 1 _ (gy C) wa h0.out n2.out eT.out.sh eT.out.er (vy C) (by omega)).mono ?_
    rintro e wb ⟨rfl,eV,br⟩
    rw [n0.out] at eV
    have n5:=ae (eT.out.other br (fun j r => .inr (by omega)) (fun j r=>by omega))
    have n6:=ae (n3.out.other br (by omega) (by omega) (by omega))
    have n7:=ae (h0.out.step br eV)
    have n8:=ae (n4.out.trans br)
    clear br eV
    go_wp2_with fail
    refine ⟨⟨k+1,foldS S (gy C),by omega,?_,n1.out,n5.out,n6.out,n7.out,n8.out⟩,?_⟩
    ·subst hK;congr 1
    ·simp [intOf];omega
   ·have bL:((raw.length:Int)<((8*k:Nat):Int)+8)∨(((8*k:Nat):Int)+8≤raw.length∧(160:Int)≤((8*k:Nat):Int)):=by omega
    clear hW
    obtain ⟨K,hK⟩:∃ K,K=8*k:=⟨_,rfl⟩
    rw [←hK] at bL⊢
    have s8:K≤160:=by omega
    clear hK hk
    have g9:(decide ((K:Int)+8≤(raw.length:Int))=false)∨(decide ((K:Int)+8≤(raw.length:Int))=true∧decide ((K:Int)<160)=false):=by
     rcases bL with vo | ⟨vo,h9⟩
     ·exact .inl (bm (by omega))
     ·exact .inr ⟨bZ (by omega),bm (by omega)⟩
    clear bL
    rcases g9 with vo | ⟨vo,h9⟩
    all_goals
     go_wp2_with fail
     go_meet
     exact ⟨S,HS.out,hS.out,hT.out,hU.out,hV.out⟩
 case rest =>
  obtain ⟨U,ul,h4,h5,h6,h7⟩:=hcut
  have e0:=ae (bo.out.trans (h7.below bo.out.size (fun j r e=>by omega)))
  have ta:U.length≤60:=ul.len
  have tb:G.length≤60:=by rw [dv.out];exact dn.out.len
  have e1:=ae h4
  have ib:=ae h5
  have la:=ul.gH 9
  have e2:10≤(gH 9 U).length:=by rw [lH];omega
  have e3:jy U.length U:=⟨ah _,ul.sorted,ul.good⟩
  have aa:=DX ul.sorted ul.good
  have e4:=ae ul
  have bM:=ae (fun (lv:Value) (W:World) (h1:ic W lv U) (h2:ShapesVar W)=>qS 9 lv U W h1 h2 (GH e3.fit) (by omega) (by rw [aa];omega) (by decide) (by rw [aa];exact e3.fit))
  rw [aa] at bM
  clear h4 h5 h7 ul aa e3 em hN hO bo
  go_wp2_with fail
  refine (nR (g+2) (g+1) g U wc h6 (by omega)).mono ?_
  rintro e oa ⟨lv,rfl,e5,ci,bN⟩
  obtain ⟨wA,lc,rfl,-,-⟩:=e5.opened
  have e6:=ae (ib.out.below bN)
  have e7:=ae e5
  have bO:=ae bN
  have ii:=ae ci
  clear e5 ci bN h6
  go_wp2_with fail
  refine (nR (c+2) (c+1) c G oa e6.out (by omega)).mono ?_
  rintro e ob ⟨tv,rfl,e8,ip,bP⟩
  obtain ⟨wS,w0,rfl,-,-⟩:=e8.opened
  have a5:=ae (fR.below e7.out bP)
  have bS:=ae e8
  have a6:=ae (bO.out.tn bP)
  have lb:=bO.out.size
  have i0:=ae (fun j e=>aI lb (ip j e))
  have e9:=ae (e1.out.below a6.out)
  clear e8 ip bP
  go_wp2_with fail
  refine (bM.out _ ob a5.out e9.out.sh).mono ?_
  rintro e al ⟨rfl,J⟩
  unfold ku
  have a7:Below al.heap.size al (al.alloc (.cells #[.int .i64 0,.int .i64 0,.int .i64 0] 38)):=(Below.rf al).alloc (ah _) _
  have am:=fL al (.cells #[.int .i64 0,.int .i64 0,.int .i64 0] 38)
  have ld:=ae (fR.below (fR.below a5.out J) a7)
  have le:=ae (fR.below (fR.below bS.out J) a7)
  have fb:=ae ((a6.out.tn J).tn a7)
  have bX:=(a6.out.tn J).size
  have cu:=J.size
  clear J a7
  go_upto_region 20 with fail
  generalize al.alloc (.cells #[.int .i64 0,.int .i64 0,.int .i64 0] 38)=B at *
  obtain ⟨D,i1⟩:∃ D,D=al.heap.size:=⟨_,rfl⟩
  rw [←i1] at am bX cu⊢
  have oj:=fI am
  have fd:=e1.out.yN fb.out (fun j=>wc.heap.size≤j∧j<B.heap.size) (fun j r=>r)
  obtain ⟨ce,hce⟩:∃ ce,ce=wc.heap.size:=⟨_,rfl⟩
  obtain ⟨b,a2⟩:∃ b,b=B.heap.size:=⟨_,rfl⟩
  have lf:Hid (mJ B (lN w.heap.size c d ce b) X H1 (some va)):=ae (by rw [hce,a2];exact fd)
  have r3:=cu
  have ol:Hid (U=[]∨∀ j,(Value.slice wA U.length lc).ownBlock=some j→lN w.heap.size c d ce b j∧j≠D):=ae ((ic.own a5.out).imp id fun h j e=>⟨.inr ⟨by rw [hce];exact ii.out j e,by rw [a2];have:=h j e;omega⟩,by have:=h j e;omega⟩)
  have oo:Hid (G=[]∨∀ j,(Value.slice wS G.length w0).ownBlock=some j→lN w.heap.size c d ce b j∧j≠D):=ae ((ic.own bS.out).imp id fun h j e=>⟨.inr ⟨by rw [hce];exact i0.out j e,by rw [a2];have:=h j e;omega⟩,by have:=h j e;omega⟩)
  have op:2≤D:=by have:=e0.out.size;omega
  have os:Hid (w.heap.size≤D):=ae (by have:=e0.out.size;omega)
  have i2:Hid (lN w.heap.size c d ce b D):=ae (.inr ⟨by rw [hce];exact bX,by rw [a2];exact oj⟩)
  have lg:=ae am
  have b0:=ae (e0.out.tn fb.out)
  have f0:=af _ _ 0 _ _ _ am
  have f1:=af _ _ 1 _ _ _ am
  have f2:=af _ _ 2 _ _ _ am
  have tc:=ae hce
  have tg:=ae a2
  clear fd hce a2 i1 am ii i0 e7 a5 bS e1 e9 e6 ib bO a6 bM bX d3 hx hw hv d5 hy hz d7 d8 d9 ed hA cq hB bl hC hD hE ej hI hJ hL el eb dT HO HR hj hi
  obtain ⟨z,v7⟩:=fx (iP size 25 (by omega)).1
  have r4:z<25:=by have:=(iP size 25 (by omega)).2;omega
  have ti:=iP cut 120 (by omega)
  have i3:=ae (kL size 25 B v0.1 v0.2 (by omega))
  rw [v7] at i3
  obtain ⟨N,xa⟩:∃ N,N=40+z:=⟨_,rfl⟩
  have b1:N≤64:=by omega
  have r6:40≤N:=by omega
  have li:(40:Int)+(z:Int)=(N:Int):=by omega
  obtain ⟨q,fg⟩:∃ q,q=gH 9 U:=⟨_,rfl⟩
  rw [←fg] at la e2⊢
  obtain ⟨L,xs⟩:∃ L,L=q.length:=⟨_,rfl⟩
  obtain ⟨k,hk⟩:∃ k,k=(L+N-1) / N:=⟨_,rfl⟩
  have b2:=Nat.div_add_mod (L+N-1) N
  have lk:=Nat.mod_lt (L+N-1) (show N > 0 by omega)
  rw [←hk] at b2
  have ov:1≤k:=by
   rcases Nat.eq_zero_or_pos k with h | h
   ·rw [h,Nat.mul_zero] at b2;omega
   ·exact h
  have fi:k≤16:=by
   rcases Nat.lt_or_ge 16 k with h | h
   ·have h2:=Nat.mul_le_mul_left N (show 17≤k by omega)
    omega
   ·exact h
  have cv:q.length≤k*N:=by rw [Nat.mul_comm];omega
  have i4:∀ i,i<k→i*N<q.length:=fun i xt=>by
   have h2:=Nat.mul_le_mul_left N (show i+1≤k by omega)
   rw [Nat.mul_add,Nat.mul_one] at h2
   rw [Nat.mul_comm]
   omega
  have ll:((q.length:Int)+(N:Int)-1) / (N:Int)=(k:Int):=by
   rw [show (q.length:Int)+(N:Int)-1=((L+N-1:Nat):Int) by omega,←Int.natCast_ediv,hk]
  have fk:=ae i4
  have fl:=ae cv
  have bt:=ae fg
  clear v7 xa hk b2 lk i4 cv fg
  go_wp2_with fail
  refine i3.out.mono ?_
  rintro e tk ⟨rfl,rfl⟩
  have ra:(k:Int)≤16:=by omega
  go_wp2_with fail
  refine (kL cut 120 B v2.1 v2.2 (by omega)).mono ?_
  rintro e tl ⟨rfl,rfl⟩
  go_wp2_with fail
  refine (Gk (lN w.heap.size c d ce b) X H1 (some va) B (ji cut 120-1) lf.out (by omega)).mono ?_
  rintro e bv ⟨rfl,b3,cB⟩
  have c0:=hP.out.whole (ji cut 120-1) (by omega)
  obtain ⟨H2,i5⟩:∃ H2,H2 = {H1 with dp := {H1.dp with left:=max (ji cut 120-1) (-1)}} := ⟨_,rfl⟩
  rw [←i5] at b3 c0
  obtain ⟨p3,v8,h3⟩:=c0.mM ov fi
  have fn:=ae b3
  have fo:=ae cB
  have i6:=ae c0
  have i7:=ae v8
  have i8:=ae h3
  have o1:IntKind.u8.wrap (k:Int)=(k:Int):=IntWalk.u8_in _ (by omega)
  have v9:(#[.int .u8 (k:Int)]:Array Value).toList=u8s [UInt8.ofNat k]:=by simp [u8s];omega
  have i9:=ae v9
  have fp:j4 9=[0,0,0,0,0,0,0,9]:=by decide
  have jp:Hid ((oW k).length≤1000000):=ae (by unfold oW;rw [nf,fp];simp)
  have j0:Hid (sealB (byteOf 3) [0,0,0,0,0,0,0,9,UInt8.ofNat k]=oW k):=ae (by unfold oW;rw [fp];rfl)
  clear b3 cB c0 v8 h3 v9 fp i5
  go_wp2_with (refine gF rfl (.tmp 158) rfl [UInt8.ofNat k] (by exact sU bv [UInt8.ofNat k] _ 1 rfl i9.out (by omega)) ?_)
  have b4:Below bv.heap.size bv (bv.alloc (.cells #[.int .u8 (k:Int)] 5)):=(Below.rf bv).alloc (ah _) _
  have fr:=ae (fn.out.below b4)
  have fz:=ae (fo.out.trans (Ext.fM b4))
  clear b4
  refine (mu 3 [0,0,0,0,0,0,0,9,UInt8.ofNat k] _ (by simp;decide)).mono ?_
  rintro e o3 ⟨rfl,b5⟩
  rw [j0.out]
  have fB:=ae (fr.out.below b5)
  have f3:=ae (fz.out.trans (Ext.fM b5))
  have s:=ae (nj (lN w.heap.size c d ce b) X H2 va o3 (oW k) fB.out (i6.out.ready (by omega) (by omega)) jp.out)
  rw [i7.out] at s
  generalize oW k=xv at s⊢
  clear b5
  go_wp2_with fail
  refine s.out.mono ?_
  rintro e o7 ⟨rfl,f4,f5⟩
  have b6:Hid (mJ o7 (lN w.heap.size c d ce b) X H2 (some p3)):=ae f4
  have b7:=ae (f3.out.trans f5)
  have f6:Hid (uX n k N 0 H2 p3 G U):=ae (.inl ⟨by omega,by rw [←bt.out];exact i8.out⟩)
  clear f4 f5 s fn fr fB fo fz f3 i7 i6 i9 jp j0 i8 ll li o1
  go_upto_block 2 with fail
  go_cut [] from 163 to 210 (fun wx=>∃ H p,mJ wx (lN w.heap.size c d ce b) X H (some p)∧pR n 4 2480 H p G U∧lL (lN w.heap.size c d ce b) B wx)
  case first =>
   go_wp2_with fail
   go_loopw [35] (fun i wr=>∃ j:Nat,j≤k∧i = .int .i64 (j:Int)∧Hz B (lN w.heap.size c d ce b) X n k N j G U wr) (fun i _=>k-(intOf i).toNat)
   case atStart=>exact ⟨0,aL _,rfl,H2,p3,b6.out,f6.out,b7.out⟩
   case round =>
    obtain ⟨j,r,rfl,H,p,ua,j1,bw⟩:=hrel
    have HX:=ae ua
    have f7:=ae j1
    have c1:=ae bw
    clear ua j1 bw b6 b7 f6
    by_cases a1:j<k
    ·obtain ⟨j2,H',p',wd,j3,again⟩:=f7.out.step a1 b1 (by omega) fi (by rw [←bt.out];exact fl.out) (by rw [←bt.out];exact fk.out j a1) e4.out
     have c2:=ae (tA (lN w.heap.size c d ce b) X H (some p) wr HX.out)
     rw [j2] at c2
     have s:=ae (fun (W:World) (vs:mJ W (lN w.heap.size c d ce b) X H (some p))=>nj (lN w.heap.size c d ce b) X H p W (jF (gH 9 U) N j) vs (f7.out.ready j2) (vX _ N j b1))
     rw [wd,←bt.out] at s
     rw [←bt.out] at again
     have pi:=ae (vX q N j b1)
     have f8:=ae j3
     have kb:=ae again
     have g1:(j:Int)<k:=by omega
     obtain ⟨m,c3⟩:∃ m,m=j*N:=⟨_,rfl⟩
     have pk:(j:Int)*(N:Int)=(m:Int):=by rw [c3,Int.natCast_mul]
     have tm:((j:Int)+1)*(N:Int)=((m+N:Nat):Int):=by rw [Int.add_mul,pk];omega
     have tq:m<q.length:=by rw [c3];exact fk.out j a1
     obtain ⟨M,wf⟩:∃ M,M=min (m+N) q.length:=⟨_,rfl⟩
     have kd:nG q N j=(q.drop m).take N:=by unfold nG;rw [←c3]
     have kf:=ae kd
     have ap:=ae wf
     clear wd j3 again c3 kd wf
     go_wp2_with fail
     refine c2.out.mono ?_
     rintro e wl ⟨rfl,rfl⟩
     go_upto_if 180 with fail
     go_cut [36] from 163 to 210 (fun v wx=>v = .int .i64 (M:Int)∧wx=wl)
     case first =>
      by_cases h8:q.length<m+N
      ·have pm:(q.length:Int)<(m:Int)+(N:Int):=by omega
       have f9:(q.length:Int)=(M:Int):=by have:=ap.out;omega
       go_wp2
       go_meet
       case rel=>exact ⟨by rw [←f9],rfl⟩
      ·have pm:¬(q.length:Int)<(m:Int)+(N:Int):=by omega
       have f9:(m:Int)+(N:Int)=(M:Int):=by have:=ap.out;omega
       go_wp2
       go_meet
       case rel=>exact ⟨by rw [←f9],rfl⟩
     case rest =>
      obtain ⟨rfl,rfl⟩:=hcut
      have tr:M≤q.length:=by have:=ap.out;omega
      have ts:m≤M:=by have:=ap.out;omega
      have tt:M≤m+N:=by have:=ap.out;omega
      have tw:(1000:Nat)≤gx:=by decide
      have kk:Hid ((UInt8.ofNat j::(q.drop m).take (M-m)).length≤gx):=ae (by rw [au,aA];omega)
      have kl:(((UInt8.ofNat j).toNat:Nat):Int)=IntKind.u8.wrap (j:Int):=by rw [IntWalk.u8_in _ (by omega),dz];omega
      have a9:∀ W:World,BytesAt (W.alloc (.cells #[.int .u8 (IntKind.u8.wrap (j:Int))] 5)) (.slice (some ⟨W.heap.size,0,none⟩) 1 1) [UInt8.ofNat j]:=fun W=>by rw [←kl];exact pc W (UInt8.ofNat j)
      have hcv:(convert 59 9 (.slice (some ⟨wc.heap.size,0,none⟩) 1 1)).run Tryz.prog (wc.alloc (.cells #[.int .u8 (IntKind.u8.wrap (j:Int))] 5)) = .ok (.string ⟨[UInt8.ofNat j].toArray⟩) (wc.alloc (.cells #[.int .u8 (IntKind.u8.wrap (j:Int))] 5)):=(a9 wc).convert
      have lo:(convert 59 9 (.slice (some ⟨wc.heap.size,0,none⟩) 1 1)).run Tryz.prog (wc.alloc (.cells #[.int .u8 (IntKind.u8.wrap (j:Int))] 5)).drew = .ok (.string ⟨[UInt8.ofNat j].toArray⟩) (wc.alloc (.cells #[.int .u8 (IntKind.u8.wrap (j:Int))] 5)).drew:=BytesAt.convert (w:=(wc.alloc (.cells #[.int .u8 (IntKind.u8.wrap (j:Int))] 5)).drew) (a9 wc)
      have lq:(convert 59 9 (.slice (some ⟨wc.heap.size,0,none⟩) 1 1)).run Tryz.prog (wc.drew.alloc (.cells #[.int .u8 (IntKind.u8.wrap (j:Int))] 5)) = .ok (.string ⟨[UInt8.ofNat j].toArray⟩) (wc.drew.alloc (.cells #[.int .u8 (IntKind.u8.wrap (j:Int))] 5)):=(a9 wc.drew).convert
      clear kl
      have pp:IntKind.i64.wrap (m:Int)=(m:Int):=IntWalk.i64_in _ (by omega)
      have pr:(0:Int)≤(m:Int):=by omega
      have ps:(m:Int)≤(M:Int):=by omega
      have ls:(⟨q.toArray⟩:ByteArray).extract m M=⟨((q.drop m).take (M-m)).toArray⟩:=by rw [ByteArray.extract_mk]
      have pt:=fun W=>po (P:=Tryz.prog) [UInt8.ofNat j] ((q.drop m).take (M-m)) (by simp;omega) W
      go_upto_region 32 with fail
      go_region_law ((first | (go_simp;go_at_call 27;refine (mu 4 (UInt8.ofNat j::(q.drop m).take (M-m)) _ kk.out).mono ?_;rintro e ws ⟨rfl,kn⟩)))
      have ga:Below wc.heap.size wc ws:=((Below.rf wc).alloc (ah _) _).drew.tn kn
      have pu:=ae (HX.out.below ga)
      have pv:=ae (c1.out.trans (Ext.fM ga))
      have ko:sealB (byteOf 4) (UInt8.ofNat j::(q.drop m).take (M-m))=jF q N j:=by
       unfold jF
       rw [kf.out,show byteOf 4=4 by decide]
       have h9:(q.drop m).take N=(q.drop m).take (M-m):=by
        rw [List.take_eq_take_iff,a8]
        have:=ap.out
        omega
       rw [h9]
      rw [ko]
      generalize jF q N j=pf at *
      have lt:Hid (H'.dp.dead=false→∃ bx,iy H' p' pf=(H',bx)∧uX n k N (j+1) H' bx G U):=kb
      have tx:=iP y 3 (by omega)
      have p1:=ae (fun W=>kL y 3 W v1.1 v1.2 (by omega))
      clear ga kn ko a9 hcv lo lq ls pt kk kf ap kb pr ps pp
      generalize ji y 3=vv at *
      go_wp2_with fail
      refine (s.out ws pu.out).mono ?_
      rintro e wt ⟨rfl,av,I⟩
      have O:Hid (mJ wt (lN w.heap.size c d ce b) X H' (some p')):=ae av
      have u:=ae (pv.out.trans I)
      clear av I s
      go_wp2_with fail
      refine (p1.out wt).mono ?_
      rintro e wu ⟨rfl,rfl⟩
      by_cases hq:vv=(j:Int)%3
      ·have p2:(vv==(j:Int)%3)=true:=bj.2 hq
       clear hq
       go_wp2_with fail
       refine (tA (lN w.heap.size c d ce b) X H' (some p') wt O.out).mono ?_
       rintro e wv ⟨rfl,rfl⟩
       cases hdd:H'.dp.dead with
       | true =>
        clear hdd
        go_wp2_with fail
        refine ⟨⟨j+1,by omega,by go_num,H',p',O.out,f8.out,u.out⟩,by simp [intOf];omega⟩
       | false =>
        obtain ⟨bx,wi,kp⟩:=lt.out hdd
        have kr:=ae (nj (lN w.heap.size c d ce b) X H' p' wv pf O.out (f8.out.ready hdd) pi.out)
        rw [wi] at kr
        have p5:=ae kp
        clear hdd wi kp
        go_wp2_with fail
        refine kr.out.mono ?_
        rintro e wx ⟨rfl,gb,gc⟩
        have ba:Hid (mJ wx (lN w.heap.size c d ce b) X H' (some bx)):=ae gb
        have bb:=ae (u.out.trans gc)
        clear gb gc
        go_wp2_with fail
        refine ⟨⟨j+1,by omega,by go_num,H',bx,ba.out,p5.out,bb.out⟩,by simp [intOf];omega⟩
      ·have p2:(vv==(j:Int)%3)=false:=aD.2 hq
       clear hq
       go_wp2_with fail
       refine ⟨⟨j+1,by omega,by go_num,H',p',O.out,f8.out,u.out⟩,by simp [intOf];omega⟩
    ·have g1:¬(j:Int)<k:=by omega
     have p6:=ae (f7.out.end (.inl a1))
     go_wp2_with fail
     go_meet
     exact ⟨H,p,HX.out,p6.out,c1.out⟩
  case rest =>
   obtain ⟨H,p,ua,ge,bw⟩:=hcut
   obtain ⟨Hr,un,ks,up,ql,kt,kw,a3⟩:=ge.ph da (by rw [dv.out];exact dn.out) e4.out mask
   have kB:=ae (fun (W:World) (vs:mJ W (lN w.heap.size c d ce b) X H (some p))=>zo (lN w.heap.size c d ce b) X H (some p) W mask (-1) (-1) vs kt (by omega) kw wp (by omega) (by omega))
   rw [ks] at kB
   have lx:un.a.T.length≤60:=by
    rcases a3 with ⟨-,h⟩ | ⟨-,-,h⟩ <;> rw [h] <;> assumption
   have HX:=ae ua
   have c1:=ae bw
   have kC:=ae up
   have kE:=ae a3
   have kO:H.dp.dead=false→p.a.V=9:=fun h=>by
    rcases ge with ⟨h1,-⟩ | ⟨-,h1,-⟩
    ·rw [h] at h1;cases h1
    ·exact h1
   have qr:=ae kO
   have c2:=ae (tA (lN w.heap.size c d ce b) X H (some p))
   have gg:Hr.dp.S.length≤1000000:=by rw [up];omega
   clear ua bw ge ks up ql kt kw a3 kO b6 b7 f6 fk fl
   go_wp2_with fail
   refine (c2.out wc HX.out).mono ?_
   rintro e wl ⟨rfl,rfl⟩
   have qs:H.dp.dead=true∨H.dp.dead=false:=by cases H.dp.dead <;> simp
   rcases qs with hdd | hdd
   all_goals
    rw [hdd]
    go_wp2_with fail
    try (refine (sH (lN w.heap.size c d ce b) X H p wl HX.out).mono ?_;rintro e wv ⟨rfl,rfl⟩;rw [qr.out hdd];go_wp2_with fail)
    refine (kB.out _ HX.out).mono ?_
    rintro e c4 ⟨⟨rfl,av⟩,I⟩
    have O:Hid (mJ c4 (lN w.heap.size c d ce b) X Hr (some un)):=ae av
    have u:=ae (c1.out.trans I)
    have F:=lL.at (show lL (lN w.heap.size c d ce b) B c4 from u.out) i2.out lg.out
    have gl:=sG F (.int .i64 0) (.int .i64 0) (.int .i64 0)
    have bz:=qo c4 D (.int .i64 0) (.int .i64 0) (.int .i64 0)
    have g0:=af _ _ 0 _ _ _ F
    have g1:=af _ _ 1 _ _ _ F
    have g2:=af _ _ 2 _ _ _ F
    have z0:=ao _ _ 0 _ _ F
    have z1:=ao _ _ 1 _ _ F
    have z2:=ao _ _ 2 _ _ F
    have hb:=fI F
    unfold wj at gl bz
    unfold pZ
    clear av I F
    go_upto_region 40 with fail
    generalize ((c4.setCell ⟨D,0,none⟩ (.int .i64 0)).setCell ⟨D,1,none⟩ (.int .i64 0)).setCell ⟨D,2,none⟩ (.int .i64 0)=gn at *
    have ba:=ae (O.out.other bz (fun j r=>by rw [r];exact i2.out) (fun j r=>by rw [r];exact op))
    have bb:Hid (lL (fun j=>lN w.heap.size c d ce b j∧j≠D) B gn):=ae ((Ext.mono u.out (fun j h (e:lN w.heap.size c d ce b j∧j≠D)=>h e.1)).trans (bz.mono (fun j r (e:lN w.heap.size c d ce b j∧j≠D)=>e.2 r)))
    have ly:=ae (ic.keeps ld.out bb.out ol.out)
    have l0:=ae (ic.keeps le.out bb.out oo.out)
    have go:=ae gl
    have l1:Hid (Below w.heap.size w gn):=ae (b0.out.trans ((lL.below u.out b0.out.size fun j r => .inl (.inl r)).trans (bz.below (by have:=b0.out.size;have:=u.out.size;omega) (fun j r e=>by have:=os.out;omega))))
    clear gl bz g0 g1 g2 z0 z1 z2 hb
    have gp:=ae (zn (lN w.heap.size c d ce b) X Hr un gn ba.out (by omega))
    have gq:=ae (sH (lN w.heap.size c d ce b) X Hr un)
    have cb:=ae (ER (lN w.heap.size c d ce b) X Hr (some un))
    rw [kC.out] at cb gg
    obtain ⟨V,gs⟩:∃ V,V=un.a.V:=⟨_,rfl⟩
    obtain ⟨S,gt⟩:∃ S,S=un.a.T:=⟨_,rfl⟩
    have a3:=kE.out
    rw [←gs,←gt] at a3
    rw [←gs] at gq
    rw [←gt] at gp cb lx gg
    clear gs gt kC kE
    rcases a3 with ⟨rfl,rfl⟩ | ⟨hd,rfl,rfl⟩
    all_goals
     first | exact absurd (hd.symm.trans hdd) (by decide) | (
      have q0:∀ l:List E,decide (l=l)=true:=fun l=>bZ rfl
      go_wp2_with fail
      refine gp.out.mono ?_
      rintro e q1 ⟨xT,rfl,gu,-,Q⟩
      obtain ⟨x0,x1,rfl,-,-⟩:=gu.opened
      have gv:=ae (ba.out.below Q)
      have l2:=ae (fR.below ly.out Q)
      have l3:=ae (fR.below l0.out Q)
      have gz:=ae (fK Q (fI go.out) go.out)
      have l4:=ae (l1.out.tn Q)
      have g3:=ae gu
      clear Q gu
      go_wp2_with fail
      refine (gq.out q1 gv.out).mono ?_
      rintro e q2 ⟨rfl,rfl⟩
      go_wp2_with fail
      refine (mO _ _ _ _ q2 g3.out l3.out (by omega) (by omega)).mono ?_
      rintro e q3 ⟨rfl,R⟩
      have ma:=ae (gv.out.below R)
      have mb:=ae (fR.below l2.out R)
      have g4:=ae (fK R (fI gz.out) gz.out)
      have mc:=ae (l4.out.tn R)
      have g5:=ae (fR.below g3.out R)
      clear R
      go_wp2_with fail
      refine (mO _ _ _ _ q3 g5.out mb.out (by omega) (by omega)).mono ?_
      rintro e q4 ⟨rfl,aE⟩
      have md:=ae (ma.out.below aE)
      have g6:=ae (fK aE (fI g4.out) g4.out)
      have mk:=ae (mc.out.tn aE)
      have mm:=ae (fR.below g5.out aE)
      clear aE
      go_wp2_with fail
      refine (cb.out q4 md.out gg).mono ?_
      rintro e q5 ⟨x2,rfl,kV,bc⟩
      have g7:=ae (fK bc (fI g6.out) g6.out)
      have mp:=ae (mk.out.tn bc)
      have ms:=ae (fR.below mm.out bc)
      have mv:=ae kV
      clear bc kV
      go_wp2_with fail
      refine (mO _ _ _ _ q5 mv.out ms.out (by omega) (by omega)).mono ?_
      rintro e ty ⟨rfl,cf⟩
      have bD:=fK cf (fI g7.out) g7.out
      have mA:=ae (mp.out.tn cf)
      have f0:=af _ _ 0 _ _ _ bD
      have f1:=af _ _ 1 _ _ _ bD
      have f2:=af _ _ 2 _ _ _ bD
      have rb:=fI bD
      clear cf bD
      simp only []
      try (generalize decide (S=G)=xb)
      try (generalize decide (S=U)=xb)
      go_wp2_with fail
      go_ret
      exact ⟨rfl,mA.out⟩)
end Go.Proofs.YtkkfmkhbdoeglaaGreatDoor
