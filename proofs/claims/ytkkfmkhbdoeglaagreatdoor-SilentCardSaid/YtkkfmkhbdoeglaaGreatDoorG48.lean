/- A part of what is proved here: lemmas and contracts of single functions. No condition but those that each names. -/
import Derived.Test.YtkkfmkhbdoeglaaGreatDoorG00
import Derived.Deep.LoopGhost
import Derived.Test.YtkkfmkhbdoeglaaGreatDoorG13
import Derived.Test.YtkkfmkhbdoeglaaGreatDoorG47
set_option maxHeartbeats 8000000
set_option maxRecDepth 100000
namespace Go.Proofs.YtkkfmkhbdoeglaaGreatDoor
open Go.RowKit Go.Shelf
theorem zE (k a s:Int) (w:World):(Instr.field 38 (.agg #[.int .i64 k,.int .i64 a,.int .i64 s]) 0).run Tryz.prog w = .ok (.int .i64 k) w:=by kernel_rfl
theorem lT.taken {w:World} {a:Option Addr} {n cap:Nat} {l:List Int} (h:lT w (.slice a n cap) l) (k:Nat) (hk:k≤l.length):lT w (.slice a k cap) (l.take k):=by
 obtain ⟨hl,r,cap',d,hc,j⟩:=h
 cases d
 have e:(l.take k).length=k:=by rw [aD];omega
 refine ⟨by simp,a,cap,by rw [e],by omega,fun i m => ?_⟩
 have b:i<(l.map fun x=>Value.int IntKind.i64 x).length:=by simp at m⊢;omega
 obtain ⟨g,off,o,q⟩:=j i b
 refine ⟨g,off,o,q.trans ?_⟩
 simp
theorem ka.gy {n k s B:Nat} {H:fx} {p:PAg} {T:List E} {armed:Bool} (h:ka n k s B H p T armed) (f:Int) (d:f≤9223372036854775807):ka n k s B {H with fail:=max f (-1)} p T true:=by
 obtain ⟨ever,b⟩:=h.st
 have h1:=b.fine.ok.writes
 have h2:=b.fine.dp.left
 have h3:=b.fine.dp.log
 exact ⟨⟨ever,b.nE H.writes H.dp.left (max f (-1)) H.dp.log true (fun _=>rfl) h1 h2 ⟨by omega,by omega⟩ h3⟩,h.v,h.t,h.out,h.deg,h.t60,h.n48,h.dead⟩
theorem iB.keeps {w w':World} {v:Value} {T:List E} {K:Nat→Prop} (h:iB w v T) (d:mJ K w w') (hK:T=[]∨∀ j,v.ownBlock=some j→K j):iB w' v T:=by
 rcases hK with rfl | hK
 ·obtain ⟨-,a,cap,rfl,-,-⟩:=h
  exact fH.nil w' a 3 cap
 ·exact fH.frame h fun b e i=>d.block b i fun l=>l (hK b e)
theorem iB.own {w:World} {v:Value} {T:List E} (h:iB w v T):T=[]∨∀ j,v.ownBlock=some j→j<w.heap.size:=by
 obtain ⟨hl,a,cap,rfl,hc,i⟩:=h
 cases T with
 | nil=>exact .inl rfl
 | cons x T =>
  right
  intro j e
  obtain ⟨b,off,rfl,d⟩:=i 0 (by rw [hl];simp)
  cases e
  exact fE d
def B8 (w:World) (X:Nat) (v1:Value) (b s B:Nat) (H:fx) (k:Nat) (T:List E) (d:List (Nat×List E)) (wr:World):Prop:=∃ p,nt wr (fun j=>j<w.heap.size∨(v1.ownBlock=some j∧j<b)) X H (some p)∧iR 48 s B H p k T d∧iB wr v1 T∧Below w.heap.size w wr
def DT (w:World) (X k:Nat) (wr:World):Prop:=∃ H p T,nt wr (fun j=>j<w.heap.size) X H (some p)∧ka 48 k (2*k) (480+1000*k) H p T true∧gD H.dp∧Below w.heap.size w wr
theorem zF (rs ms:List (List Int)) (fail:Int) (rv mv:Value) (w:World) (mk:nk w rv rs) (hm:nk w mv ms) (e5:∀ l∈rs,∀ x∈l,-9223372036854775808≤x∧x≤9223372036854775807) (e6:∀ l∈ms,l.length≤fX∧∀ x∈l,-9223372036854775808≤x∧x≤9223372036854775807) (k3:rs.length≤9223372036854775807) (k4:ms.length≤9223372036854775807) (R : -9223372036854775808≤fail∧fail≤9223372036854775807) (e7:ShapesVar w) (e8:ErrVar w) :
  Calls Tryz.prog 3 #[rv,.int .i64 fail,mv] w fun e w'=>e = .returned (.bool true)∧Below w.heap.size w w':=by
 obtain ⟨H0,p0,s1,s2,s3,s4,s5⟩:=ka.new (n:=48) (by omega)
 have e9:=ab (xw 0 48 w (by omega) (by decide) e7 e8 H0 p0 s1 s2)
 have cs:=ab s5
 have hG:Hid (gD H0.dp):=ab ⟨s3,s5.dead⟩
 have hH:=jx fail 60 (by omega)
 obtain ⟨ra,kk,rfl,-,-⟩:=mk.opened
 obtain ⟨ma,kl,rfl,-,-⟩:=hm.opened
 have HR:=ab mk
 have hI:=ab hm
 have hJ:=ab e5
 have hL:=ab e6
 have k5:=zE
 clear s1 s2 s3 s4 s5 mk hm e5 e6 e7 e8
 go_enter Tryz.func3,Tryz.ntmps3
 go_wp2_with fail
 refine e9.out.mono ?_
 rintro e w1 ⟨X,rfl,fb,fd⟩
 have hM:=ab fb
 have fg:=ab fd
 clear fb fd
 go_wp2_with fail
 refine (l5 fail 60 w1 R.1 R.2 (by omega)).mono ?_
 rintro e w2 ⟨rfl,rfl⟩
 go_wp2_with fail
 refine (C8 (fun j=>j<w.heap.size) X H0 _ w1 (jo fail 60) hM.out).mono ?_
 rintro e w3 ⟨rfl,fi,fk⟩
 have fl:=ab (⟨_,_,[],fi,(cs.out.gy (jo fail 60) (by omega)),hG.out,fg.out.trans (fk.below fg.out.size fun _ h=>h)⟩:DT w X 0 w3)
 clear fi fk e9 hH
 go_upto_region 7 with fail
 go_loopw [9,10] (fun v i wr=>∃ k:Nat,k≤rs.length∧k≤40∧i = .int .i64 (k:Int)∧v = .int .u64 (k:Int)∧DT w X k wr) (fun _ i _=>rs.length-(intOf i).toNat)
 case atStart=>exact ⟨0,by omega,by omega,rfl,rfl,fl.out⟩
 case round =>
  obtain ⟨k,hk,ko,rfl,rfl,hrel⟩:=hrel
  obtain ⟨H,p,T,bx,fn,fo,bz⟩:=hrel
  have am:=ab bx
  have ap:=ab fn
  have hN:=ab fo
  have av:=ab bz
  clear bx fn fo bz fl
  by_cases b8:k<rs.length∧k<40
  ·obtain ⟨b8,j1⟩:=b8
   obtain ⟨l,hl⟩:∃ l,rs[k]?=some l:=⟨_,aw b8⟩
   obtain ⟨k6,j2,hO,ca,fp⟩:=(HR.out.below av.out).opened
   obtain ⟨g,off,u,hP,hQ,ct⟩:=fp k l hl
   cases hO
   subst hP
   obtain ⟨ua,uc,rfl,k7,-⟩:=ct.opened
   have fr:=ab ct
   have hR:=ab (hJ.out l (aU hl))
   have g1:(k:Int)<rs.length:=by omega
   have g2:(k:Int)<40:=by omega
   have k8:=fE hQ
   clear hl fp ct
   have hg:(1000:Nat)≤fX:=by decide
   have a7:IntKind.u64.wrap ((k:Int)+1)=((k+1:Nat):Int):=by rw [show ((k:Int)+1)=((k+1:Nat):Int) by omega];exact IntWalk.u64_in _ (by omega)
   have bl:isVersionB (k+1)=true:=ky (by omega) (by omega)
   go_upto_if 57 with fail
   go_cut [11] from 41 to 80 (fun mm wx=>lT wr mm (l.take 8)∧wx=wr)
   case first =>
    by_cases h8:8<l.length
    ·have hS:(8:Int)<l.length:=by omega
     have la:(8:Int)≤uc:=by omega
     go_wp2
     go_meet
     case rel=>exact ⟨fr.out.taken 8 (by omega),rfl⟩
    ·have hS:¬(8:Int)<l.length:=by omega
     have e:l.take 8=l:=aS (by omega)
     go_wp2
     go_meet
     case rel=>exact ⟨by rw [e];exact fr.out,rfl⟩
   case rest =>
    obtain ⟨cu,rfl⟩:=hcut
    obtain ⟨s,bn⟩:∃ s,s=l.take 8:=⟨_,rfl⟩
    have hT:s.length≤8:=by rw [bn,aD];omega
    have bD:∀ x∈s,-9223372036854775808≤x∧x≤9223372036854775807:=fun x mp=>hR.out x (dr (by rw [←bn];exact mp))
    rw [←bn] at cu
    have hV:=ab cu
    have hW:=ab bD
    clear cu bn bD
    go_wp2_with fail
    refine (nu (k+1) u11 s wc hV.out (by omega) hW.out).mono ?_
    rintro e w5 ⟨⟨sv,rfl,S⟩,C⟩
    obtain ⟨sa,sc,rfl⟩:=S.shape
    have Q:=ab (am.out.below C)
    have a9:=ab (av.out.tn C)
    have cv:=ab S
    clear S C
    go_wp2_with fail
    refine (nz (k+1) _ (fW s) w5 cv.out.ops Q.out.sh Q.out.er (jv s (k+1) bl) (by omega) (nG s).2).mono ?_
    rintro e w6 ⟨rfl,G⟩
    have Z:=ab (Q.out.below G)
    have aa:=ab (a9.out.tn G)
    have aE:(sealB 1 (iG (k+1) (fW s))).length≤1000000:=by
     have:=(jR (jv s (k+1) bl)).2
     rw [mh]
     omega
    clear G
    obtain ⟨H',Y,ca,fv,fz⟩:=ap.out.recv (by omega) (by omega) s
    have f3:gD H'.dp:=by
     have:=hN.out.recv p (sealB 1 (iG (k+1) (fW s)))
     rw [ca] at this
     exact this
    have ag:=ab (nZ (fun j=>j<w.heap.size) X H p w6 (sealB 1 (iG (k+1) (fW s))) Z.out (ap.out.ready (by omega) (by omega)) aE)
    rw [ca] at ag
    obtain ⟨sf,f4⟩:∃ sf,sf=sealB 1 (iG (k+1) (fW s)):=⟨_,rfl⟩
    rw [←f4] at ag⊢
    have f5:=ab f3
    have hX:=ab fv
    have c0:=ab fz
    clear ca aE f3 f4 fv fz
    go_wp2_with fail
    refine ag.out.mono ?_
    rintro e w7 ⟨rfl,bI,ba⟩
    have a0:Hid (nt w7 (fun j=>j<w.heap.size) X H' (some Y)):=ab bI
    have bb:=ab (aa.out.trans (ba.below aa.out.size fun _ h=>h))
    clear bI ba ag
    rcases c0.out with ⟨hd,-⟩ | ⟨hd,bS,c1,hh,bL⟩ | ⟨hd,r,c2,-,f6⟩
    ·rw [f5.out.2] at hd
     cases hd
    ·have bM:Hid (mS Y=(0,0,0)):=ab (by unfold mS;rw [bS])
     have cs:=ab bL
     have hY:=ab c1
     have J:=ab (ke (fun j=>j<w.heap.size) X H' Y w7 a0.out fun f R=>by rw [bS] at R;cases R)
     rw [bM.out] at J
     clear hd bS c1 hh bL c0
     go_wp2_with fail
     refine J.out.mono ?_
     rintro e w8 ⟨rfl,B⟩
     have M:=ab (a0.out.below B)
     have I:=ab (bb.out.tn B)
     clear B J
     unfold lU
     go_wp2_with fail
     refine (xn (fun j=>j<w.heap.size) X H' Y w8 M.out hY.out).mono ?_
     rintro e O ⟨rfl,ak,bN⟩
     have a1:=ab ak
     have a2:=ab (I.out.trans (bN.below I.out.size fun _ h=>h))
     clear ak bN
     generalize Y.a.out.foldl jj 0=tv
     go_wp2
     refine ⟨⟨k+1,by omega,by omega,by go_num,by go_num,_,_,foldS T (fW s),a1.out,?_,f5.out,a2.out⟩,by simp [intOf];omega⟩
     have:=cs.out
     rw [show 2*(k+1)=2*k+2 by omega,show 480+1000*(k+1)=480+1000*k+1000 by omega]
     exact this
    ·have bc:=iR.of ap.out hd r c2 f6
     have cb:=ab bc
     have bM:Hid (mS Y=(12,0,Y.sec)):=ab (by unfold mS;rw [bc.deg];rfl)
     have f7:∀ f,Y.a.deg=some f→1≤f.1∧f.1≤14∧Y.sec≤100000:=by
      obtain ⟨ever,r⟩:=bc.st
      exact fun f R=>r.sec Y f rfl R
     have J:=ab (fun (W:World) (mA:nt W (fun j=>j<w.heap.size) X H' (some Y))=>ke (fun j=>j<w.heap.size) X H' Y W mA f7)
     rw [bM.out] at J
     have lb:T.length≤1000:=by
      obtain ⟨ever,r⟩:=bc.st
      have h1:T.length≤120:=(r.inv.tabs (k,T) (by simp)).len
      omega
     have kB:=ab bc.sec
     obtain ⟨mb,bX⟩:∃ mb,mb=[(k,T),(k+1,foldS T (fW s))]:=⟨_,rfl⟩
     rw [←bX] at cb
     have c3:=ab bX
     clear hd r c2 f6 bc c0 f7 bX
     go_wp2_with fail
     refine (J.out w7 a0.out).mono ?_
     rintro e w8 ⟨rfl,B⟩
     have M:=ab (a0.out.below B)
     have I:=ab (bb.out.tn B)
     clear B
     unfold lU
     go_wp2_with fail
     refine (J.out w8 M.out).mono ?_
     rintro e O ⟨rfl,bd⟩
     have a1:=ab (M.out.below bd)
     have a2:=ab (I.out.tn bd)
     clear bd
     unfold lU
     go_wp2_with fail
     refine (q5 (fun j=>j<w.heap.size) X H' Y O a1.out (by rw [cb.out.t];omega)).mono ?_
     rintro e bi ⟨v1,rfl,a7,f8,U⟩
     rw [cb.out.t] at a7
     have a3:=a1.out.xx U (fun j=>v1.ownBlock=some j∧j<bi.heap.size) (fun j l3=>⟨f8 j l3.1,l3.2⟩)
     have f9:=a7.own
     have c4:=ab (⟨Y,a3,cb.out,a7,a2.out.tn U⟩:B8 w X v1 bi.heap.size (2*k+2) (480+1000*k+1000) H' k T mb bi)
     have ga:=ab f9
     obtain ⟨d,o,rfl,-,-⟩:=a7.opened
     obtain ⟨D,gb⟩:∃ D,D=bi.heap.size:=⟨_,rfl⟩
     rw [←gb] at c4 ga
     clear a3 f9 a7 f8 U gb a0 M a1 bb I a2 J Q Z a9 aa
     go_upto_region 23 with fail
     go_loopw [16] (fun i wx=>∃ m:Nat,m≤ms.length∧m≤10∧i = .int .i64 (m:Int)∧B8 w X (.slice d T.length o) D (2*k+2) (480+1000*k+1000) H' k T mb wx) (fun i _=>ms.length-(intOf i).toNat)
     case atStart=>exact ⟨0,by omega,by omega,rfl,c4.out⟩
     case round =>
      obtain ⟨m,hm,kC,rfl,hrel⟩:=hrel
      obtain ⟨q,bx,c5,gc,bz⟩:=hrel
      have am:=ab bx
      have N:=ab c5
      have ge:=ab gc
      have av:=ab bz
      clear bx c5 gc bz c4
      by_cases bo:m<ms.length∧m<10
      ·obtain ⟨bo,j3⟩:=bo
       obtain ⟨l2,c6⟩:∃ l2,ms[m]?=some l2:=⟨_,aw bo⟩
       obtain ⟨lc,kb,hZ,ld,hmx⟩:=(hI.out.below av.out).opened
       obtain ⟨le,kE,u2,h0,c7,b0⟩:=hmx m l2 c6
       cases hZ
       subst h0
       obtain ⟨h2,h3,rfl,kO,-⟩:=b0.opened
       have hi:=ab b0
       have c8:=ab (hL.out l2 (aU c6))
       have q1:(m:Int)<ms.length:=by omega
       have q2:(m:Int)<10:=by omega
       have hj:=fE c7
       clear c6 hmx b0
       have c9:∀ j,j<w.heap.size→(j<w.heap.size∨((Value.slice d T.length o).ownBlock=some j∧j<D)):=fun j l3 => .inl l3
       have da:T=[]∨∀ j,(Value.slice d T.length o).ownBlock=some j→(j<w.heap.size∨((Value.slice d T.length o).ownBlock=some j∧j<D)):=ga.out.imp id fun h j e => .inr ⟨e,h j e⟩
       go_wp2_with fail
       refine (nu (k+1) (.slice h2 l2.length h3) l2 wr hi.out c8.out.1 c8.out.2).mono ?_
       rintro e w5 ⟨⟨sv,rfl,S⟩,C⟩
       obtain ⟨h5,h6,rfl⟩:=S.shape
       have Q:=ab (am.out.below C)
       have a9:=ab (av.out.tn C)
       have dc:=ab (fH.below ge.out C)
       have cv:=ab S
       clear S C c7 hj
       go_wp2_with fail
       refine (nz (k+1) _ (fW l2) w5 cv.out.ops Q.out.sh Q.out.er (jv l2 (k+1) bl) (by omega) (nG l2).2).mono ?_
       rintro e w6 ⟨rfl,G⟩
       have Z:=ab (Q.out.below G)
       have aa:=ab (a9.out.tn G)
       have h7:=ab (fH.below dc.out G)
       have aE:(sealB 1 (iG (k+1) (fW l2))).length≤1000000:=by
        have:=(jR (jv l2 (k+1) bl)).2
        rw [mh]
        omega
       obtain ⟨gf,dk⟩:∃ sf,sf=sealB 1 (iG (k+1) (fW l2)):=⟨_,rfl⟩
       rw [←dk] at aE⊢
       obtain ⟨gg,gl⟩:=N.out.recv gf
       have ag:=ab (nZ (fun j=>j<w.heap.size∨((Value.slice d T.length o).ownBlock=some j∧j<D)) X H' q w6 gf Z.out (N.out.ready (by omega) (by omega)) aE)
       rw [gg] at ag
       have dl:=ab gl
       clear G gg gl dk
       go_wp2_with fail
       refine ag.out.mono ?_
       rintro e w7 ⟨rfl,bI,ba⟩
       obtain ⟨q7,dn⟩:∃ q7:PAg,q7 = {q with a:=q.a.gy 13} := ⟨_,rfl⟩
       rw [←dn] at dl
       have a0:Hid (nt w7 (fun j=>j<w.heap.size∨((Value.slice d T.length o).ownBlock=some j∧j<D)) X H' (some q7)):=ab (by rw [dn];exact bI)
       have bb:=ab (aa.out.trans (ba.below aa.out.size c9))
       have h9:=ab (iB.keeps h7.out ba da)
       clear bI ba ag dn
       go_wp2_with fail
       have gn:q7.a.Fit:=by
        obtain ⟨ever,r⟩:=dl.out.st
        exact r.fit q7 rfl
       refine (CM (fun j=>j<w.heap.size∨((Value.slice d T.length o).ownBlock=some j∧j<D)) X H' q7 w7 a0.out gn).mono ?_
       rintro e w8 ⟨rfl,ds,dv⟩
       have go:=ab dl.out.tick
       obtain ⟨q8,gp⟩:∃ q8:PAg,q8 = {q7 with a:=q7.a.tick} := ⟨_,rfl⟩
       rw [←gp] at go ds
       have M:=ab ds
       have I:=ab (bb.out.trans (dv.below bb.out.size c9))
       have ii:=ab (iB.keeps h9.out dv da)
       clear ds dv gp gn
       go_upto_region 30 with fail
       go_loopg [] (q8.a.out.length) (fun mC wx=>∃ q,q.a.out.length=mC∧nt wx (fun j=>j<w.heap.size∨((Value.slice d T.length o).ownBlock=some j∧j<D)) X H' (some q)∧iR 48 (2*k+2) (480+1000*k+1000) H' q k T mb∧iB wx (.slice d T.length o) T∧Below w.heap.size w wx)
       case atStart=>exact ⟨q8,rfl,M.out,go.out,ii.out,I.out⟩
       case round =>
        obtain ⟨q9,gq,ak,b1,gs,bd⟩:=hrel
        have d1:q9.a.Fit:=by
         obtain ⟨ever,r⟩:=b1.st
         exact r.fit q9 rfl
        have d2:=ab b1.next
        have a1:=ab ak
        have a2:=ab bd
        have io:=ab gs
        have ip:=ab gq
        have d3:=ab d1
        clear gq ak b1 gs bd d1
        go_wp2_with fail
        refine (pY (fun j=>j<w.heap.size∨((Value.slice d T.length o).ownBlock=some j∧j<D)) X H' q9 wr a1.out d3.out).mono ?_
        rintro e d4 ⟨rfl,d5,b2⟩
        have b3:=ab d5
        have d6:=ab (a2.out.trans (b2.below a2.out.size c9))
        have d7:=ab (iB.keeps io.out b2 da)
        clear d5 b2
        cases a4:q9.a.next.2 with
        | none =>
         rw [show tG none = .tuple #[.string ⟨#[]⟩,.bool false] from rfl]
         clear a4
         go_wp2_with fail
         refine ⟨⟨m+1,by omega,by omega,by go_num,_,b3.out,d2.out.1,d7.out,d6.out⟩,by simp [intOf];omega⟩
        | some f =>
         obtain ⟨⟨b,bD⟩,hlen⟩:=d2.out.2 f a4
         have hT:f.length≤13:=by
          refine d3.out.olen f ?_
          unfold AgA.next at a4
          split at a4
          ·cases a4
          ·rename_i s0 l0 e0
           cases a4
           rw [e0]
           simp
         rw [show tG (some f) = .tuple #[.string ⟨f.toArray⟩,.bool true] from rfl]
         have gt:=ab (oT f d4 b3.out.er (by have:=hg;omega))
         have gu:pH f = .tuple #[.int .i64 18,.string ⟨b.toArray⟩,.agg #[.int .i64 0,.int .i64 0,.int .i64 0]]:=by
          rw [bD]
          unfold pH
          rw [qN]
          rfl
         rw [gu] at gt
         have i0:=ab hlen
         clear a4 bD hlen gu
         go_wp2_with fail
         refine gt.out.mono ?_
         rintro e bk ⟨rfl,E⟩
         have F:Below bk.heap.size bk (bk.alloc (.cells #[.int .i64 0,.int .i64 0,.int .i64 0] 38)):=(Below.rf bk).alloc (af _) _
         have b4:=ab ((b3.out.below E).below F)
         have br:=ab ((d6.out.tn E).tn F)
         have hn:=ab (fH.below (fH.below d7.out E) F)
         clear E F
         go_wp2_with fail
         go_roundg (q9.a.next.1.out.length)
         case measure=>rw [←ip.out,←i0.out];omega
         case rel=>exact ⟨_,rfl,b4.out,d2.out.1,hn.out,br.out⟩
      ·have ho:¬(m:Int)<ms.length∨((m:Int)<ms.length∧¬(m:Int)<10):=by omega
       have i1:=ab (show ∀ j,j<w.heap.size→(j<w.heap.size∨((Value.slice d T.length o).ownBlock=some j∧j<D)) from fun j l3 => .inl l3)
       have hp:Hid (mS q=(12,0,q.sec)):=ab (by unfold mS;rw [N.out.deg];rfl)
       have d8:∀ f,q.a.deg=some f→1≤f.1∧f.1≤14∧q.sec≤100000:=by
        obtain ⟨ever,r⟩:=N.out.st
        exact fun f R=>r.sec q f rfl R
       have lf:((k:Int)==(k:Int))=true:=dt _
       have hr:=ab d8
       clear bo d8
       rcases ho with q1 | ⟨q1,q2⟩
       all_goals
        go_wp2_with fail
        refine (q5 (fun j=>j<w.heap.size∨((Value.slice d T.length o).ownBlock=some j∧j<D)) X H' q wr am.out (by rw [N.out.t];omega)).mono ?_
        rintro e w5 ⟨v2,rfl,ce,-,C⟩
        rw [N.out.t] at ce
        obtain ⟨lg,li,rfl,-,-⟩:=ce.opened
        have Q:=ab (am.out.below C)
        have a9:=ab (av.out.tn C)
        have dc:=ab (fH.below ge.out C)
        have i2:=ab ce
        clear ce C
        go_wp2_with fail
        refine (rE _ _ T w5 dc.out i2.out (by omega)).mono ?_
        rintro e w6 ⟨rfl,G⟩
        have Z:=ab (Q.out.below G)
        have aa:=ab (a9.out.tn G)
        clear G
        go_wp2_with fail
        refine (lZ (fun j=>j<w.heap.size∨((Value.slice d T.length o).ownBlock=some j∧j<D)) X H' q w6 Z.out).mono ?_
        rintro e w7 ⟨rfl,rfl⟩
        rw [N.out.v]
        go_wp2_with fail
        refine (ke (fun j=>j<w.heap.size∨((Value.slice d T.length o).ownBlock=some j∧j<D)) X H' q w7 Z.out hr.out).mono ?_
        rintro e w8 ⟨rfl,B⟩
        rw [hp.out]
        have M:=ab (Z.out.below B)
        have I:=ab (aa.out.tn B)
        clear B
        unfold lU
        obtain ⟨ever,r⟩:=N.out.st
        have b5:∀ m∈mb,In60 m.2:=fun y md=>by
         rw [c3.out] at md
         rcases aT.1 md with rfl | md
         ·exact ap.out.t60
         ·rw [aA.1 md];exact hX.out
        obtain ⟨H2,p2,v',T',gv,bs,d9,-,bL,gz⟩:=ka.qG r (by omega) b5 0 (-1) (by omega)
        have ci:=gz (by omega)
        obtain ⟨-,eb,ec,bt,-⟩:=bL ci.2
        have g0:v'=k∨v'=k+1:=by
         rw [c3.out] at bs
         rcases aT.1 bs with e | e
         ·cases e;exact .inl rfl
         ·cases aA.1 e;exact .inr rfl
        have ed:p2.a.V=v':=by rw [d9];exact (jk v' T').1
        have g3:p2.a.T=T':=by rw [d9];exact (jk v' T').2.1
        obtain ⟨H3,p3,g4,g6,-,eg,i3⟩:=Da bt (by omega) ed g3 (b5 _ bs) ec ci (by omega) (by omega) []
        have ej:=ab (xm (fun j=>j<w.heap.size∨((Value.slice d T.length o).ownBlock=some j∧j<D)) X H' (some q) w8 0 (-1) (-1) M.out r.fine (by omega) (r.inv.opens 0 (-1) (-1)) (by omega) (by omega) (by omega))
        rw [gv] at ej
        have el:za 48 [] (480+1000*k+1000+480) H2 p2:=by
         obtain ⟨-,g2,-,g5,-⟩:=bt.inv.up p2 rfl ci.2
         exact ⟨bt.fine,by omega,eb,fun e=>(g5 e).1,by omega⟩
        have hu:=ab el
        have i4:=ab g4
        have i5:=ab g6
        have i6:=ab ed
        have i7:Hid (mS p3=(0,0,0)):=ab (by unfold mS;rw [eg])
        have hv:Hid (∀ f,p3.a.deg=some f→1≤f.1∧f.1≤14∧p3.sec≤100000):=ab fun f R=>by rw [eg] at R;cases R
        have cl:isVersionB (v'+1)=true:=ky (by omega) (by omega)
        have k1:IntKind.u64.wrap ((v':Int)+1)=((v'+1:Nat):Int):=by rw [show ((v':Int)+1)=((v'+1:Nat):Int) by omega];exact IntWalk.u64_in _ (by omega)
        clear r b5 gv bs d9 bL gz ci eb ec bt ed g3 g4 g6 eg i3 el
        go_wp2_with fail
        refine ej.out.mono ?_
        rintro e O ⟨⟨rfl,ak⟩,bN⟩
        have U:Below O.heap.size O (O.alloc (.cells #[.int .i64 0,.int .i64 0,.int .i64 0] 38)):=(Below.rf O).alloc (af _) _
        have g7:=fA O (.cells #[.int .i64 0,.int .i64 0,.int .i64 0] 38)
        have a3:=ak.xx U (fun j=>j=O.heap.size) (fun j l3=>⟨by omega,by rw [l3,ax];omega⟩)
        have hw:=ab ((I.out.trans (bN.below I.out.size i1.out)).tn U)
        have em:=ab a3
        have en:=ab g7
        clear ak bN U g7 a3 ej
        unfold lU
        go_wp2_with fail
        generalize O.alloc (.cells #[.int .i64 0,.int .i64 0,.int .i64 0] 38)=bi at *
        refine (lZ (fun j=>(j<w.heap.size∨((Value.slice d T.length o).ownBlock=some j∧j<D))∨j=O.heap.size) X H2 p2 bi em.out).mono ?_
        rintro e d4 ⟨rfl,rfl⟩
        rw [i6.out]
        go_wp2_with fail
        refine (nu (v'+1) (.slice none 0 0) [] d4 (fH.nil _ _ _ _) (by simp) (by simp)).mono ?_
        rintro e bk ⟨⟨lk,rfl,bv⟩,E⟩
        obtain ⟨h5,h6,rfl⟩:=bv.shape
        have b6:=ab (em.out.below E)
        have hx:=ab (hw.out.tn E)
        have eD:=ab (fy E (fw en.out) en.out)
        have hy:=ab bv
        clear E bv
        go_wp2_with fail
        refine (nz (v'+1) _ (fW []) bk hy.out.ops b6.out.sh b6.out.er (jv [] (v'+1) cl) (by omega) (nG []).2).mono ?_
        rintro e i8 ⟨rfl,F⟩
        have b4:=ab (b6.out.below F)
        have br:=ab (hx.out.tn F)
        have hz:=ab (fy F (fw eD.out) eD.out)
        have eS:(sealB 1 (iG (v'+1) (fW []))).length≤1000000:=by
         have:=(jR (jv [] (v'+1) cl)).2
         rw [mh]
         omega
        have bw:=ab (nZ (fun j=>(j<w.heap.size∨((Value.slice d T.length o).ownBlock=some j∧j<D))∨j=O.heap.size) X H2 p2 i8 _ b4.out hu.out eS)
        rw [i4.out] at bw
        obtain ⟨ll,eT⟩:∃ sf,sf=sealB 1 (iG (v'+1) (fW [])):=⟨_,rfl⟩
        rw [←eT] at bw⊢
        clear F eS eT
        go_wp2_with fail
        refine bw.out.mono ?_
        rintro e g8 ⟨rfl,eV,b7⟩
        have e1:Hid (nt g8 (fun j=>(j<w.heap.size∨((Value.slice d T.length o).ownBlock=some j∧j<D))∨j=O.heap.size) X H3 (some p3)):=ab eV
        have hA:=ab (br.out.trans (b7.below br.out.size fun j l3 => .inl (.inl l3)))
        have a5:=mJ.at b7 (.inr rfl) hz.out
        have f0:=ae _ _ 0 _ _ _ a5
        have f1:=ae _ _ 1 _ _ _ a5
        have f2:=ae _ _ 2 _ _ _ a5
        have lm:=fw a5
        have ln:(((v'+1:Nat):Int)==((v'+1:Nat):Int))=true:=dt _
        clear eV b7 a5 bw
        have i9:(((v':Int)==(k:Int))=true)∨((((v':Int)==(k:Int))=false)∧((v':Int)==(k:Int)+1)=true):=by
         rcases g0 with e | e
         ·exact .inl (by rw [e];exact dt _)
         ·exact .inr ⟨aC.2 (by omega),by rw [e];exact bf.2 (by omega)⟩
        have lo:((v':Int)+1==(v':Int)+1)=true:=dt _
        clear g0
        rcases i9 with mE | ⟨mE,mI⟩
        all_goals
         go_wp2_with fail
         refine (lZ (fun j=>(j<w.heap.size∨((Value.slice d T.length o).ownBlock=some j∧j<D))∨j=O.heap.size) X H3 p3 g8 e1.out).mono ?_
         rintro e jp ⟨rfl,rfl⟩
         rw [i5.out]
         go_wp2_with fail
         refine (ke (fun j=>(j<w.heap.size∨((Value.slice d T.length o).ownBlock=some j∧j<D))∨j=O.heap.size) X H3 p3 jp e1.out hv.out).mono ?_
         rintro e lq ⟨rfl,e2⟩
         rw [i7.out]
         have hB:=ab (hA.out.tn e2)
         clear e2
         unfold lU
         go_wp2_with fail
         go_ret
         exact ⟨rfl,hB.out⟩
  ·have j0:¬(k:Int)<rs.length∨((k:Int)<rs.length∧¬(k:Int)<40):=by omega
   have bM:Hid (mS p=(0,0,0)):=ab (by unfold mS;rw [ap.out.deg])
   have J:=ab (ke (fun j=>j<w.heap.size) X H p wr am.out fun f R=>by rw [ap.out.deg] at R;cases R)
   rw [bM.out] at J
   have HV:=ab ap.out.v
   have hq:(k:Int)==(k:Int):=dt _
   clear b8
   rcases j0 with g1 | ⟨g1,g2⟩
   all_goals
    go_wp2_with fail
    refine J.out.mono ?_
    rintro e w8 ⟨rfl,B⟩
    have M:=ab (am.out.below B)
    have I:=ab (av.out.tn B)
    clear B
    unfold lU
    go_wp2_with fail
    refine (lZ (fun j=>j<w.heap.size) X H p w8 M.out).mono ?_
    rintro e O ⟨rfl,rfl⟩
    rw [HV.out]
    go_wp2
    go_ret
    exact ⟨by simp,I.out⟩
end Go.Proofs.YtkkfmkhbdoeglaaGreatDoor
