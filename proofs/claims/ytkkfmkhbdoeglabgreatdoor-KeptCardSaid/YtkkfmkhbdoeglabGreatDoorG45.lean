/- A part of what is proved here: lemmas and contracts of single functions. No condition but those that each names. -/
import Derived.Test.YtkkfmkhbdoeglabGreatDoorG00
import Derived.Deep.CutBlock
import Derived.Test.YtkkfmkhbdoeglabGreatDoorG43
import Derived.Test.YtkkfmkhbdoeglabGreatDoorG44
set_option maxHeartbeats 8000000
set_option maxRecDepth 100000
namespace Go.Proofs.YtkkfmkhbdoeglabGreatDoor
open Go.RowKit Go.Shelf
structure yQ (n s B:Nat) (H:fP) (p:PAg) (v:Nat) (V:List E):Prop where
 st:∃ ever,MachSt n [] s B H (some p) p.a [(v,V)] ever false
 v:p.a.V=v
 t:p.a.T=V
 deg:p.a.deg=none
 S:H.dp.S=V
 t60:In60 V
 dead:H.dp.dead=false
theorem rK {n s B:Nat} {H:fP} {P:Option PAg} {a:AgA} {b:List (Nat×List E)} {ever:List E} (h:MachSt n [] s B H P a b ever false) (j:48≤n∧n≤128) (d:∀ m∈b,In60 m.2) (mask cut:Int) (hc:cut≤9223372036854775807) :
  Fine n [] B H∧mG n [] (H.again mask cut (-1)).seen∧∃ H' p,ie (H.again mask cut (-1))=(H',.inl p)∧(H'.dp.dead=true→0≤cut∧MachSt n [] s (B+480) H' (some p) a b ever false)∧(H'.dp.dead=false→∃ v V,(v,V)∈b∧yQ n s (B+480) H' p v V):=by
 obtain ⟨H',p,v,V,h1,h2,h3,h4,h5,h6⟩:=jv.pG h j d mask cut hc
 refine ⟨h.fine,h.inv.opens mask cut (-1),H',p,h1,fun hd=>⟨eU.1 fun i => ?_,h4 hd⟩,fun hd => ?_⟩
 ·have:=(h6 i).2
  rw [hd] at this
  cases this
 ·obtain ⟨-,-,l,o,q⟩:=h5 hd
  obtain ⟨r,u,-⟩:=jJ v V
  exact ⟨v,V,h2,⟨ever,o⟩,by rw [h3,r],by rw [h3,u],l,q,d _ h2,hd⟩
theorem yQ.mT {n s B:Nat} {H:fP} {p:PAg} {v:Nat} {V:List E} (h:yQ n s B H p v V):∃ ever,MachSt n [] s B {H with dp := {H.dp with left:=max (-1) (-1)}} (some p) p.a [(v,V)] ever false:=by
 obtain ⟨ever,b⟩:=h.st
 have h1:=b.fine.ok.writes
 have h3:=b.fine.dp.log
 have h4:=b.fine.ok.fail
 exact ⟨ever,b.mT H.writes (max (-1) (-1)) H.fail H.dp.log false (fun e=>b.inv.arm e) h1 ⟨by omega,by omega⟩ h4 h3⟩
theorem jv.Jw {n k s B:Nat} {H:fP} {p:PAg} {T:List E} (h:jv n k s B H p T false) (cut:Int) (hc:cut≤9223372036854775807):jv n k s B {H with dp := {H.dp with left:=max cut (-1)}} p T false:=by
 obtain ⟨ever,b⟩:=h.st
 have h1:=b.fine.ok.writes
 have h3:=b.fine.dp.log
 have h4:=b.fine.ok.fail
 exact ⟨⟨ever,b.mT H.writes (max cut (-1)) H.fail H.dp.log false (fun e=>b.inv.arm e) h1 ⟨by omega,by omega⟩ h4 h3⟩,h.v,h.t,h.out,h.deg,h.t60,h.n48,h.dead⟩
def Ea (b c d e:Nat) (j:Nat):Prop:=(j<b∨(c≤j∧j<d))∨j=e
def BU (w:World) (n c d L X k:Nat) (wr:World):Prop:=∃ H p T,lR wr (Ea w.heap.size c d L) X H (some p)∧jv n k (2*k) (480+1000*k) H p T false∧jS wr (c+2) (c+1) c T∧wr.heap[L]?=some (.cells #[.int .u64 0,.slice none 0 0] 51 (0,0))∧Below w.heap.size w wr
def od (w:World) (K:Nat→Prop) (L k:Nat) (T:List E) (l:List (Nat×List E)):Prop :=
 (l=[(k,T)]∧w.heap[L]?=some (.cells #[.int .u64 0,.slice none 0 0] 51 (0,0)))∨
 (∃ b d i,l=[(k,T),(k+1,foldS T (fZ b))]∧w.heap[L]?=some (.cells #[.int .u64 ((k:Int)+1),.slice d (fZ b).length i] 51 (0,0))∧ix w (.slice d (fZ b).length i) (fZ b)∧∀ j,(Value.slice d (fZ b).length i).ownBlock=some j→K j)
def BS (w:World) (n c d L X k:Nat) (wr:World):Prop:=k≤40∧∃ K H p T b ever a,(∀ j,Ea w.heap.size c d L j→K j)∧lR wr K X H (some p)∧MachSt n [] (2*k+2) (480+1000*k+1000) H (some p) a b ever false∧(∀ m∈b,In60 m.2)∧jS wr (c+2) (c+1) c T∧od wr K L k T b∧Below w.heap.size w wr
theorem od.keeps {w w':World} {K:Nat→Prop} {L k:Nat} {T:List E} {d:List (Nat×List E)} (h:od w K L k T d) (hk:jD K w w') (i:K L):od w' K L k T d:=by
 rcases h with ⟨h1,h2⟩ | ⟨j,l,m,h1,h2,h3,h4⟩
 ·exact .inl ⟨h1,hk.at i h2⟩
 ·exact .inr ⟨j,l,m,h1,hk.at i h2,fW.frame h3 fun b e o=>hk.block b o fun q=>q (h4 b e),h4⟩
def BT (w:World) (n c d L X b k:Nat) (wr:World):Prop:=∃ K H p T i v V B,(∀ j,Ea w.heap.size c d L j→K j)∧K b∧lR wr K X H (some p)∧(v,V)∈i∧B≤100000∧yQ n (2*k+2) B H p v V∧wr.heap[b]?=some (.cells #[.int .i64 0,.int .i64 0,.int .i64 0] 34 (0,0))∧jS wr (c+2) (c+1) c T∧od wr K L k T i∧Below w.heap.size w wr
theorem od.more {w:World} {K b:Nat→Prop} {L k:Nat} {T:List E} {d:List (Nat×List E)} (h:od w K L k T d) (hk:∀ j,K j→b j):od w b L k T d:=by
 rcases h with h | ⟨i,l,m,h1,h2,h3,h4⟩
 ·exact .inl h
 ·exact .inr ⟨i,l,m,h1,h2,h3,fun j e=>hk j (h4 j e)⟩
theorem D9 (rs:List (List Int)) (s cut mask again:Int) (rv:Value) (w:World) (ou:oc w rv rs) (gl:∀ l∈rs,∀ x∈l,-9223372036854775808≤x∧x≤9223372036854775807) (m4:rs.length≤9223372036854775807) (pi : -9223372036854775808≤s∧s≤9223372036854775807) (b2 : -9223372036854775808≤cut∧cut≤9223372036854775807) (o3 : -9223372036854775808≤mask∧mask≤9223372036854775807) (ov : -9223372036854775808≤again∧again≤9223372036854775807) (gn:ShapesVar w) (ap:ErrVar w) :
  Calls Tryz.prog 11 #[.int .i64 s,rv,.int .i64 cut,.int .i64 mask,.int .i64 again] w fun e w'=>e = .returned (.bool true)∧Below w.heap.size w w':=by
 have j3:=iV s 81 (by omega)
 obtain ⟨n,go⟩:∃ n:Nat,(n:Int)=48+ji s 81:=⟨(48+ji s 81).toNat,by omega⟩
 have br:48≤n∧n≤128:=by omega
 obtain ⟨H0,p0,s1,s2,s3,s4,s5⟩:=jv.new br
 have gp:=ab (sF s n w pi go gn ap H0 p0 s1 s2)
 have m5:=iV cut 200 (by omega)
 have m6:=iV again 30 (by omega)
 have F:=ab (s5.Jw (ji cut 200) (by omega))
 obtain ⟨ra,mk,rfl,-,-⟩:=ou.opened
 have HR:=ab ou
 have kd:=ab gl
 have kf:=ap.1
 clear s1 s2 s3 s4 s5 ou gl gn ap j3 go
 go_enter Tryz.func11,Tryz.ntmps11
 go_wp2_with fail
 refine gp.out.mono ?_
 rintro e w1 ⟨X,rfl,bL,gq⟩
 have gs:=ab bL
 have d7:=ab gq
 clear bL gq gp
 go_wp2_with fail
 refine (xL w1).mono ?_
 rintro e w2 ⟨rfl,cq,d8⟩
 obtain ⟨c,hc⟩:∃ c,c=w1.heap.size:=⟨_,rfl⟩
 have cr:Hid (lR w2 (fun j=>j<w.heap.size∨(w1.heap.size≤j∧j<w2.heap.size)) X H0 (some {p0 with a := {p0.a with out:=[]}})):=ab (gs.out.tD d8 (fun j=>w1.heap.size≤j∧j<w2.heap.size) (fun j o=>o))
 have h9:w1.heap.size+2<w2.heap.size:=fU cq.cell
 have kk:=d7.out.size
 rw [←hc] at cr cq h9 kk⊢
 obtain ⟨d,hd⟩:∃ d,d=w2.heap.size:=⟨_,rfl⟩
 rw [←hd] at cr h9
 have gt:=ab cq
 have d9:=ab (d7.out.tn d8)
 have gu:=ab hd
 clear cq d8 hc hd gs
 go_wp2_with fail
 refine (kS cut 200 w2 b2.1 b2.2 (by omega)).mono ?_
 rintro e w3 ⟨rfl,rfl⟩
 go_wp2_with fail
 refine (BL (fun j=>j<w.heap.size∨(c≤j∧j<d)) X H0 _ w2 (ji cut 200) cr.out (by omega)).mono ?_
 rintro e w3 ⟨rfl,ea,cs⟩
 obtain ⟨H1,gv⟩:∃ H1,H1 = {H0 with dp := {H0.dp with left:=max (ji cut 200) (-1)}} := ⟨_,rfl⟩
 rw [←gv] at ea F
 have gz:=ab (gt.out.ext cs (fun e=>e (.inr (by omega))) (fun e=>e (.inr (by omega))) (fun e=>e (.inr (by omega))))
 have eb:=ab (d9.out.trans (cs.below d9.out.size fun j o => .inl o))
 have ct:Below w3.heap.size w3 (w3.alloc (.cells #[.int .u64 0,.slice none 0 0] 51)):=(Below.rf w3).alloc (af _) _
 have L4:=fR w3 (.cells #[.int .u64 0,.slice none 0 0] 51)
 have g3:Hid (lR (w3.alloc (.cells #[.int .u64 0,.slice none 0 0] 51)) (Ea w.heap.size c d w3.heap.size) X H1 (some {p0 with a := {p0.a with out:=[]}})):=ab (ea.tD ct (fun j=>j=w3.heap.size) (fun j o=>⟨by omega,by rw [o,aw];omega⟩))
 have kn:d≤w3.heap.size:=by have:=cs.size;have:=gu.out;omega
 have bs:Hid (BU w n c d w3.heap.size X 0 (w3.alloc (.cells #[.int .u64 0,.slice none 0 0] 51))):=ab ⟨H1,_,[],g3.out,F.out,gz.out.below ct,L4,eb.out.tn ct⟩
 have ko:=eb.out.size
 clear ea cs ct L4 gv g3 gz eb cr gt d9 d7 gu F
 go_upto_block 0 with fail
 generalize w3.alloc (.cells #[.int .u64 0,.slice none 0 0] 51)=w4 at *
 obtain ⟨L,op⟩:∃ L,L=w3.heap.size:=⟨_,rfl⟩
 rw [←op] at bs kn ko⊢
 clear op
 go_cut [15] from 53 to 104 (fun v wx=>∃ k:Nat,v = .int .u64 (k:Int)∧BS w n c d L X k wx)
 case first =>
  go_wp2_with fail
  go_loopw [15,17] (fun v i wr=>∃ k:Nat,k≤rs.length∧k≤40∧i = .int .i64 (k:Int)∧v = .int .u64 (k:Int)∧BU w n c d L X k wr) (fun _ i _=>rs.length-(intOf i).toNat)
  case atStart=>exact ⟨0,by omega,by omega,rfl,rfl,bs.out⟩
  case round =>
   obtain ⟨k,hk,b6,rfl,rfl,hrel⟩:=hrel
   obtain ⟨H,p,T,ok,hu,os,op,I⟩:=hrel
   have R:=ab ok
   have HU:=ab hu
   have HF:=ab os
   have HL:=ab op
   have M:=ab I
   clear ok hu os op I bs
   by_cases ej:k<rs.length∧k<40
   ·obtain ⟨ej,l3⟩:=ej
    obtain ⟨l,hl⟩:∃ l,rs[k]?=some l:=⟨_,ay ej⟩
    obtain ⟨m7,l4,kp,el,g4⟩:=(HR.out.below M.out).opened
    obtain ⟨g,off,u,kr,g5,em⟩:=g4 k l hl
    cases kp
    subst kr
    obtain ⟨ua,uc,rfl,m8,-⟩:=em.opened
    have g6:=ab em
    have ks:=ab (kd.out l (aV hl))
    have g1:(k:Int)<rs.length:=by omega
    have g2:(k:Int)<40:=by omega
    have kt:=fU g5
    clear hl g4 em
    have ms:(1000:Nat)≤gF:=by decide
    have m9:IntKind.u64.wrap ((k:Int)+1)=((k+1:Nat):Int):=by rw [show ((k:Int)+1)=((k+1:Nat):Int) by omega];exact IntWalk.u64_in _ (by omega)
    have a2:isVersionB (k+1)=true:=iU (by omega) (by omega)
    go_upto_if 69 with fail
    go_cut [18] from 53 to 104 (fun pk wx=>kj wr pk (l.take 8)∧wx=wr)
    case first =>
     by_cases h8:8<l.length
     ·have kw:(8:Int)<l.length:=by omega
      have na:(8:Int)≤uc:=by omega
      go_wp2
      go_meet
      case rel=>exact ⟨kj.taken g6.out 8 (by omega),rfl⟩
     ·have kw:¬(8:Int)<l.length:=by omega
      have e:l.take 8=l:=aQ (by omega)
      go_wp2
      go_meet
      case rel=>exact ⟨by rw [e];exact g6.out,rfl⟩
    case rest =>
     obtain ⟨en,rfl⟩:=hcut
     obtain ⟨q,bv⟩:∃ q,q=l.take 8:=⟨_,rfl⟩
     have nb:q.length≤8:=by rw [bv,az];omega
     have g7:∀ x∈q,-9223372036854775808≤x∧x≤9223372036854775807:=fun x ok=>ks.out x (cZ (by rw [←bv];exact ok))
     rw [←bv] at en
     have kB:=ab en
     have kC:=ab g7
     have g8:=fO HL.out
     clear en bv g7 g5 kt
     go_wp2_with fail
     refine (rm (k+1) u18 q wc kB.out (by omega) kC.out).mono ?_
     rintro e w5 ⟨⟨sv,rfl,a3⟩,eC⟩
     obtain ⟨O,Q,rfl⟩:=a3.shape
     have a4:Below w5.heap.size w5 (w5.alloc (.cells #[.int .u64 ((k:Int)+1),.slice O (fZ q).length Q] 51)):=(Below.rf w5).alloc (af _) _
     have D6:=fR w5 (.cells #[.int .u64 ((k:Int)+1),.slice O (fZ q).length Q] 51)
     have kE:=ab a3.gh
     have g9:=ab (fW.below a3.ops a4)
     have kO:=ab a3.gP
     have a5:=ab (eC.tn a4)
     have kV:=eC.size
     clear a3 eC
     go_upto_region 17 with fail
     generalize w5.alloc (.cells #[.int .u64 ((k:Int)+1),.slice O (fZ q).length Q] 51)=w6 at *
     have av:=ab (R.out.below a5.out)
     have d0:=ae _ _ 0 _ _ _ D6
     have d1:=ae _ _ 1 _ _ _ D6
     have k0:=fO D6
     have hb:=ab D6
     clear a4 D6
     go_wp2_with fail
     refine (rn (k+1) _ (fZ q) w6 g9.out av.out.sh av.out.er (jr q (k+1) a2) (by omega) (rh q).2).mono ?_
     rintro e w7 ⟨rfl,bN⟩
     have cu:=ab (a5.out.tn bN)
     have D7:=fQ bN (fO hb.out) hb.out
     have hf:Hid (lR w7 (fun j=>Ea w.heap.size c d L j∨(wc.heap.size≤j∧j<w7.heap.size)) X H (some p)):=ab (R.out.tD cu.out (fun j=>wc.heap.size≤j∧j<w7.heap.size) (fun j o=>o))
     have k1:=ab (fW.below g9.out bN)
     have k2:=ab (HF.out.below cu.out)
     have k3:=ab (fQ cu.out (fO HL.out) HL.out)
     have k4:=bN.size
     have eS:=ab (M.out.tn cu.out)
     obtain ⟨ol,eT⟩:∃ ol,ol=wc.heap.size:=⟨_,rfl⟩
     obtain ⟨oo,hg⟩:∃ oo,oo=w7.heap.size:=⟨_,rfl⟩
     obtain ⟨DB,hh⟩:∃ DB,DB=w5.heap.size:=⟨_,rfl⟩
     rw [←eT,←hg] at hf
     rw [←hh] at D7⊢
     have hi:Hid (ol≤DB∧DB<oo):=ab ⟨by omega,by omega⟩
     have cv:Hid (∀ j,(Value.slice O (fZ q).length Q).ownBlock=some j→ol≤j∧j<oo):=ab fun j e=>⟨by rw [eT];exact kE.out j e,by have:=kO.out j e;omega⟩
     have nc:L<ol:=by omega
     have eV:(sealB 1 (jb (k+1) (fZ q))).length≤1000000:=by
      have:=(lN (jr q (k+1) a2)).2
      rw [pH]
      omega
     have d0:=ae _ _ 0 _ _ _ D7
     have d1:=ae _ _ 1 _ _ _ D7
     have hL:=fO D7
     have k5:=ab D7
     obtain ⟨H',p',el,bn,bO⟩:=HU.out.recv (by omega) (by omega) q
     have cB:=ab (nD (fun j=>Ea w.heap.size c d L j∨(ol≤j∧j<oo)) X H p w7 (sealB 1 (jb (k+1) (fZ q))) hf.out (HU.out.ready (by omega) (by omega)) eV)
     rw [el] at cB
     obtain ⟨sf,hj⟩:∃ sf,sf=sealB 1 (jb (k+1) (fZ q)):=⟨_,rfl⟩
     rw [←hj] at cB⊢
     have c0:=ab bn
     have bP:=ab bO
     clear el eV hj bn bO bN D7 eT hg hh k4 kV k0
     go_wp2_with fail
     refine cB.out.mono ?_
     rintro e w8 ⟨rfl,bS,aE⟩
     have e0:Hid (lR w8 (fun j=>Ea w.heap.size c d L j∨(ol≤j∧j<oo)) X H' (some p')):=ab bS
     have e1:Hid (jD (fun j=>Ea w.heap.size c d L j∨(ol≤j∧j<oo)) w7 w8):=ab aE
     have bw:=ab (eS.out.trans (aE.below eS.out.size fun j o => .inl (.inl (.inl o))))
     have hn:=ab (k2.out.ext aE (fun e=>e (.inl (.inl (.inr (by omega))))) (fun e=>e (.inl (.inl (.inr (by omega))))) (fun e=>e (.inl (.inl (.inr (by omega))))))
     have a7:=ab (jD.at e1.out (.inl (.inr rfl)) k3.out)
     have c6:=ab (jD.at e1.out (.inr hi.out) k5.out)
     have ho:=ab (fW.frame k1.out fun b e I=>e1.out.block b I fun o0=>o0 (.inr (cv.out b e)))
     clear bS aE cB d0 d1 hL
     go_wp2_with fail
     refine (yL (fun j=>Ea w.heap.size c d L j∨(ol≤j∧j<oo)) X H' (some p') w8 e0.out).mono ?_
     rintro e E ⟨rfl,rfl⟩
     rcases bP.out with ⟨a9,ever,J⟩ | ⟨a9,hN,e2,e3,G⟩ | ⟨-,-,-,a9,-⟩
     ·rw [a9]
      have ne:=ab J
      have q0:=aj _ _ 0 _ _ a7.out
      have q1:=aj _ _ 1 _ _ a7.out
      have m0:=ae _ _ 0 _ _ _ a7.out
      have m1:=ae _ _ 1 _ _ _ a7.out
      have d0:=ae _ _ 0 _ _ _ c6.out
      have d1:=ae _ _ 1 _ _ _ c6.out
      have mA:=fO a7.out
      have mC:=fO c6.out
      have ba:Ext (fun j=>j=L) E ((E.setCell ⟨L,0,none⟩ (.int .u64 ((k:Int)+1))).setCell ⟨L,1,none⟩ (.slice O (fZ q).length Q)):=((Ext.refl (fun j=>j=L) E).setCell ⟨L,0,none⟩ _ (.inl rfl)).setCell ⟨L,1,none⟩ _ (.inl rfl)
      have e4:((E.setCell ⟨L,0,none⟩ (.int .u64 ((k:Int)+1))).setCell ⟨L,1,none⟩ (.slice O (fZ q).length Q)).heap[L]?=some (.cells #[.int .u64 ((k:Int)+1),.slice O (fZ q).length Q] 51 (0,0)):=heap_setCell _ _ 1 _ (heap_setCell _ _ 0 _ a7.out)
      have b7:Hid (BS w n c d L X k ((E.setCell ⟨L,0,none⟩ (.int .u64 ((k:Int)+1))).setCell ⟨L,1,none⟩ (.slice O (fZ q).length Q))):=ab ⟨b6,_,H',p',T,_,ever,_,fun j o => .inl o,e0.out.other ba (fun j o => .inl (.inr o)) (fun j o=>by omega),J,fun m hm=>by
        rcases aP.1 hm with rfl | hm
        ·exact HU.out.t60
        ·rw [ax.1 hm];exact c0.out,
       hn.out.ext ba (by omega) (by omega) (by omega),
       .inr ⟨q,O,Q,rfl,e4,fW.frame ho.out fun b e I=>ba.block b I fun ps=>by have:=(cv.out b e).1;omega,fun j e => .inr (cv.out j e)⟩,
       bw.out.trans (ba.below bw.out.size fun j o e=>by omega)⟩
      clear ba e4 J a9
      go_wp2_with fail
      go_meet
      exact ⟨k,rfl,b7.out⟩
     ·rw [a9]
      have F:=ab G
      have k7:=ab e2
      have hO:=ab e3
      have k8:Hid (([sealB 17 (be8 (k+1))]:List (List UInt8)).foldl gZ 0=k+1):=ab (sY 0 (k+1) (by omega) 17 (.inr rfl))
      clear a9 hN e2 e3 G bP
      go_wp2_with fail
      refine (np (fun j=>Ea w.heap.size c d L j∨(ol≤j∧j<oo)) X H' p' E e0.out k7.out).mono ?_
      rintro e e5 ⟨rfl,e6,ag⟩
      rw [hO.out,k8.out]
      have bb:=ab e6
      have bc:=ab (hn.out.ext ag (fun e=>e (.inl (.inl (.inr (by omega))))) (fun e=>e (.inl (.inl (.inr (by omega))))) (fun e=>e (.inl (.inl (.inr (by omega))))))
      have bx:=ab (jD.at (K:=fun j=>Ea w.heap.size c d L j∨(ol≤j∧j<oo)) ag (.inl (.inr rfl)) a7.out)
      have c7:=jD.at (K:=fun j=>Ea w.heap.size c d L j∨(ol≤j∧j<oo)) ag (.inr hi.out) c6.out
      have hP:=ab (fW.frame ho.out fun b e I=>ag.block b I fun o0=>o0 (.inr (cv.out b e)))
      have c8:=ab (bw.out.trans (ag.below bw.out.size fun j o => .inl (.inl (.inl o))))
      have d0:=ae _ _ 0 _ _ _ c7
      have d1:=ae _ _ 1 _ _ _ c7
      have gb:=fO c7
      have hq:(((k+1:Nat):Int)==((k+1:Nat):Int))=true:=ei _
      have bX:nL (k+1) T (fZ q)=foldS T (fZ q)∧rI (k+1) (fZ q)=kD 0 0 0:=by unfold nL rI;rw [jr q (k+1) a2];exact ⟨rfl,rfl⟩
      have c9:=ab bX
      clear e6 ag c7 bX
      go_wp2_with fail
      refine (pT (c+2) (c+1) c T (k+1) _ (fZ q) e5 bc.out hP.out bb.out.sh bb.out.er (vS q) (by omega)).mono ?_
      rintro e a0 ⟨rfl,b8,ak⟩
      rw [c9.out.2]
      rw [c9.out.1] at b8
      have D:Below a0.heap.size a0 (a0.alloc (.cells #[.int .i64 0,.int .i64 0,.int .i64 0] 34)):=(Below.rf a0).alloc (af _) _
      have bL:lR a0 (Ea w.heap.size c d L) X H' (some {p' with a := {p'.a with out:=[]}}):=(bb.out.other ak (fun j o => .inl (.inl (.inr (by omega)))) (fun j o=>by omega)).less (fun j o => .inl o) (fun j o => .inl (.inl (by omega)))
      have la:Hid (BU w n c d L X (k+1) (a0.alloc (.cells #[.int .i64 0,.int .i64 0,.int .i64 0] 34))):=ab ⟨H',_,_,bL.below D,by rw [show 2*(k+1)=2*k+2 by omega,show 480+1000*(k+1)=480+1000*k+1000 by omega];exact F.out,(bc.out.step ak b8).below D,fQ D (fO (ak.at (by omega) bx.out)) (ak.at (by omega) bx.out),(c8.out.trans (ak.below c8.out.size fun j o e=>by omega)).tn D⟩
      clear ak b8 bL D d0 d1 gb
      unfold kD
      go_wp2_with fail
      refine ⟨⟨k+1,by omega,by omega,by go_num,by go_num,la.out⟩,by simp [intOf];omega⟩
     ·cases a9
   ·have lb:¬(k:Int)<rs.length∨((k:Int)<rs.length∧¬(k:Int)<40):=by omega
    have b7:Hid (BS w n c d L X k wr):=ab (by
     obtain ⟨ever,J⟩:=HU.out.st
     exact ⟨b6,_,H,p,T,_,ever,_,fun _ h=>h,R.out,J.mono (by omega) (by omega) (fun _ h=>h),fun m hm=>by rw [ax.1 hm];exact HU.out.t60,HF.out,.inl ⟨rfl,HL.out⟩,M.out⟩)
    rcases lb with g1 | ⟨g1,g2⟩
    all_goals
     go_wp2_with fail
     go_meet
     exact ⟨k,rfl,b7.out⟩
 case rest =>
  obtain ⟨k,rfl,hQ⟩:=hcut
  obtain ⟨b6,K,H,p,T,mb,ever,a,bo,ok,J,bn,os,da,I⟩:=hQ
  obtain ⟨c1,c2,H2,p2,c3,c4,c5⟩:=rK J br bn mask (ji again 30) (by omega)
  have U:=ab (pP K X H (some p) wc mask (ji again 30) (-1) ok c1 (by omega) c2 o3 (by omega) (by omega))
  rw [c3] at U
  have hp:=ab c4
  have hr:=ab c5
  have Y:=ab bo
  have c0:=ab bn
  have HF:=ab os
  have hs:=ab da
  have M:=ab I
  have ht:=ab (kS again 30 wc ov.1 ov.2 (by omega))
  clear c1 c2 c3 c4 c5 bo ok J bn os da I bs
  go_wp2_with fail
  refine ht.out.mono ?_
  rintro e wd ⟨rfl,rfl⟩
  go_wp2_with fail
  refine U.out.mono ?_
  rintro e w5 ⟨⟨rfl,e8⟩,dc⟩
  have e9:K L:=Y.out L (.inr rfl)
  have N:∀ j,c≤j∧j<d→K j:=fun j o=>Y.out j (.inl (.inr o))
  have a4:Below w5.heap.size w5 (w5.alloc (.cells #[.int .i64 0,.int .i64 0,.int .i64 0] 34)):=(Below.rf w5).alloc (af _) _
  have F6:=fR w5 (.cells #[.int .i64 0,.int .i64 0,.int .i64 0] 34)
  have av:=ab (lR.tD (P:=some p2) e8 a4 (fun j=>j=w5.heap.size) (fun j o=>⟨by omega,by rw [o,aw];omega⟩))
  have bz:jD K wc (w5.alloc (.cells #[.int .i64 0,.int .i64 0,.int .i64 0] 34)):=Ext.trans dc (Ext.fT a4)
  have ca:=ab (hs.out.keeps bz e9)
  have dk:∀ j,K j→j<w5.heap.size:=fun j o=>lR.lt (P:=some p2) e8 j o
  have ld:2≤w5.heap.size:=aH kf (aH M.out.size dc.size)
  have fa:=ab (HF.out.ext bz (fun e=>e (N _ (by omega))) (fun e=>e (N _ (by omega))) (fun e=>e (N _ (by omega))))
  have a5:=ab (M.out.trans (bz.below M.out.size fun j o=>Y.out j (.inl (.inl o))))
  have le:w.heap.size≤w5.heap.size:=aH M.out.size dc.size
  unfold nZ
  clear dc bz a4 U ht e8 hs HF M
  go_upto_region 31 with fail
  generalize w5.alloc (.cells #[.int .i64 0,.int .i64 0,.int .i64 0] 34)=w6 at *
  obtain ⟨C,hv⟩:∃ C,C=w5.heap.size:=⟨_,rfl⟩
  rw [←hv] at F6 av dk ld le⊢
  have fb:=ab F6
  have nn:c<C:=dk c (N c (by omega))
  clear hv F6
  go_wp2_with fail
  refine (yL (fun j=>K j∨j=C) X H2 (some p2) w6 av.out).mono ?_
  rintro e w7 ⟨rfl,rfl⟩
  go_upto_if 111 with fail
  go_cut [] (fun wx=>BT w n c d L X C k wx)
  case first =>
   cases hdd:H2.dp.dead with
   | true =>
    obtain ⟨-,fc⟩:=hp.out hdd
    obtain ⟨c1,c2,H3,p3,c3,c4,c5⟩:=rK fc br c0.out again (-1) (by omega)
    have b1:H3.dp.dead=false:=by
     cases h:H3.dp.dead with
     | true=>have:=(c4 h).1;omega
     | false=>rfl
    obtain ⟨v,V,r,G⟩:=c5 b1
    have U:=ab (pP (fun j=>K j∨j=C) X H2 (some p2) w7 again (-1) (-1) av.out c1 (by omega) c2 ov (by omega) (by omega))
    rw [c3] at U
    have hT:=ab r
    have F:=ab G
    clear hdd fc c1 c2 c3 c4 c5 b1 r G
    go_wp2_with fail
    refine U.out.mono ?_
    rintro e w8 ⟨⟨rfl,bS⟩,aE⟩
    have F8:=jD.at (K:=fun j=>K j∨j=C) aE (.inr rfl) fb.out
    have F9:=nz F8 (.int .i64 0) (.int .i64 0) (.int .i64 0)
    have X9:=mh w8 C (.int .i64 0) (.int .i64 0) (.int .i64 0)
    have g0:=ae _ _ 0 _ _ _ F8
    have g1:=ae _ _ 1 _ _ _ F8
    have g2:=ae _ _ 2 _ _ _ F8
    have z0:=aj _ _ 0 _ _ F8
    have z1:=aj _ _ 1 _ _ F8
    have z2:=aj _ _ 2 _ _ F8
    have no:=fO F8
    have bD:jD K w7 (oK w8 C (.int .i64 0) (.int .i64 0) (.int .i64 0)):=(Ext.mono aE fun j o e=>o (.inl e)).trans (X9.mono fun j o e=>by have:=dk j e;omega)
    have bH:Hid (BT w n c d L X C k (oK w8 C (.int .i64 0) (.int .i64 0) (.int .i64 0))):=ab ⟨fun j=>K j∨j=C,H3,p3,T,mb,v,V,_,fun j o => .inl (Y.out j o),.inr rfl,lR.other (P:=some p3) bS X9 (fun j o => .inr o) (fun j o=>by omega),hT.out,by omega,F.out,F9,fa.out.ext bD (fun e=>e (N _ (by omega))) (fun e=>e (N _ (by omega))) (fun e=>e (N _ (by omega))),(ca.out.keeps bD e9).more fun j o => .inl o,a5.out.trans (bD.below a5.out.size fun j o=>Y.out j (.inl (.inl o)))⟩
    clear bD
    unfold oK at bH
    unfold nZ
    clear F9 X9 bS aE
    go_wp2_with fail
    go_meet
    exact bH.out
   | false =>
    obtain ⟨v,V,r,G⟩:=hr.out hdd
    have bH:Hid (BT w n c d L X C k w7):=ab ⟨_,H2,p2,T,mb,v,V,_,fun j o => .inl (Y.out j o),.inr rfl,av.out,r,by omega,G,fb.out,fa.out,ca.out.more fun j o => .inl o,a5.out⟩
    clear hdd r G
    go_wp2_with fail
    go_meet
    exact bH.out
  case rest =>
   clear av ca fa a5 fb Y c0 hp hr e9 N dk
   obtain ⟨K,H,p,T,mb,v,V,B,bo,fd,ok,r,pu,G,hF,hw,hx,I⟩:=hcut
   have N:∀ j,c≤j∧j<d→K j:=fun j o=>bo j (.inl (.inr o))
   have R:=ab ok
   have F:=ab G
   have be:=ab hF
   have dl:=ab hw
   have M:=ab I
   have Y:=ab bo
   have li:=ab G.v
   have nr:V.length≤60:=G.t60.len
   have f0:=ae _ _ 0 _ _ _ hF
   have f1:=ae _ _ 1 _ _ _ hF
   have f2:=ae _ _ 2 _ _ _ hF
   have lk:=fO hF
   have bO:(v=k∧V=T)∨(v=k+1∧∃ q O Q,V=foldS T (fZ q)∧wc.heap[L]?=some (.cells #[.int .u64 ((k:Int)+1),.slice O (fZ q).length Q] 51 (0,0))∧ix wc (.slice O (fZ q).length Q) (fZ q)):=by
    rcases hx with ⟨h1,h2⟩ | ⟨q,O,Q,h1,h2,h3,h4⟩
    ·rw [h1] at r
     have e:=ax.1 r
     exact .inl ⟨aZ Prod.fst e,aZ Prod.snd e⟩
    ·rw [h1] at r
     rcases aP.1 r with e | e
     ·exact .inl ⟨aZ Prod.fst e,aZ Prod.snd e⟩
     ·have e:=ax.1 e
      exact .inr ⟨aZ Prod.fst e,q,O,Q,aZ Prod.snd e,h2,h3⟩
   have bP:=ab bO
   clear bo ok r G hF hw hx I bO
   go_wp2_with fail
   refine (D5 K X H (some p) wc R.out).mono ?_
   rintro e wd ⟨rfl,rfl⟩
   rw [show (some p).isSome=true from rfl]
   go_wp2_with fail
   refine (pQ K X H p wd R.out).mono ?_
   rintro e we ⟨rfl,rfl⟩
   rw [li.out]
   have ns:IntKind.u64.wrap ((k:Int)+1)=(k:Int)+1:=IntWalk.u64_in _ (by omega)
   go_upto_region 36 with fail
   have fg:Hid (∀ y:World,lR y K X H (some p)→jS y (c+2) (c+1) c V→y.heap[C]?=some (.cells #[.int .i64 0,.int .i64 0,.int .i64 0] 34 (0,0))→Below w.heap.size w y→Hid (lR y K X H (some p)∧jS y (c+2) (c+1) c V∧y.heap[C]?=some (.cells #[.int .i64 0,.int .i64 0,.int .i64 0] 34 (0,0))∧Below w.heap.size w y)):=ab fun y h1 h2 h3 h4=>ab ⟨h1,h2,h3,h4⟩
   rcases bP.out with ⟨o1,hV⟩ | ⟨o1,q,O,Q,hV,op,o7⟩
   case' inl =>
    have HM:=fg.out we R.out (by rw [hV];exact dl.out) be.out M.out
    have hy:((v:Int)==(k:Int)+1)=false:=aA.2 (by omega)
    have hz:((v:Int)==(k:Int))=true:=a8.2 (by omega)
    clear hV o1
    go_upto_region 40 with fail
    generalize we=y at *
   case' inr =>
    have pl:=ae _ _ 0 _ _ _ op
    have pm:=ae _ _ 1 _ _ _ op
    have g8:=fO op
    have a2:isVersionB (k+1)=true:=iU (by omega) (by omega)
    have bX:nL (k+1) T (fZ q)=foldS T (fZ q):=by unfold nL;rw [jr q (k+1) a2]
    have c9:=ab bX
    have lm:=ab hV
    have ln:=ab o7
    have hy:((v:Int)==(k:Int)+1)=true:=a8.2 (by omega)
    have hz:((k:Int)+1==(v:Int))=true:=a8.2 (by omega)
    clear bX hV o7 o1
    go_wp2_with fail
    refine (pT (c+2) (c+1) c T (k+1) _ (fZ q) we dl.out ln.out R.out.sh R.out.er (vS q) (by omega)).mono ?_
    rintro e y ⟨rfl,fk,b3⟩
    rw [c9.out,←lm.out] at fk
    have HM:=fg.out y (R.out.other b3 (fun j o=>N j (by omega)) (fun j o=>by omega)) (dl.out.step b3 fk) (b3.at (by omega) be.out) (M.out.trans (b3.below M.out.size fun j o e=>by omega))
    clear fk b3 pl pm g8
    go_upto_region 40 with fail
   all_goals
    clear fg bP dl be R M f0 f1 f2 lk hy hz
    obtain ⟨ok,os,hF,I⟩:=HM.out
    have R:=ab ok
    have be:=ab hF
    have M:=ab I
    have hY:=ab (sB (c+2) (c+1) c V y os (by omega))
    have fl:=ab (fun (W:World) (hW:lR W K X H (some p))=>sZ K X H p W hW (by rw [F.out.t];omega))
    rw [F.out.t] at fl
    have fn:=ab (fun (W:World) (hW:lR W K X H (some p))=>Fy K X H (some p) W hW (by rw [F.out.S];omega))
    rw [F.out.S] at fn
    clear ok os hF I HM
    go_wp2_with fail
    refine hY.out.mono ?_
    rintro e E ⟨ev,rfl,ap,fo,b4⟩
    obtain ⟨pp,ec,rfl,-,-⟩:=ap.opened
    have lo:Hid (lR E (fun j=>K j∨(y.heap.size≤j∧j<E.heap.size)) X H (some p)):=ab (R.out.tD b4 _ (fun j o=>o))
    have h0:=ab ap
    have hA:=ab (fQ b4 (fO be.out) be.out)
    have lq:=ab (M.out.tn b4)
    have m2:=fO be.out
    have ls:Hid (V=[]∨∀ j,(Value.slice pp V.length ec).ownBlock=some j→(K j∨(y.heap.size≤j∧j<E.heap.size))∧j≠C):=ab ((iJ.own ap).imp id fun h j e=>⟨.inr ⟨fo j e,h j e⟩,by have:=fo j e;omega⟩)
    have hB:=ab (R.out.below b4)
    clear ap fo b4
    go_wp2_with fail
    refine (fl.out E hB.out).mono ?_
    rintro e e5 ⟨lv,rfl,fp,-,al⟩
    obtain ⟨pv,lc,rfl,-,-⟩:=fp.opened
    have bb:=ab (lo.out.below al)
    have lw:=ab (hB.out.below al)
    have dn:=ab (fW.below h0.out al)
    have bc:=ab (fQ al (fO hA.out) hA.out)
    have h5:=ab (lq.out.tn al)
    have bx:=ab fp
    clear fp al
    go_wp2_with fail
    refine (my _ _ V e5 bx.out dn.out (by omega)).mono ?_
    rintro e a0 ⟨rfl,am⟩
    have h6:=ab (bb.out.below am)
    have lx:=ab (lw.out.below am)
    have ge:=ab (fW.below dn.out am)
    have fr:=ab (fQ am (fO bc.out) bc.out)
    have h7:=ab (h5.out.tn am)
    clear am
    go_wp2_with fail
    refine (fn.out a0 lx.out).mono ?_
    rintro e ly ⟨p1,rfl,hC,D⟩
    have ii:=ab (h6.out.below D)
    have ds:=ab (fW.below ge.out D)
    have fv:=ab (fQ D (fO fr.out) fr.out)
    have io:=ab (h7.out.tn D)
    have ip:=ab hC
    clear hC D
    go_wp2_with fail
    refine (my _ _ V ly ip.out ds.out (by omega)).mono ?_
    rintro e fz ⟨rfl,bi⟩
    have i0:=ab (ii.out.below bi)
    have gf:=ab (fW.below ds.out bi)
    have i1:=ab (fQ bi (fO fv.out) fv.out)
    have fB:=ab (io.out.tn bi)
    clear bi
    go_wp2_with fail
    refine (BL (fun j=>K j∨(y.heap.size≤j∧j<E.heap.size)) X H (some p) fz (-1) i0.out (by omega)).mono ?_
    rintro e hD ⟨rfl,f3,cb⟩
    obtain ⟨ever,J⟩:=F.out.mT
    obtain ⟨c1,c2,H3,p3,c3,c4,c5⟩:=rK J br (fun m hm=>by rw [ax.1 hm];exact F.out.t60) mask (-1) (by omega)
    have b1:H3.dp.dead=false:=by
     cases h:H3.dp.dead with
     | true=>have:=(c4 h).1;omega
     | false=>rfl
    obtain ⟨v3,V3,r,f4⟩:=c5 b1
    have o2:=ax.1 r
    obtain rfl:v3=v:=aZ Prod.fst o2
    obtain rfl:V3=V:=aZ Prod.snd o2
    have U:=ab (pP (fun j=>K j∨(y.heap.size≤j∧j<E.heap.size)) X {H with dp := {H.dp with left:=max (-1) (-1)}} (some p) hD mask (-1) (-1) f3 c1 (by omega) c2 o3 (by omega) (by omega))
    rw [c3] at U
    have ce:=ab f4
    have hE:=jD.at (K:=fun j=>K j∨(y.heap.size≤j∧j<E.heap.size)) cb (.inl fd) i1.out
    have i3:=ab hE
    have i4:Hid (jD (fun j=>K j∨(y.heap.size≤j∧j<E.heap.size)) fz hD):=ab cb
    clear f3 cb J c1 c2 c3 c4 c5 b1 r o2 f4 hE
    go_wp2_with fail
    refine U.out.mono ?_
    rintro e f5 ⟨⟨rfl,f6⟩,ci⟩
    have Z:=jD.at (K:=fun j=>K j∨(y.heap.size≤j∧j<E.heap.size)) ci (.inl fd) i3.out
    have hG:=nz Z (.int .i64 0) (.int .i64 0) (.int .i64 0)
    have f7:=mh f5 C (.int .i64 0) (.int .i64 0) (.int .i64 0)
    have g0:=ae _ _ 0 _ _ _ Z
    have g1:=ae _ _ 1 _ _ _ Z
    have g2:=ae _ _ 2 _ _ _ Z
    have z0:=aj _ _ 0 _ _ Z
    have z1:=aj _ _ 1 _ _ Z
    have z2:=aj _ _ 2 _ _ Z
    have i5:=fO Z
    have cl:=ab (lR.other (P:=some p3) f6 f7 (fun j o => .inl (by rw [o];exact fd)) (fun j o=>by omega))
    have co:jD (fun j=>(K j∨(y.heap.size≤j∧j<E.heap.size))∧j≠C) fz (oK f5 C (.int .i64 0) (.int .i64 0) (.int .i64 0)):=((Ext.mono i4.out fun j o (e:(K j∨(y.heap.size≤j∧j<E.heap.size))∧j≠C)=>o e.1).trans (Ext.mono ci fun j o (e:(K j∨(y.heap.size≤j∧j<E.heap.size))∧j≠C)=>o e.1)).trans (f7.mono fun j o (e:(K j∨(y.heap.size≤j∧j<E.heap.size))∧j≠C)=>e.2 o)
    have dv:=ab (iJ.keeps gf.out co ls.out)
    have f8:=ab (fB.out.trans (co.below fB.out.size fun j o=>⟨.inl (Y.out j (.inl (.inl o))),by omega⟩))
    have cp:=ab hG
    unfold oK at cl dv f8 cp
    unfold nZ
    clear f6 ci hG f7 co
    go_upto_region 46 with fail
    generalize ((f5.setCell ⟨C,0,none⟩ (.int .i64 0)).setCell ⟨C,1,none⟩ (.int .i64 0)).setCell ⟨C,2,none⟩ (.int .i64 0)=l0 at *
    clear g0 g1 g2 z0 z1 z2 i5 Z
    go_wp2_with fail
    refine (sZ (fun j=>K j∨(y.heap.size≤j∧j<E.heap.size)) X H3 p3 l0 cl.out (by rw [ce.out.t];omega)).mono ?_
    rintro e l1 ⟨mv,rfl,dT,-,bk⟩
    rw [ce.out.t] at dT
    obtain ⟨p4,mc,rfl,-,-⟩:=dT.opened
    have i6:=ab (cl.out.below bk)
    have gg:=ab (fW.below dv.out bk)
    have f9:=ab (fQ bk (fO cp.out) cp.out)
    have i7:=ab (f8.out.tn bk)
    have i8:=ab dT
    clear dT bk
    go_wp2_with fail
    refine (my _ _ _ l1 i8.out gg.out (by omega)).mono ?_
    rintro e l2 ⟨rfl,bI⟩
    have i9:=ab (i6.out.below bI)
    have b5:=fQ bI (fO f9.out) f9.out
    have jp:=ab (i7.out.tn bI)
    have f0:=ae _ _ 0 _ _ _ b5
    have f1:=ae _ _ 1 _ _ _ b5
    have f2:=ae _ _ 2 _ _ _ b5
    have ma:=fO b5
    have nv:∀ x:Int,(x==x)=true:=fun x=>ei x
    clear bI b5
    go_wp2_with fail
    refine (pQ (fun j=>K j∨(y.heap.size≤j∧j<E.heap.size)) X H3 p3 l2 i9.out).mono ?_
    rintro e nw ⟨rfl,rfl⟩
    rw [ce.out.v]
    go_wp2_with fail
    go_ret
    exact ⟨by simp,jp.out⟩
end Go.Proofs.YtkkfmkhbdoeglabGreatDoor
