/- A part of what is proved here: lemmas and contracts of single functions. No condition but those that each names. -/
import Derived.Test.YtkkfmkhbdoeglabGreatDoorG00
import Derived.Deep.CutBlock
import Derived.Deep.LoopGhost
import Derived.Test.YtkkfmkhbdoeglabGreatDoorG13
import Derived.Test.YtkkfmkhbdoeglabGreatDoorG14
import Derived.Test.YtkkfmkhbdoeglabGreatDoorG20
import Derived.Test.YtkkfmkhbdoeglabGreatDoorG31
import Derived.Test.YtkkfmkhbdoeglabGreatDoorG32
import Derived.Test.YtkkfmkhbdoeglabGreatDoorG34
import Derived.Test.YtkkfmkhbdoeglabGreatDoorG42
import Derived.Test.YtkkfmkhbdoeglabGreatDoorG43
set_option maxHeartbeats 8000000
set_option maxRecDepth 100000
namespace Go.Proofs.YtkkfmkhbdoeglabGreatDoor
open Go.RowKit Go.Shelf
def tj (rs:List (List Int)) (i:Nat):List Int:=((rs[i]?).getD []).take 6
def je (rs:List (List Int)) (i:Nat):List UInt8:=sealB 1 (jb (i+1) (fZ (tj rs i)))
def kN (rs:List (List Int)) (m:Nat):List (List UInt8):=(List.range m).map (je rs)
theorem vF (rs:List (List Int)) (m:Nat):kN rs (m+1)=kN rs m++[je rs m]:=by
 unfold kN
 rw [fy,bm]
 rfl
theorem kP (rs:List (List Int)) (m:Nat):(kN rs m).length=m:=by
 unfold kN
 rw [aG,fK]
theorem xy (rs:List (List Int)) {m i:Nat} (h:i<m):(kN rs m)[i]?=some (je rs i):=by
 unfold kN
 rw [bd,List.getElem?_range h]
 rfl
theorem ph (rs:List (List Int)) {i:Nat} (h:i<1000):(je rs i).length≤1000000:=by
 have b:isVersionB (i+1)=true:=iU (by omega) (by omega)
 have:=(lN (jr (tj rs i) (i+1) b)).2
 unfold je
 rw [pH]
 omega
theorem fW.I1 {w:World} {v:Value} {l:List (List UInt8)} (h:fW w v 1 l.length (strsV l)):∃ a cap,v = .slice a l.length cap∧l.length≤cap∧∀ (i:Nat) (s:List UInt8),l[i]?=some s→∃ b off,a=some ⟨b,off,none⟩∧w.cell? ⟨b,off+i,none⟩=some (.string ⟨s.toArray⟩):=by
 obtain ⟨hl,a,cap,rfl,hc,d⟩:=h
 refine ⟨a,cap,rfl,hc,fun i s hs => ?_⟩
 obtain ⟨j,rfl⟩:=aF.1 hs
 obtain ⟨b,off,rfl,c⟩:=d i (by rw [zF];exact j)
 refine ⟨b,off,rfl,c.trans ?_⟩
 simp [strsV]
theorem rW {ops:Array Oper} {rest:List Oper} {o:Oper} {a:Act} {Q:Exit→Act→World→Prop} {w b:World} (j:o.guard=none) (s x:Operand)
  (q:o.op = .call {callee := .builtin .append,args:=#[s,x],argTypes:=#[28,28]})
  (base:Nat) (v:Value) (n:Nat) (l:List (List UInt8)) (r:n=l.length) (u:a.eval s=v) (i:vw b base v l) (y:Below b.heap.size b w) (m:List UInt8) (hs:fW w (a.eval x) 1 1 (strsV [m]))
  (hlen:l.length+1≤8796093022208) (d:base≤b.heap.size)
  (h:∀ v' w',vw w' base v' (l++[m])→Below base b w'→wpList Tryz.prog ops Q rest (a.put o.dst v') w'):wpList Tryz.prog ops Q (o::rest) a w :=
 eK j fun _ hK=>xl s x q base v n l r u i y m hs hlen d fun v' w' h1 h2=>hK _ _ (h v' w' h1 h2)
def DF (w1:World) (rs:List (List Int)) (k:Nat) (b:Value) (wr:World):Prop:=vw wr w1.heap.size b (kN rs k)∧Below w1.heap.size w1 wr
def rZ (b c d:Nat) (j:Nat):Prop:=j<b∨(c≤j∧j<d)
def pb (w w2:World) (c X n k lo:Nat) (wr:World) (o:Nat):Prop:=∃ H p T,lR wr (rZ w.heap.size c w2.heap.size) X H (some p)∧ju n k lo (2*k) (480+1000*k) H p T∧p.a.out.length≤o∧jD (rZ w.heap.size c w2.heap.size) w2 wr
theorem ju.recv {n k lo:Nat} {H:fP} {p:PAg} {T:List E} (h:ju n k lo (2*k) (480+1000*k) H p T) (hk:k<1000) (rs:List (List Int)) (i:Nat) (m:i<1000) :
  ∃ H' d T' b,ij H p (je rs i)=(H',d)∧ju n b lo (2*b) (480+1000*b) H' d T'∧d.a.out.length≤p.a.out.length+1∧k≤b∧(i=k→b=k+1)∧(i≠k→b=k):=by
 by_cases e:i=k
 ·subst e
  obtain ⟨H',d,h1,h2,h3⟩:=h.next (by omega) (by omega) (tj rs i)
  exact ⟨H',d,_,i+1,h1,by rw [show 2*(i+1)=2*i+2 by omega,show 480+1000*(i+1)=480+1000*i+1000 by omega];exact h2,h3,by omega,fun _=>rfl,fun e=>absurd rfl e⟩
 ·obtain ⟨t,j,h1⟩:=h.other e (by omega) (by omega) (tj rs i)
  exact ⟨H,_,T,k,h1,h.put j,Df _ _ _,af _,fun l=>absurd l e,fun _=>rfl⟩
theorem yP (rs:List (List Int)) (W:List Int) (r:Int) (rv nv:Value) (w:World) (hr:oc w rv rs) (hn:kj w nv W) (b0:∀ l∈rs,∀ x∈l,-9223372036854775808≤x∧x≤9223372036854775807) (a9:∀ x∈W,-9223372036854775808≤x∧x≤9223372036854775807) (gn:rs.length≤9223372036854775807) (go:W.length≤9223372036854775807) (hs : -9223372036854775808≤r∧r≤9223372036854775807) (b1:ShapesVar w) (b2:ErrVar w) :
  Calls Tryz.prog 5 #[.int .i64 r,rv,nv] w fun e w'=>e = .returned (.bool true)∧Below w.heap.size w w':=by
 have d1:=iV r 81 (by omega)
 obtain ⟨n,b3⟩:∃ n:Nat,(n:Int)=48+ji r 81:=⟨(48+ji r 81).toNat,by omega⟩
 obtain ⟨H0,p0,s1,s2,s3⟩:=ju.new (n:=n) (by omega)
 have b4:=ab (sF r n w hs b3 b1 b2 H0 p0 s1 s2)
 have d:=ab s3
 obtain ⟨ra,f0,rfl,-,-⟩:=hr.opened
 obtain ⟨na,f1,rfl,-,-⟩:=hn.opened
 have HR:=ab hr
 have HN:=ab hn
 have d3:=ab b0
 have d4:=ab a9
 clear s1 s2 s3 hr hn b0 a9 b1 b2 d1 b3
 go_enter Tryz.func5,Tryz.ntmps5
 go_wp2_with fail
 refine b4.out.mono ?_
 rintro e w1 ⟨X,rfl,b5,b6⟩
 have bl:=ab b5
 have bn:=ab b6
 clear b5 b6 b4
 go_upto_block 0 with fail
 go_cut [9] from 27 to 60 (fun hp wx=>∃ m:Nat,m≤12∧DF w1 rs m hp wx)
 case first =>
  go_wp2_with fail
  go_loopw [9,10] (fun hp i wr=>∃ k:Nat,k≤rs.length∧k≤12∧i = .int .i64 (k:Int)∧DF w1 rs k hp wr) (fun _ i _=>rs.length-(intOf i).toNat)
  case atStart=>exact ⟨0,by omega,by omega,rfl,vw.nil _ _,Below.rf _⟩
  case round =>
   obtain ⟨k,hk,dl,rfl,hrel⟩:=hrel
   obtain ⟨I,am⟩:=hrel
   obtain ⟨ht,fc,rfl⟩:=I.own.shape
   rw [kP] at *
   have b7:=ab I
   have br:=ab am
   clear I am
   by_cases J:k<rs.length∧k<12
   ·obtain ⟨J,fr⟩:=J
    obtain ⟨l,hl⟩:∃ l,rs[k]?=some l:=⟨_,ay J⟩
    obtain ⟨gp,fv,d6,gq,b8⟩:=(HR.out.below (bn.out.tn br.out)).opened
    obtain ⟨g,off,u,d7,d8,bs⟩:=b8 k l hl
    cases d6
    subst d7
    obtain ⟨ua,uc,rfl,gs,-⟩:=bs.opened
    have ca:=ab bs
    have M:=ab (d3.out l (aV hl))
    have d9:Hid (tj rs k=l.take 6):=ab (by unfold tj;rw [hl];rfl)
    have g1:(k:Int)<rs.length:=by omega
    have g2:(k:Int)<12:=by omega
    have ea:=fU d8
    clear hl b8 bs
    have f5:(1000:Nat)≤gF:=by decide
    have gt:IntKind.u64.wrap ((k:Int)+1)=((k+1:Nat):Int):=by rw [show ((k:Int)+1)=((k+1:Nat):Int) by omega];exact IntWalk.u64_in _ (by omega)
    have gu:IntKind.u64.wrap (k:Int)=(k:Int):=IntWalk.u64_in _ (by omega)
    have dp:isVersionB (k+1)=true:=iU (by omega) (by omega)
    go_upto_if 43 with fail
    go_cut [11] from 27 to 60 (fun hp wx=>kj wr hp (l.take 6)∧wx=wr)
    case first =>
     by_cases h8:6<l.length
     ·have eb:(6:Int)<l.length:=by omega
      have gv:(6:Int)≤uc:=by omega
      go_wp2
      go_meet
      case rel=>exact ⟨ca.out.taken 6 (by omega),rfl⟩
     ·have eb:¬(6:Int)<l.length:=by omega
      have e:l.take 6=l:=aQ (by omega)
      go_wp2
      go_meet
      case rel=>exact ⟨by rw [e];exact ca.out,rfl⟩
    case rest =>
     obtain ⟨bt,rfl⟩:=hcut
     obtain ⟨N,Y⟩:∃ N,N=l.take 6:=⟨_,rfl⟩
     have gz:N.length≤6:=by rw [Y,az];omega
     have cb:∀ x∈N,-9223372036854775808≤x∧x≤9223372036854775807:=fun x U=>M.out x (cZ (by rw [←Y];exact U))
     rw [←Y] at bt
     have ec:=ab bt
     have ed:=ab cb
     have ce:Hid (sealB 1 (jb (k+1) (fZ N))=je rs k):=ab (by unfold je;rw [d9.out,Y])
     clear bt Y cb
     go_wp2_with fail
     refine (rm (k+1) u11 N wc ec.out (by omega) ed.out).mono ?_
     rintro e w5 ⟨⟨sv,rfl,O⟩,bv⟩
     obtain ⟨sa,sc,rfl⟩:=O.shape
     have ci:=ab (br.out.tn bv)
     have cl:=ab (bl.out.below ci.out)
     have ds:=ab (b7.out.below bv)
     have eg:=ab O
     clear O bv
     go_wp2_with fail
     refine (rn (k+1) _ (fZ N) w5 eg.out.ops cl.out.sh cl.out.er (jr N (k+1) dp) (by omega) (rh N).2).mono ?_
     rintro e w6 ⟨rfl,bw⟩
     rw [ce.out]
     have co:=ab (ci.out.tn bw)
     have dv:=ab (ds.out.below bw)
     have ej:w1.heap.size≤w6.heap.size:=co.out.size
     clear bw ce
     go_wp2_with (at_builtin;refine rW rfl (.tmp 57) (.tmp 59) rfl w1.heap.size (.slice ht k fc) k (kN rs k) (kP rs k).symm rfl (by exact dv.out) (by exact Below.al (Below.rf _) _) (je rs k) (Fh (by exact fR _ _)) (by rw [kP];omega) ej ?_;intro v8 w8 cp cq;have el:=ab cp;have em:=ab cq;clear cp cq)
     refine ⟨⟨k+1,by omega,by omega,by go_num,by rw [vF];exact el.out,co.out.trans em.out⟩,by simp [intOf];omega⟩
   ·have bx:¬(k:Int)<rs.length∨((k:Int)<rs.length∧¬(k:Int)<12):=by omega
    rcases bx with g1 | ⟨g1,g2⟩
    all_goals
     go_wp2_with fail
     go_meet
     exact ⟨k,dl,b7.out,br.out⟩
 case rest =>
  obtain ⟨m,hm,hrel⟩:=hcut
  obtain ⟨I,am⟩:=hrel
  obtain ⟨ht,fc,rfl⟩:=I.own.shape
  have O:=I.own.gh
  have bz:=I.own.gP
  have cr:=I.own.sliceAt
  have hlen:=kP rs m
  have bD:Hid (lR wc (rZ w.heap.size w1.heap.size wc.heap.size) X H0 (some {p0 with a := {p0.a with out:=[]}})):=ab (bl.out.tD am (fun j=>w1.heap.size≤j∧j<wc.heap.size) (fun j hj=>hj))
  rw [hlen] at O bz⊢
  have ba:Hid (∀ wr,jD (rZ w.heap.size w1.heap.size wc.heap.size) wc wr→∀ i,i<m→∃ b off,ht=some ⟨b,off,none⟩∧wr.cell? ⟨b,off+i,none⟩=some (.string ⟨(je rs i).toArray⟩)):=ab (fun wr hk i hi=>by
   have h1:=fW.frame (w':=wr) cr fun b e hb=>hk.block b hb fun hn=>hn (.inr ⟨I.own.gh b e,hb⟩)
   obtain ⟨a',c',e,-,U⟩:=fW.I1 h1
   cases e
   exact U i _ (xy rs hi))
  have bb:=ab (bn.out.tn am)
  obtain ⟨c2,cs⟩:∃ c2,c2=w1.heap.size:=⟨_,rfl⟩
  rw [←cs] at ba bD
  have bH:Hid (pb w wc c2 X n 0 0 wc 0):=ab ⟨H0,_,[],bD.out,d.out,by simp,Ext.refl _ _⟩
  clear I am O bz cr hlen cs d bD bl bn
  obtain ⟨w2,rfl⟩:∃ w2,w2=wc:=⟨_,rfl⟩
  go_upto_block 2 with fail
  go_cut [14] from 61 to 137 (fun v wx=>∃ k lo:Nat,k≤m∧v = .int .u64 (lo:Int)∧pb w w2 c2 X n k lo wx 6)
  case first =>
   go_wp2_with fail
   go_loopw [14,15] (fun v i wr=>∃ j k lo:Nat,j≤W.length∧j≤60∧k≤m∧i = .int .i64 (j:Int)∧v = .int .u64 (lo:Int)∧pb w w2 c2 X n k lo wr 6) (fun _ i _=>W.length-(intOf i).toNat)
   case atStart =>
    refine ⟨0,0,0,by omega,by omega,by omega,rfl,rfl,?_⟩
    obtain ⟨H,p,T,h1,h2,h3,h4⟩:=bH.out
    exact ⟨H,p,T,h1,h2,by omega,h4⟩
   case round =>
    obtain ⟨j,k,lo,hj,f8,E,rfl,rfl,hrel⟩:=hrel
    have f9:lo≤k:=by
     obtain ⟨H,p,T,-,h2,-⟩:=hrel
     exact h2.vk
    have M:=ab hrel
    have eC:Hid (Below w.heap.size w wr):=ab (by
     obtain ⟨H,p,T,-,-,-,h4⟩:=hrel
     exact bb.out.trans (h4.below bb.out.size fun j hj => .inl hj))
    clear hrel
    by_cases J:j<W.length∧j<60
    ·obtain ⟨J,fz⟩:=J
     obtain ⟨g0,fB,bc,-,ct⟩:=(HN.out.below eC.out).opened
     obtain ⟨nb,no,a9,eD⟩:=ct j J
     cases bc
     subst a9
     have cu:=d4.out W[j] (cD J)
     generalize W[j]=x at *
     obtain ⟨p1,p2⟩:=iV x 1073741824 (by omega)
     obtain ⟨c,hc⟩:=fE p1
     have gb:c<1073741824:=by omega
     have cv:=ab (kS x 1073741824 wr cu.1 cu.2 (by omega))
     rw [hc] at cv
     have g1:(j:Int)<W.length:=by omega
     have g2:(j:Int)<60:=by omega
     have ea:=fU eD
     clear ct p1 p2 hc J
     go_wp2_with fail
     refine cv.out.mono ?_
     rintro e wx ⟨rfl,rfl⟩
     go_upto_block 4 with fail
     go_cut [] from 61 to 137 (fun Q=>∃ C:Nat,k≤C∧C≤m∧pb w w2 c2 X n C lo Q 6)
     case first =>
      obtain ⟨H,p,T,U,s,ho,R⟩:=M.out
      have HX:=ab U
      have F:=ab R
      have d:=ab s
      clear U s ho R
      by_cases hA:m=0∨c%4=0
      ·have eV:(((m:Int)==0)=true)∨(((m:Int)==0)=false∧((c:Int)%4==0)=true):=by
        by_cases h0:m=0
        ·exact .inl (by rw [h0];rfl)
        ·exact .inr ⟨aA.2 (by omega),a8.2 (by omega)⟩
       clear hA
       rcases eV with e0 | ⟨e0,hv⟩
       all_goals
        go_wp2_with fail
        refine (yM (rZ w.heap.size c2 w2.heap.size) X H p wr HX.out d.out.fit).mono ?_
        rintro e Q ⟨rfl,y,B⟩
        have a0:=ab (⟨H,_,T,y,d.out.tick,d.out.tick.full,F.out.trans B⟩:pb w w2 c2 X n k lo Q 6)
        clear y B
        go_wp2_with fail
        go_meet
        exact ⟨k,af _,E,a0.out⟩
      ·have e0:((m:Int)==0)=false:=aA.2 (by omega)
       have hv:((c:Int)%4==0)=false:=aA.2 (by omega)
       have e1:0<m:=by omega
       have e2:(((c:Int)%4==1)=true∧∃ q,q<m∧(c:Int) / 4%(m:Int)=(q:Int))∨(((c:Int)%4==1)=false∧lo<m)∨(((c:Int)%4==1)=false∧¬lo<m):=by
        by_cases h1:c%4=1
        ·exact .inl ⟨a8.2 (by omega),c / 4%m,Nat.mod_lt _ e1,by rw [show (c:Int) / 4=((c / 4:Nat):Int) by omega,Int.natCast_emod]⟩
        ·have h2:((c:Int)%4==1)=false:=aA.2 (by omega)
         by_cases h3:lo<m
         ·exact .inr (.inl ⟨h2,h3⟩)
         ·exact .inr (.inr ⟨h2,h3⟩)
       clear hA
       rcases e2 with ⟨hu,q,hq,g3⟩ | ⟨hu,hq⟩ | ⟨hu,hq⟩
       ·obtain ⟨H',p',T',C,r1,r2,r3,r4,r5,r6⟩:=d.out.recv (by omega) rs q (by omega)
        have G:=ab (nD (rZ w.heap.size c2 w2.heap.size) X H p wr (je rs q) HX.out (d.out.ready (by omega) (by omega)) (ph rs (by omega)))
        rw [r1] at G
        have Z:=ab r2
        have D:C≤m:=by
         by_cases h:q=k
         ·rw [r5 h];omega
         ·rw [r6 h];exact E
        obtain ⟨fb,fo,rfl,c0⟩:=ba.out wr F.out q hq
        obtain ⟨sf,S⟩:∃ sf,sf=je rs q:=⟨_,rfl⟩
        rw [←S] at c0 G
        have be:(q:Int)<m:=by omega
        have cB:=fU c0
        clear r1 r2 r3 r5 r6 S
        go_wp2_with fail
        refine G.out.mono ?_
        rintro e Q ⟨rfl,y,B⟩
        have a0:=ab (⟨H',p',T',y,Z.out,Z.out.full,F.out.trans B⟩:pb w w2 c2 X n C lo Q 6)
        clear y B
        go_wp2_with fail
        go_meet
        exact ⟨C,r4,D,a0.out⟩
       ·obtain ⟨H',p',T',C,r1,r2,r3,r4,r5,r6⟩:=d.out.recv (by omega) rs lo (by omega)
        have G:=ab (nD (rZ w.heap.size c2 w2.heap.size) X H p wr (je rs lo) HX.out (d.out.ready (by omega) (by omega)) (ph rs (by omega)))
        rw [r1] at G
        have Z:=ab r2
        have D:C≤m:=by
         by_cases h:lo=k
         ·rw [r5 h];omega
         ·rw [r6 h];exact E
        obtain ⟨fb,fo,rfl,c0⟩:=ba.out wr F.out lo hq
        obtain ⟨sf,S⟩:∃ sf,sf=je rs lo:=⟨_,rfl⟩
        rw [←S] at c0 G
        have be:(lo:Int)<m:=by omega
        have cB:=fU c0
        clear r1 r2 r3 r5 r6 S
        go_wp2_with fail
        refine G.out.mono ?_
        rintro e Q ⟨rfl,y,B⟩
        have a0:=ab (⟨H',p',T',y,Z.out,Z.out.full,F.out.trans B⟩:pb w w2 c2 X n C lo Q 6)
        clear y B
        go_wp2_with fail
        go_meet
        exact ⟨C,r4,D,a0.out⟩
       ·have be:¬(lo:Int)<m:=by omega
        go_wp2_with fail
        go_meet
        exact ⟨k,af _,E,M.out⟩
     case rest =>
      obtain ⟨C,g4,D,hrel⟩:=hcut
      obtain ⟨H,p,T,U,s,ho,R⟩:=hrel
      have HX:=ab U
      have F:=ab R
      have d:=ab s
      have bI:=s.vk
      clear U s ho R M
      by_cases h3:c%3=0
      ·have e3:¬(0:Int)<(c:Int)%3:=by omega
       go_wp2_with fail
       refine ⟨⟨j+1,C,lo,by omega,by omega,D,by go_num,rfl,⟨H,p,T,HX.out,d.out,d.out.full,F.out⟩⟩,by simp [intOf];omega⟩
      ·have e3:(0:Int)<(c:Int)%3:=by omega
       go_wp2_with fail
       refine (np (rZ w.heap.size c2 w2.heap.size) X H p wc HX.out d.out.fit).mono ?_
       rintro e Q ⟨rfl,y,B⟩
       have aa:=ab y
       have ap:=ab (F.out.trans B)
       clear y B
       by_cases hz:p.a.out=[]
       ·obtain ⟨q1,-⟩:=d.out.told (by omega) (u:=lo) bI
        have bN:=ab q1
        rw [show p.a.out.length=0 by rw [hz];rfl]
        generalize p.a.out.foldl gZ 0=V
        clear q1 hz
        go_wp2_with fail
        refine ⟨⟨j+1,C,lo,by omega,by omega,D,by go_num,rfl,⟨H,_,T,aa.out,bN.out,by simp,ap.out⟩⟩,by simp [intOf];omega⟩
       ·obtain ⟨-,q2⟩:=d.out.told (by omega) (u:=lo) bI
        obtain ⟨q3,q4⟩:=q2 hz
        obtain ⟨V,hV⟩:∃ V,V=p.a.out.foldl gZ 0:=⟨_,rfl⟩
        rw [←hV] at q3 q4⊢
        obtain ⟨q1,-⟩:=d.out.told (by omega) (u:=V) q4
        have bN:=ab q1
        have g5:0<p.a.out.length:=List.length_pos_iff.2 hz
        generalize p.a.out.length=ln at *
        have gl:(0:Int)<ln:=by omega
        have q5:¬(V:Int)<lo:=by omega
        have q6:¬(m:Int)<V:=by omega
        have g6:IntKind.u64.wrap (m:Int)=(m:Int):=IntWalk.u64_in _ (by omega)
        clear q1 q2 hz hV
        go_wp2_with fail
        refine ⟨⟨j+1,C,V,by omega,by omega,D,by go_num,rfl,⟨H,_,T,aa.out,bN.out,by simp,ap.out⟩⟩,by simp [intOf];omega⟩
    ·have bx:¬(j:Int)<W.length∨((j:Int)<W.length∧¬(j:Int)<60):=by omega
     rcases bx with g1 | ⟨g1,g2⟩
     all_goals
      go_wp2_with fail
      go_meet
      exact ⟨k,lo,E,rfl,M.out⟩
  case rest =>
   obtain ⟨k,lo,E,rfl,hrel⟩:=hcut
   have M:=ab hrel
   clear hrel bH
   go_upto_region 33 with fail
   go_loopw [14,19] (fun v i wr=>∃ j k lo o:Nat,j≤m+1∧k≤m∧i = .int .i64 (j:Int)∧v = .int .u64 (lo:Int)∧(1≤j→(j≤k∨k=m)∧o≤1)∧pb w w2 c2 X n k lo wr o) (fun _ i _=>m+1-(intOf i).toNat)
   case atStart=>exact ⟨0,k,lo,6,by omega,E,rfl,rfl,fun h=>by omega,M.out⟩
   case round =>
    clear M E
    obtain ⟨j,k,lo,o,hj,E,rfl,rfl,a3,hrel⟩:=hrel
    obtain ⟨H,p,T,U,s,ho,R⟩:=hrel
    have HX:=ab U
    have F:=ab R
    have d:=ab s
    clear U R
    by_cases J:j≤m
    ·have g1:(j:Int)≤m:=by omega
     have aE:=s.tick
     have bc:p.a.tick.out≠[]:=by rw [s.BD];exact Gy _ _ _
     obtain ⟨V,hV⟩:∃ V,V=p.a.tick.out.foldl gZ 0:=⟨_,rfl⟩
     have e6:V≤k:=by rw [hV];exact ((aE.told (by omega) (u:=lo) s.vk).2 bc).2
     have c1:1≤j→V=k:=fun h=>by rw [hV];exact s.Fo (by have:=(a3 h).2;omega) (by omega)
     have bO:=ab (aE.told (by omega) (u:=V) e6).1
     have e7:=ab aE.fit
     have HV:=ab hV
     clear s aE bc hV
     go_wp2_with fail
     refine (yM (rZ w.heap.size c2 w2.heap.size) X H p wr HX.out d.out.fit).mono ?_
     rintro e wx ⟨rfl,y,B⟩
     have aa:=ab y
     have ap:=ab (F.out.trans B)
     clear y B
     go_wp2_with fail
     refine (np (rZ w.heap.size c2 w2.heap.size) X H {p with a:=p.a.tick} wx aa.out e7.out).mono ?_
     rintro e Q ⟨rfl,c3,c4⟩
     rw [show ({p with a:=p.a.tick} : PAg).a.out.foldl gZ 0=V from HV.out.symm]
     have c5:=ab c3
     have bP:=ab (ap.out.trans c4)
     clear c3 c4
     generalize ({p with a:=p.a.tick} : PAg).a.out.length=ln
     by_cases e8:V<m
     ·obtain ⟨H',p',T',C,r1,r2,r3,r4,r5,r6⟩:=bO.out.recv (by omega) rs V (by omega)
      have G:=ab (nD (rZ w.heap.size c2 w2.heap.size) X H {p with a := {p.a.tick with out:=[]}} Q (je rs V) c5.out (bO.out.ready (by omega) (by omega)) (ph rs (by omega)))
      have c6:ij H {p with a := {p.a.tick with out:=[]}} (je rs V)=(H',p'):=r1
      rw [c6] at G
      have Z:=ab r2
      have D:C≤m:=by
       by_cases h:V=k
       ·rw [r5 h];omega
       ·rw [r6 h];exact E
      have e9:j+1≤C∨C=m:=by
       by_cases h1:1≤j
       ·rw [r5 (c1 h1)]
        rcases (a3 h1).1 with h | h <;> omega
       ·by_cases h:V=k
        ·rw [r5 h];omega
        ·omega
      have fa:p'.a.out.length≤1:=r3
      obtain ⟨fb,fo,rfl,c0⟩:=ba.out Q bP.out V e8
      obtain ⟨sf,S⟩:∃ sf,sf=je rs V:=⟨_,rfl⟩
      rw [←S] at c0 G
      have be:(V:Int)<m:=by omega
      have cB:=fU c0
      clear r1 c6 r2 r3 r5 r6 S a3 c1
      go_wp2_with fail
      refine G.out.mono ?_
      rintro e wz ⟨rfl,c7,c8⟩
      have fg:=ab (⟨H',p',T',c7,Z.out,fa,bP.out.trans c8⟩:pb w w2 c2 X n C V wz 1)
      clear c7 c8
      go_wp2_with fail
      refine ⟨⟨j+1,C,V,1,by omega,D,by go_num,rfl,fun _=>⟨e9,by omega⟩,fg.out⟩,by simp [intOf];omega⟩
     ·have be:¬(V:Int)<m:=by omega
      have a7:k=m:=by omega
      go_wp2_with fail
      refine ⟨⟨j+1,k,V,1,by omega,E,by go_num,rfl,fun _=>⟨.inr a7,by omega⟩,⟨H,_,T,c5.out,bO.out,by simp,bP.out⟩⟩,by simp [intOf];omega⟩
    ·have g1:¬(j:Int)≤m:=by omega
     have a7:k=m:=by
      rcases (a3 (by omega)).1 with h | h <;> omega
     subst a7
     have HV:=ab s.v
     have fi:Hid (su {p with a := {p.a with out:=[]}} = (0,0,0)):=ab (by unfold su;rw [show ({p with a := {p.a with out:=[]}} : PAg).a.deg=none from s.deg])
     have fk:Hid (({p with a := {p.a with out:=[]}} : PAg).a.deg=none):=ab s.deg
     clear s a3
     go_wp2_with fail
     refine (np (rZ w.heap.size c2 w2.heap.size) X H p wr HX.out d.out.fit).mono ?_
     rintro e wx ⟨rfl,y,B⟩
     have aa:=ab y
     have ap:=ab (F.out.trans B)
     have fl:=ab (bb.out.trans (jD.below ap.out bb.out.size fun j hj => .inl hj))
     clear y B
     have g7:IntKind.u64.wrap (k:Int)=(k:Int):=IntWalk.u64_in _ (by omega)
     have hq:((k:Int)==(k:Int))=true:=ei _
     generalize p.a.out.length=ln
     generalize p.a.out.foldl gZ 0=fd
     go_wp2_with fail
     refine (pQ (rZ w.heap.size c2 w2.heap.size) X H _ wx aa.out).mono ?_
     rintro e Q ⟨rfl,rfl⟩
     rw [show ({p with a := {p.a with out:=[]}} : PAg).a.V=k from HV.out]
     go_wp2_with fail
     refine (xR (rZ w.heap.size c2 w2.heap.size) X H _ Q aa.out fun f hf=>by rw [fk.out] at hf;cases hf).mono ?_
     rintro e wz ⟨rfl,c9⟩
     rw [fi.out]
     have fp:=ab (fl.out.tn c9)
     clear c9
     unfold nZ
     go_wp2_with fail
     go_ret
     exact ⟨rfl,fp.out⟩
end Go.Proofs.YtkkfmkhbdoeglabGreatDoor
namespace Go.Proofs.YtkkfmkhbdoeglabGreatDoor
open Go.RowKit
theorem kj.sub {w:World} {a:Option Addr} {n cap:Nat} {l:List Int} (h:kj w (.slice a n cap) l) (k:Nat) (hk:k+8≤l.length):∃ b off,a=some ⟨b,off,none⟩∧n=l.length∧l.length≤cap∧kj w (.slice (some ⟨b,off+k,none⟩) 8 (cap-k)) ((l.drop k).take 8):=by
 obtain ⟨q,cap',he,hc,j⟩:=h.opened
 cases he
 obtain ⟨b,off,rfl,-⟩:=j k (by omega)
 have d:((l.drop k).take 8).length=8:=by rw [az,bg];omega
 refine ⟨b,off,rfl,rfl,hc,by rw [aG,d],some ⟨b,off+k,none⟩,cap-k,by rw [d],by rw [d];omega,fun i m=>⟨b,off+k,rfl,?_⟩⟩
 rw [aG,d] at m
 obtain ⟨r,o,e,c⟩:=j (k+i) (by omega)
 cases e
 rw [aW,c]
 simp [List.getElem_take,List.getElem_drop]
theorem vS (l:List Int):lF (fZ l):=by
 have h:=jr l 1 (by decide)
 obtain ⟨-,q⟩:=o9 h
 intro o hm
 obtain ⟨hk,r,h3,d,b⟩:=q o hm
 have i:=js d
 have m:o.table=0∨o.table=1∨o.table=2:=by omega
 have s:o.key.length≤6:=by rcases m with e | e | e <;> (rw [e] at i;unfold fS at i;simp at i;omega)
 have u:o.val.length≤4:=by
  unfold o5 at b
  split at b
  ·have:o.val=[]:=by simpa using b
   rw [this];simp
  ·have j:=iT r h3 b
   rcases m with e | e | e <;> (rw [e] at j;unfold gw at j;simp at j;omega)
 unfold gF
 omega
end Go.Proofs.YtkkfmkhbdoeglabGreatDoor
namespace Go.Proofs.YtkkfmkhbdoeglabGreatDoor
structure pZ (n s B:Nat) (H:fP) (p:PAg) (T:List E) (c:Option (Nat×Nat×List (List UInt8))):Prop where
 st:∃ ever,MachSt n [] s B H (some p) p.a [(1,T)] ever false
 v:p.a.V=1
 t:p.a.T=T
 deg:p.a.deg=none
 com:p.a.com=c
 t60:In60 T
 n48:48≤n∧n≤128
 dead:H.dp.dead=false
theorem sS (a:AgA) (k:UInt8) (b:List UInt8):(a.put k b).com=a.com:=by
 unfold AgA.put
 split <;> rfl
theorem sH {S:List E} (h:∀ x∈S,EntGood x):S.length=countS 0 S+countS 1 S+countS 2 S:=by
 induction S with
 | nil=>rfl
 | cons x S ih =>
  have h1:=ih fun y b=>h y (by simp [b])
  obtain ⟨g0,g2,-,-⟩:=h x (by simp)
  unfold countS at h1⊢
  rw [dg,dg,dg,ar,h1]
  have h4:x.1.1=0∨x.1.1=1∨x.1.1=2:=by omega
  rcases h4 with h4 | h4 | h4 <;> simp [h4] <;> omega
theorem In60.len {S:List E} (h:In60 S):S.length≤60:=by
 have c0:=h.count 0
 have c1:=h.count 1
 have c2:=h.count 2
 rw [lr.1] at c0
 rw [lr.2.1] at c1
 rw [lr.2.2] at c2
 have:=sH h.good
 omega
theorem In60.gX {T:List E} (h:In60 T) (v:Nat):(gX v T).length≤530:=by
 have c0:=h.count 0
 have c1:=h.count 1
 have c2:=h.count 2
 rw [lr.1] at c0
 rw [lr.2.1] at c1
 rw [lr.2.2] at c2
 have hs:=rU h.good
 rw [mn]
 omega
theorem pZ.se {n s B:Nat} {H:fP} {p:PAg} {T:List E} {c:Option (Nat×Nat×List (List UInt8))} (h:pZ n s B H p T c) {frame:List UInt8} {a1:AgA} (d:p.a.taken frame=(a1,none)):ij H p frame=(H,{p with a:=a1})∧pZ n s B H {p with a:=a1} T a1.com:=by
 obtain ⟨ever,b⟩:=h.st
 obtain ⟨h1,h2,h3⟩:=pK d
 have i:=(b.fit p rfl).taken frame
 rw [d] at i
 refine ⟨?_,⟨ever,b.own h1 h2 h3 rfl i⟩,h1.trans h.v,h2.trans h.t,h3.trans h.deg,rfl,h.t60,h.n48,h.dead⟩
 unfold ij
 rw [d]
theorem pZ.ready {n s B:Nat} {H:fP} {p:PAg} {T:List E} {c:Option (Nat×Nat×List (List UInt8))} (h:pZ n s B H p T c) (d:B≤800000000) (hs:s<8999999999999999999):tW n [] B H p:=by
 obtain ⟨ever,b⟩:=h.st
 obtain ⟨-,g2,-,g5,-⟩:=b.inv.up p rfl h.dead
 exact ⟨b.fine,d,b.fit p rfl,fun e=>(g5 e).1,by omega⟩
def Cb (k:Nat):List UInt8:=sealB 3 (be8 9++[UInt8.ofNat k])
theorem pZ.nM {n s B k:Nat} {H:fP} {p:PAg} {T:List E} {c:Option (Nat×Nat×List (List UInt8))} (h:pZ n s B H p T c) (h1:1≤k) (h2:k≤16):∃ b,ij H p (Cb k)=(H,b)∧pZ n s B H b T (some (9,k,[])):=by
 have hk:(UInt8.ofNat k).toNat=k:=by rw [dQ];omega
 have d:be8 9=[0,0,0,0,0,0,0,9]:=by decide
 have i:iP [0,0,0,0,0,0,0,9]=9:=by decide
 have j:p.a.taken (Cb k)=(AgA.jM {p.a with com:=some (9,k,[])},none):=by
  unfold AgA.taken Cb
  rw [h.deg,mi,d]
  show (p.a.nM ([0,0,0,0,0,0,0,9]++[UInt8.ofNat k]),none)=_
  unfold AgA.nM
  rw [au (by simp),au (by simp)]
  rw [show List.take 8 ([0,0,0,0,0,0,0,9]++[UInt8.ofNat k])=[0,0,0,0,0,0,0,9] from rfl,i,show List.getD ([0,0,0,0,0,0,0,9]++[UInt8.ofNat k]) 8 0=UInt8.ofNat k from rfl,hk,au (by decide),au (by omega),au (by rw [h.v];omega)]
 have:=h.se j
 rw [show (AgA.jM {p.a with com:=some (9,k,[])}).com=some (9,k,[]) from sS _ _ _] at this
 exact ⟨_,this⟩
def pE (all:List UInt8) (m i:Nat):List UInt8:=(all.drop (i*m)).take m
def mf (all:List UInt8) (m i:Nat):List UInt8:=sealB 4 (UInt8.ofNat i::pE all m i)
def j5 (all:List UInt8) (m i:Nat):List (List UInt8):=(List.range i).map (pE all m)
theorem pF (all:List UInt8) (m i:Nat):j5 all m (i+1)=j5 all m i++[pE all m i]:=by
 unfold j5
 rw [fy,bm]
 rfl
theorem nX (all:List UInt8) (m i:Nat):(j5 all m i).length=i:=by
 unfold j5
 rw [aG,fK]
theorem sP (all:List UInt8) (m:Nat):∀ i,(j5 all m i).flatten=all.take (i*m)
 | 0=>by simp [j5]
 | i+1=>by
  rw [pF,List.flatten_append,sP all m i,Nat.succ_mul,List.take_add]
  simp [pE]
theorem Db (all:List UInt8) (m i:Nat):(pE all m i).length=min m (all.length-i*m):=by
 unfold pE
 rw [az,bg]
theorem oD {a:AgA} {all:List UInt8} {m i:Nat} (hd:a.deg=none) (hm:m≤64) (b:0<m) (d:i*m<all.length):a.taken (mf all m i)=(match a.com with
 | none=>(a.iW,none)
 | some (tv,of,got) =>
  if (UInt8.ofNat i).toNat≠got.length then (a.jM,none)
  else if got.length+1<of then (AgA.jM {a with com:=some (tv,of,got++[pE all m i])},none)
  else AgA.lU {a with com:=none} tv (got++[pE all m i]).flatten):=by
 unfold AgA.taken mf
 rw [au (by rw [hd];decide),mi]
 show a.piece (UInt8.ofNat i::pE all m i)=_
 have hl:=Db all m i
 unfold AgA.piece
 rw [au (by rw [ar];omega),au (by rw [ar];omega)]
 cases a.com <;> rfl
theorem pZ.piece {n s B k m i:Nat} {H:fP} {p:PAg} {T:List E} {all:List UInt8} (h:pZ n s B H p T (some (9,k,j5 all m i))) (hm:m≤64) (b:0<m) (j:i*m<all.length) (hk:i+1<k) (o:k≤16):∃ d,ij H p (mf all m i)=(H,d)∧pZ n s B H d T (some (9,k,j5 all m (i+1))):=by
 have hl:=nX all m i
 have l:p.a.taken (mf all m i)=(AgA.jM {p.a with com:=some (9,k,j5 all m (i+1))},none):=by
  rw [oD h.deg hm b j,h.com]
  simp only
  rw [hl,au (by rw [dQ];omega),aD hk,pF]
 have:=h.se l
 rw [show (AgA.jM {p.a with com:=some (9,k,j5 all m (i+1))}).com=_ from sS _ _ _] at this
 exact ⟨_,this⟩
theorem pZ.again {n s B k m i j:Nat} {H:fP} {p:PAg} {T:List E} {all:List UInt8} (h:pZ n s B H p T (some (9,k,j5 all m j))) (hm:m≤64) (b:0<m) (l:i*m<all.length) (r:i≠j) (q:i<256):∃ d,ij H p (mf all m i)=(H,d)∧pZ n s B H d T (some (9,k,j5 all m j)):=by
 have hl:=nX all m j
 have o:p.a.taken (mf all m i)=(p.a.jM,none):=by
  rw [oD h.deg hm b l,h.com]
  simp only
  rw [hl,aD (by rw [dQ];omega)]
 have:=h.se o
 rw [show (p.a.jM).com=_ from (sS _ _ _).trans h.com] at this
 exact ⟨_,this⟩
def sd (n s B:Nat) (H:fP) (p:PAg) (T U:List E):Prop :=
 (H.dp.dead=true∧∃ ever a,MachSt n [] s B H (some p) a [(1,T),(9,U)] ever false)∨
 (H.dp.dead=false∧p.a.V=9∧p.a.T=U∧p.a.deg=none∧p.a.com=none∧∃ ever,MachSt n [] s B H (some p) p.a [(9,U)] ever false)
theorem pZ.last {n s B k m i:Nat} {H:fP} {p:PAg} {T U:List E} (h:pZ n s B H p T (some (9,k,j5 (gX 9 U) m i))) (hm:m≤64) (G:0<m) (O:i*m<(gX 9 U).length) (hk:i+1=k) (aa:k≤16) (u:(gX 9 U).length≤k*m) (b:In60 U) (hs:s+2<18446744073709551616):∃ H' l,ij H p (mf (gX 9 U) m i)=(H',l)∧sd n (s+2) (B+1000) H' l T U:=by
 obtain ⟨ever,r⟩:=h.st
 have hl:=nX (gX 9 U) m i
 have y:iG (gX 9 U) = .inl (9,U):=ug (iU (by omega) (by omega)) b.sorted b.good (by
  have h1:=b.gX 9
  rw [mn] at h1
  have h2:=rU b.good
  have c0:=b.count 0
  have c1:=b.count 1
  have c2:=b.count 2
  rw [lr.1] at c0
  rw [lr.2.1] at c1
  rw [lr.2.2] at c2
  have:=sH b.good
  omega)
 have Q:p.a.taken (mf (gX 9 U) m i)=({p.a with com:=none},some (.state 9 U)):=by
  rw [oD h.deg hm G O,h.com]
  simp only
  rw [hl,au (by rw [dQ];omega),au (by omega),←pF,sP,aQ (by rw [hk];exact u)]
  unfold AgA.lU
  rw [y]
  simp only
  rw [au (by omega),au (by rw [h.v];omega)]
 have C:iw ((im.state 9 U).T p.a.T) (roomN []) n=none:=b.Gb h.n48.1
 have hn:=h.n48
 obtain ⟨H',l,I,k2,D,J⟩:=r.inv.takes (by omega) hs h.dead Q C (ever':=ever++U) fun x j=>by
  rcases j with j | j
  ·exact dR _ j
  ·exact List.mem_append_right _ j
 have o:AgA.takes {p.a with com:=none} (.state 9 U) (roomN []) n=AgA.lQ {p.a with com:=none,V:=9,T:=U} := by
  unfold AgA.takes
  have q:∀ A,iw ((im.state 9 U).T A) (roomN []) n=none:=fun _=>b.Gb h.n48.1
  rw [q]
  rfl
 obtain ⟨R,S,W⟩:=jc {p.a with com:=none,V:=9,T:=U} 17 (be8 9)
 have X:=sS {p.a with com:=none,V:=9,T:=U} 17 (be8 9)
 have M:(AgA.takes {p.a with com:=none} (.state 9 U) (roomN []) n).V=9:=by rw [o];exact S
 have N:(AgA.takes {p.a with com:=none} (.state 9 U) (roomN []) n).T=U:=by rw [o];exact W
 have Y:(AgA.takes {p.a with com:=none} (.state 9 U) (roomN []) n).deg=none:=by rw [o];exact R.trans h.deg
 have Z:(AgA.takes {p.a with com:=none} (.state 9 U) (roomN []) n).com=none:=by rw [o];exact X
 rw [M,N] at D J
 rw [show ({p.a with com:=none} : AgA).V=1 from h.v,show ({p.a with com:=none} : AgA).T=T from h.t] at D
 have d := @MachSt.recv n [] s B H p p.a [(1,T)] ever false r h.dead (mf (gX 9 U) m i)
 rw [I] at d
 simp only at d
 refine ⟨H',l,I,?_⟩
 cases hd:H'.dp.dead with
 | true=>exact .inl ⟨hd,_,_,d rfl (D hd).1⟩
 | false =>
  rcases J hd with ⟨r1,-,-,F⟩ | ⟨-,-,F,-⟩
  ·have hm:=d rfl F
   rw [←r1] at hm
   exact .inr ⟨hd,by rw [r1,M],by rw [r1,N],by rw [r1,Y],by rw [r1,Z],_,hm⟩
  ·cases F
theorem sd.again {n s B m i:Nat} {H:fP} {p:PAg} {T U:List E} {all:List UInt8} (h:sd n s B H p T U) (hd:H.dp.dead=false) (hm:m≤64) (j:0<m) (q:i*m<all.length):∃ l,ij H p (mf all m i)=(H,l)∧sd n s B H l T U:=by
 rcases h with ⟨h1,-⟩ | ⟨h1,h2,h3,h4,h5,ever,b⟩
 ·rw [hd] at h1
  cases h1
 ·have d:p.a.taken (mf all m i)=(p.a.iW,none):=by
   rw [oD h4 hm j q,h5]
  obtain ⟨t1,t2,t3⟩:=pK d
  have o:=(b.fit p rfl).taken (mf all m i)
  rw [d] at o
  refine ⟨{p with a:=p.a.iW},?_,.inr ⟨h1,t1.trans h2,t2.trans h3,t3.trans h4,(sS _ _ _).trans h5,ever,b.own t1 t2 t3 rfl o⟩⟩
  unfold ij
  rw [d]
theorem sd.ready {n s B:Nat} {H:fP} {p:PAg} {T U:List E} (h:sd n s B H p T U) (hd:H.dp.dead=false) (d:B≤800000000) (hs:s<8999999999999999999):tW n [] B H p:=by
 rcases h with ⟨h1,-⟩ | ⟨h1,h2,h3,h4,h5,ever,b⟩
 ·rw [hd] at h1
  cases h1
 ·obtain ⟨-,g2,-,g5,-⟩:=b.inv.up p rfl hd
  exact ⟨b.fine,d,b.fit p rfl,fun e=>(g5 e).1,by omega⟩
def Ed (n k m i:Nat) (H:fP) (p:PAg) (T U:List E):Prop:=(i<k∧pZ n 2 1480 H p T (some (9,k,j5 (gX 9 U) m i)))∨(i=k∧sd n 4 2480 H p T U)
theorem Ed.ready {n k m i:Nat} {H:fP} {p:PAg} {T U:List E} (h:Ed n k m i H p T U) (hd:H.dp.dead=false):tW n [] 2480 H p:=by
 rcases h with ⟨-,h⟩ | ⟨-,h⟩
 ·obtain ⟨r1,r2,b,d,j⟩:=h.ready (by omega) (by omega)
  exact ⟨r1.mono (by omega),by omega,b,d,j⟩
 ·exact h.ready hd (by omega) (by omega)
theorem Ed.step {n k m i:Nat} {H:fP} {p:PAg} {T U:List E} (h:Ed n k m i H p T U) (s:i<k) (hm:m≤64) (j:0<m) (o:k≤16) (q:(gX 9 U).length≤k*m) (l:i*m<(gX 9 U).length) (r:In60 U) :
  H.dp.dead=false∧∃ H' d,ij H p (mf (gX 9 U) m i)=(H',d)∧Ed n k m (i+1) H' d T U∧(H'.dp.dead=false→∃ b,ij H' d (mf (gX 9 U) m i)=(H',b)∧Ed n k m (i+1) H' b T U):=by
 rcases h with ⟨-,h⟩ | ⟨h,-⟩
 ·refine ⟨h.dead,?_⟩
  by_cases hk:i+1<k
  ·obtain ⟨d,h1,h2⟩:=h.piece hm j l hk o
   obtain ⟨b,h3,h4⟩:=h2.again hm j l (by omega) (by omega)
   exact ⟨H,d,h1,.inl ⟨hk,h2⟩,fun _=>⟨b,h3,.inl ⟨hk,h4⟩⟩⟩
  ·obtain ⟨H',d,h1,h2⟩:=h.last hm j l (by omega) o q r (by omega)
   refine ⟨H',d,h1,.inr ⟨by omega,h2⟩,fun hd => ?_⟩
   obtain ⟨b,h3,h4⟩:=h2.again hd hm j l
   exact ⟨b,h3,.inr ⟨by omega,h4⟩⟩
 ·omega
theorem sd.pG {n s B:Nat} {H:fP} {p:PAg} {T U:List E} (h:sd n s B H p T U) (F:48≤n∧n≤128) (G:In60 T) (x:In60 U) (mask:Int) :
  ∃ H' b,ie (H.again mask (-1) (-1))=(H',.inl b)∧H'.dp.S=b.a.T∧b.a.deg=none∧Fine n [] B H∧mG n [] (H.again mask (-1) (-1)).seen∧((b.a.V=9∧b.a.T=U)∨(H.dp.dead=true∧b.a.V=1∧b.a.T=T)):=by
 have key:∀ (a:AgA) (r:List (Nat×List E)) (ever:List E),MachSt n [] s B H (some p) a r ever false→(∀ m∈r,In60 m.2)→∃ H' b,ie (H.again mask (-1) (-1))=(H',.inl b)∧H'.dp.S=b.a.T∧b.a.deg=none∧Fine n [] B H∧mG n [] (H.again mask (-1) (-1)).seen∧(b.a.V,b.a.T)∈r:=fun a r ever d y=>by
  obtain ⟨H',b,v,V,j,l,i,-,o,q⟩:=jv.pG d F y mask (-1) (by omega)
  have C:=q (by omega)
  obtain ⟨-,-,I,-,J⟩:=o C.2
  obtain ⟨M,D,-⟩:=jJ v V
  refine ⟨H',b,j,by rw [J,i,D],I,d.fine,d.inv.opens mask (-1) (-1),?_⟩
  rw [i,M,D]
  exact l
 rcases h with ⟨h1,ever,a,d⟩ | ⟨h1,h2,h3,h4,h5,ever,d⟩
 ·obtain ⟨H',b,j,l,i,u,o,q⟩:=key a _ ever d (fun m hm=>by
   rcases aP.1 hm with rfl | hm
   ·exact G
   ·rw [ax.1 hm];exact x)
  refine ⟨H',b,j,l,i,u,o,?_⟩
  rcases aP.1 q with e | e
  ·exact .inr ⟨h1,aZ Prod.fst e,aZ Prod.snd e⟩
  ·have e:=ax.1 e
   exact .inl ⟨aZ Prod.fst e,aZ Prod.snd e⟩
 ·obtain ⟨H',b,j,l,i,u,o,q⟩:=key _ _ ever d (fun m hm=>by rw [ax.1 hm];exact x)
  have e:=ax.1 q
  exact ⟨H',b,j,l,i,u,o,.inl ⟨aZ Prod.fst e,aZ Prod.snd e⟩⟩
theorem jv.whole {n s B:Nat} {H:fP} {p:PAg} {T:List E} (h:jv n 1 s B H p T false) (cut:Int) (hc:cut≤9223372036854775807):pZ n s B {H with dp := {H.dp with left:=max cut (-1)}} p T p.a.com:=by
 obtain ⟨ever,b⟩:=h.st
 have h1:=b.fine.ok.writes
 have h3:=b.fine.dp.log
 have h4:=b.fine.ok.fail
 exact ⟨⟨ever,b.mT H.writes (max cut (-1)) H.fail H.dp.log false (fun e=>b.inv.arm e) h1 ⟨by omega,by omega⟩ h4 h3⟩,h.v,h.t,h.deg,rfl,h.t60,h.n48,h.dead⟩
end Go.Proofs.YtkkfmkhbdoeglabGreatDoor
namespace Go.Proofs.YtkkfmkhbdoeglabGreatDoor
open Go.RowKit
theorem jS.ext {D:Nat→Prop} {w w':World} {fb q r:Nat} {S:List E} (h:jS w fb q r S) (b:Ext D w w') (d:¬D fb) (hq:¬D q) (i:¬D r):jS w' fb q r S :=
 ⟨b.cell d h.cell,b.cell hq h.ent.cell,h.ent.tab.gr (b.block r h.ent.tab.lt i)⟩
end Go.Proofs.YtkkfmkhbdoeglabGreatDoor
