/- A part of what is proved here: lemmas and contracts of single functions. No condition but those that each names. -/
import Derived.Test.YtkkfmkhbdoeglaaGreatDoorG00
import Derived.Carry
import Derived.ChangeSame
import Derived.Deep.DeepHandedRow
import Derived.Deep.Fields
import Derived.Deep.Slices
import Derived.LaidHandle
import Derived.LaidLaws
import Derived.Lib.LaidTab
import Derived.OpenShut
import Derived.ProofKit
import Derived.Test.YtkkfmkhbdoeglaaGreatDoorCards
import Derived.Test.YtkkfmkhbdoeglaaGreatDoorTie
import Derived.WalkKit
import Derived.WideKeyArgs
import Derived.Test.YtkkfmkhbdoeglaaGreatDoorG02
import Derived.Test.YtkkfmkhbdoeglaaGreatDoorG08
import Derived.Test.YtkkfmkhbdoeglaaGreatDoorG13
import Derived.Test.YtkkfmkhbdoeglaaGreatDoorG29
import Derived.Test.YtkkfmkhbdoeglaaGreatDoorG36
import Derived.Test.YtkkfmkhbdoeglaaGreatDoorG38
set_option maxHeartbeats 4000000
set_option maxRecDepth 100000
namespace Go.Proofs.YtkkfmkhbdoeglaaGreatDoor
structure In60 (S:List E):Prop where
 sorted:SortedE S
 keys:∀ x∈S,∃ n,n<60∧x.1=keyN n
 good:∀ x∈S,EntGood x
theorem In60.nil:In60 []:=⟨SortedE.nil,fun _ h=>(by cases h),fun _ h=>(by cases h)⟩
theorem Dj (c d:Int):∃ n,n<60∧((sJ c d).table,(sJ c d).key)=keyN n:=by
 have h:=iP c 60 (by omega)
 refine ⟨(ji c 60).toNat,by omega,?_⟩
 unfold sJ
 simp only
 split
 ·rfl
 ·split <;> rfl
theorem pW:∀ (m:Nat) (l:List Int) (os:List OpB),l.length≤m→(∀ o∈os,∃ n,n<60∧(o.table,o.key)=keyN n)→∀ o∈ig l os,∃ n,n<60∧(o.table,o.key)=keyN n
 | _,[],_,_,h=>h
 | _,[_],_,_,h=>h
 | 0,a::b::r,os,hm,h=>by simp at hm
 | m+1,a::b::r,os,hm,h=>by
  unfold ig
  split
  ·refine pW m r _ (by simp at hm;omega) fun o d => ?_
   split at d
   ·exact h o d
   ·rcases bU.1 d with d | d
    ·exact h o d
    ·rw [az.1 d]
     exact Dj a b
  ·exact h
theorem zV (l:List Int):∀ o∈gy l,∃ n,n<60∧(o.table,o.key)=keyN n :=
 pW l.length l _ (ah _) fun o b=>by
  rw [az.1 b]
  exact Dj _ _
theorem In60.fold {S:List E} (h:In60 S) (l:List Int):In60 (foldS S (gy l)):=by
 refine ⟨nW _ h.sorted,fun x b => ?_,((⟨ah _,h.sorted,h.good⟩:jy S.length S).fold (kq l 1 (by decide))).good⟩
 rcases sX (gy l) S x b with b | ⟨o,d,-,e⟩
 ·exact h.keys x b
 ·obtain ⟨n,i,j⟩:=zV l o d
  exact ⟨n,i,(bB Prod.fst e).trans j⟩
def C9:List E:=(List.range 60).map fun n=>(keyN n,[])
theorem kZ:countS 0 C9=20∧countS 1 C9=20∧countS 2 C9=20:=by decide +kernel
theorem In60.count {S:List E} (h:In60 S) (t:Int):countS t S≤countS t C9:=qF h.sorted (fun x b=>by
 obtain ⟨n,d,e⟩:=h.keys x b
 exact aB.2 ⟨(keyN n,[]),aB.2 ⟨n,cV.2 d,rfl⟩,e.symm⟩) t
theorem rL {S:List E} (h:∀ x∈S,EntGood x):sizeS S=11*countS 0 S+10*countS 1 S+5*countS 2 S:=by
 induction S with
 | nil=>rfl
 | cons x S ih =>
  have h1:=ih fun y b=>h y (by simp [b])
  obtain ⟨g0,g2,g3,g4⟩:=h x (by simp)
  have d:=jg g3
  have i:=iO g0 g2 g4
  unfold sizeS countS at h1⊢
  rw [dg,dg,dg,bq,List.sum_cons,h1,d,i]
  have h4:x.1.1=0∨x.1.1=1∨x.1.1=2:=by omega
  rcases h4 with h4 | h4 | h4 <;> simp [h4,fN,fZ] <;> omega
theorem In60.Ft {S:List E} (h:In60 S) {n:Nat} (b:48≤n):iq S (roomN []) n=none:=by
 have c0:=h.count 0
 have c1:=h.count 1
 have c2:=h.count 2
 rw [kZ.1] at c0
 rw [kZ.2.1] at c1
 rw [kZ.2.2] at c2
 have hs:=rL h.good
 unfold iq overS
 have r0:roomN [] 0=40:=rfl
 have r1:roomN [] 1=40:=rfl
 have r2:roomN [] 2=40:=rfl
 rw [r0,r1,r2,aw (by omega),aw (by omega),aw (by omega)]
 simp only
 rw [aw (by omega)]
theorem AZ {a:AgA} {os:List OpB} (hd:a.deg=none) (hw:gB (a.V+1) os=none):a.taken (sealB 1 (jo (a.V+1) os))=(a,some (.delta (a.V+1) os)):=by
 unfold AgA.taken
 rw [hd,ni]
 simp only [Option.isSome_none,ek,df,dL]
 unfold AgA.delta
 rw [oB,GA _ _ hw]
 simp only
 rw [aw (by omega),aw (by omega)]
theorem Cj {n s:Nat} {H:fJ} {p:PAg} {a:AgA} {maybe:List (Nat×List E)} {ever:List E} {armed:Bool} (h:WInv n [] s H (some p) a maybe ever armed) (u:48≤n∧n≤128) (hs:s+2<18446744073709551616) (hd:H.dp.dead=false) (l:a.deg=none) (o:In60 a.T) (y:isVersionB (a.V+1)=true) (raw:List Int) :
  ∃ H' d ever' b,iy H p (sealB 1 (jo (a.V+1) (gy raw)))=(H',d)∧b=AgA.lJ {a with V:=a.V+1,T:=foldS a.T (gy raw)}∧In60 (foldS a.T (gy raw))∧
   (H'.dp.dead=true→WInv n [] (s+2) H' (some d) a [(a.V,a.T),(a.V+1,foldS a.T (gy raw))] ever' armed)∧
   (H'.dp.dead=false→(d.a=b∧d.sec=0∧WInv n [] (s+2) H' (some d) b [(a.V+1,foldS a.T (gy raw))] ever' armed)∨
    (d.a=a.stops (12,0)∧1≤d.sec∧armed=true∧WInv n [] (s+2) H' (some d) (a.stops (12,0)) [(a.V,a.T),(a.V+1,foldS a.T (gy raw))] ever' armed)):=by
 have hw:=kq raw (a.V+1) y
 have j:=o.fold raw
 have hl:iq ((ie.delta (a.V+1) (gy raw)).T a.T) (roomN []) n=none:=j.Ft u.1
 obtain ⟨H',d,B,N,q,r⟩:=h.takes (by omega) hs hd (AZ l hw) hl (ever':=ever++foldS a.T (gy raw)) fun x i=>by
  rcases i with i | i
  ·exact dQ _ i
  ·exact List.mem_append_right _ i
 have m:a.takes (.delta (a.V+1) (gy raw)) (roomN []) n=AgA.lJ {a with V:=a.V+1,T:=foldS a.T (gy raw)} := by
  unfold AgA.takes
  rw [hl]
  rfl
 obtain ⟨-,C,D⟩:=jD {a with V:=a.V+1,T:=foldS a.T (gy raw)} 17 (j4 (a.V+1))
 have F:(a.takes (.delta (a.V+1) (gy raw)) (roomN []) n).V=a.V+1:=by rw [m];exact C
 have G:(a.takes (.delta (a.V+1) (gy raw)) (roomN []) n).T=foldS a.T (gy raw):=by rw [m];exact D
 rw [F,G] at q r
 refine ⟨H',d,_,_,B,m,j,fun hdd=>(q hdd).1,fun hdd => ?_⟩
 rcases r hdd with ⟨r1,r2,-,I⟩ | ⟨r1,r2,J,-,M⟩
 ·exact .inl ⟨r1,r2,I⟩
 ·exact .inr ⟨r1,r2,J,M⟩
end Go.Proofs.YtkkfmkhbdoeglaaGreatDoor
namespace Go.Proofs.YtkkfmkhbdoeglaaGreatDoor
open Go.RowKit Go.Shelf
theorem Fj {v:Nat} {os:List OpB} (h:gB v os=none):1≤os.length∧os.length≤8∧jP os:=by
 have b:1≤os.length∧os.length≤8∧fV 0 [] os=none:=by
  unfold gB at h
  split at h
  ·cases h
  ·split at h
   ·cases h
   ·rename_i h1 h2;exact ⟨by omega,by omega,h⟩
 refine ⟨b.1,b.2.1,fun o i => ?_⟩
 obtain ⟨k,hk,rfl⟩:=cH i
 obtain ⟨j,d⟩:=ja os 0 [] b.2.2 k hk
 have:=pd d
 exact ⟨by unfold gx;omega,by unfold gx;omega⟩
theorem E9 {v:Nat} {os:List OpB} (h:gB v os=none):0<(jo v os).length:=by
 have:=(mx h).1
 omega
theorem wX (v:Nat) (F:Value) (os:List OpB) (w:World) (hs:iu w F os) (u:ShapesVar w) (x:ErrVar w) (hw:gB v os=none) (_hv:v<18446744073709551616) (U:os.length≤8) :
  Calls Tryz.prog 10 #[.agg #[.int .u64 (v:Nat),F]] w fun e w'=>e = .returned (.tuple #[.string ⟨(sealB 1 (jo v os)).toArray⟩,.bool true])∧Below w.heap.size w w':=by
 have D:jP os:=(Fj hw).2.2
 have y:=hs
 obtain ⟨-,E,i,rfl,-⟩:=hs
 have d:Below w.heap.size w (w.alloc (.cells #[.int .u64 (v:Nat),.slice E os.length i] 34)):=(Below.rf w).alloc (ah _) _
 have D0:=fL w (.cells #[.int .u64 (v:Nat),.slice E os.length i] 34)
 have G:=ae (uo v (.slice E os.length i) os _ (fR.below y d) (u.new d) (x.new d) D (by omega))
 have Q:=ae hw
 have l:=E9 hw
 have R:(1000000:Nat)≤gx:=by decide
 have hlen:=(mx hw).2
 have I:=ae d
 have d0:=af _ _ 0 _ _ _ D0
 have d1:=af _ _ 1 _ _ _ D0
 clear y u x hw d D0
 go_enter Tryz.func10,Tryz.ntmps10
 go_wp2_with fail
 refine G.out.mono ?_
 rintro e w1 ⟨rfl,B⟩
 rw [Q.out]
 have J:=ae (I.out.tn B)
 have C:Below w1.heap.size w1 (w1.alloc (.cells #[.int .i64 0,.int .i64 0,.int .i64 0] 38)):=(Below.rf w1).alloc (ah _) _
 have r:=fL w1 (.cells #[.int .i64 0,.int .i64 0,.int .i64 0] 38)
 have M:=ae (J.out.tn C)
 clear B C d0 d1
 obtain ⟨s,m⟩:∃ s,s=jo v os:=⟨_,rfl⟩
 have N:=ae m
 rw [←m] at l hlen⊢
 have S:(s==[])=false:=by cases s with | nil=>simp at l | cons a b=>rfl
 clear m
 unfold ku
 go_upto_region 2 with fail
 generalize w1.alloc (.cells #[.int .i64 0,.int .i64 0,.int .i64 0] 38)=w2 at *
 have f0:=af _ _ 0 _ _ _ r
 have f1:=af _ _ 1 _ _ _ r
 have f2:=af _ _ 2 _ _ _ r
 have o:=fI r
 go_region_held3 (fun w'=>w'.cell? ⟨w1.heap.size,0,none⟩=some (.int .i64 0)∧w'.cell? ⟨w1.heap.size,1,none⟩=some (.int .i64 0)∧w'.cell? ⟨w1.heap.size,2,none⟩=some (.int .i64 0))
  (first | exact ⟨f0,f1,f2⟩ | exact ⟨(j.out.cell (p:=⟨w1.heap.size,0,none⟩) o).trans f0,(j.out.cell (p:=⟨w1.heap.size,1,none⟩) o).trans f1,(j.out.cell (p:=⟨w1.heap.size,2,none⟩) o).trans f2⟩)
  (first | (go_at_call 27;refine (mu 1 s _ (by omega)).mono ?_;rintro e w3 ⟨rfl,q⟩;have j:Hid (Below w2.heap.size w2 w3):=ae (by first | exact q | exact (Below.rf w2).drew.tn q);clear q))
 all_goals
  have O:=ae (M.out.tn j.out)
  rw [N.out,show byteOf 1=1 by decide]
  go_wp2
  go_ret2
  exact ⟨rfl,O.out⟩
def jB (v:Nat) (s:List UInt8):Nat:=match gX s with
 | .inl (k,b)=>if (k=16∨k=17)∧b.length=8 then iL b else v
 | .inr _=>v
theorem AgA.Fit.drop {a:AgA} (h:a.Fit) (k:Nat):AgA.Fit {a with out:=a.out.drop k} := ⟨h.v,by show (a.out.drop k).length≤6;rw [a8];have:=h.out;omega,fun s hs=>h.olen s (List.mem_of_mem_drop hs),h.com⟩
theorem D9 {a:AgA} {k:Nat} {s:List UInt8} (h:a.out[k]?=some s):AgA.next {a with out:=a.out.drop k} = ({a with out:=a.out.drop (k+1)},some s):=by
 obtain ⟨hk,rfl⟩:=aG.1 h
 unfold AgA.next
 simp only
 rw [cd hk]
theorem Fx {a:AgA} : AgA.next {a with out:=a.out.drop a.out.length} = ({a with out:=[]},none):=by
 unfold AgA.next
 simp
theorem xm {v:Nat} {s:List UInt8} {k:UInt8} {b:List UInt8} (h:gX s = .inl (k,b)):jB v s=if (k=16∨k=17)∧b.length=8 then iL b else v:=by unfold jB;rw [h]
theorem zg {v:Nat} {s:List UInt8} {f:Nat×Nat} (h:gX s = .inr f):jB v s=v:=by unfold jB;rw [h]
def C8 (K:Nat→Prop) (X:Nat) (H:fJ) (p:PAg) (w:World) (k:Nat) (wr:World):Prop:=mJ wr K X H (some {p with a := {p.a with out:=p.a.out.drop k}})∧lL K w wr
theorem yP (K:Nat→Prop) (X:Nat) (H:fJ) (p:PAg) (w:World) (h:mJ w K X H (some p)) (hf:p.a.Fit) :
  Calls Tryz.prog 14 #[.pointer (some ⟨X,0,none⟩)] w fun e w'=>e = .returned (.tuple #[.int .u64 ((p.a.out.foldl jB 0:Nat):Int),.int .i64 (p.a.out.length:Nat)])∧mJ w' K X H (some {p with a := {p.a with out:=[]}})∧lL K w w':=by
 have h0:=ae (⟨by rw [cA];exact h,Ext.refl _ w⟩:C8 K X H p w 0 w)
 have HF:=ae hf
 have ba:=hf.out
 clear h hf
 go_enter Tryz.func14,Tryz.ntmps14
 go_wp2
 go_loopw [4,5] (fun n v wr=>∃ k:Nat,k≤p.a.out.length∧n = .int .i64 (k:Int)∧v = .int .u64 (((p.a.out.take k).foldl jB 0:Nat):Int)∧C8 K X H p w k wr) (fun n _ _=>p.a.out.length-(intOf n).toNat)
 case atStart=>exact ⟨0,aL _,rfl,rfl,h0.out⟩
 case round =>
  obtain ⟨k,hk,rfl,rfl,hrel⟩:=hrel
  obtain ⟨M,hb⟩:=hrel
  have HX:=ae M
  have HB:=ae hb
  clear M hb h0
  by_cases E:k<p.a.out.length
  ·obtain ⟨s,hs⟩:∃ s,p.a.out[k]?=some s:=⟨_,ay E⟩
   have aa:=D9 hs
   have bb:s.length≤13:=HF.out.olen s (aZ hs)
   have bc:(1000000:Nat)≤gx:=by decide
   have q:=ae aa
   have bi:=ae hs
   obtain ⟨V,Y⟩:∃ V,V=(p.a.out.take k).foldl jB 0:=⟨_,rfl⟩
   have HV:=ae Y
   have r:Hid ((p.a.out.take (k+1)).foldl jB 0=jB V s):=ae (by
    obtain ⟨a3,he⟩:=aG.1 hs
    rw [aO a3,di,he,Y]
    rfl)
   rw [←Y]
   have a6:¬(20:Int)<(k:Int):=by omega
   clear aa hs Y
   go_wp2_with fail
   refine (tB K X H _ wr HX.out (HF.out.drop k)).mono ?_
   rintro e w1 ⟨rfl,o,B⟩
   rw [show AgA.next {p.a with out:=p.a.out.drop k} = _ from q.out] at o
   rw [show Ax (AgA.next {p.a with out:=p.a.out.drop k}).2 = .tuple #[.string ⟨s.toArray⟩,.bool true] by rw [q.out];rfl]
   have N:=ae o
   have O:=ae (HB.out.trans B)
   have a4:=ae (ur s w1 o.er (by omega))
   clear o B
   go_wp2_with fail
   refine a4.out.mono ?_
   rintro e w2 ⟨rfl,Q⟩
   have C:=ae (N.out.below Q)
   have D:=ae (O.out.trans (Ext.fM Q))
   clear Q
   have bk:IntKind.i64.wrap ((k:Int)+1)=(k:Int)+1:=by rw [show ((k:Int)+1)=((k+1:Nat):Int) by omega];exact IntWalk.i64_in _ (by omega)
   unfold uC ku
   cases F:gX s with
   | inr f =>
    obtain ⟨f1,f2⟩:=f
    have l:Hid (jB V s=V):=ae (zg F)
    clear F
    simp only
    go_wp2_with fail
    have j:Below w2.heap.size w2 (w2.alloc (.cells #[.int .i64 ((f1:Nat)),.int .i64 ((f2:Nat)),.int .i64 0] 38)):=(Below.rf w2).alloc (ah _) _
    refine ⟨⟨k+1,by omega,by congr 1,by rw [r.out,l.out],C.out.below j,D.out.trans (Ext.fM j)⟩,?_⟩
    rw [show intOf (Value.int IntKind.i64 ((k:Int)+1))=(k:Int)+1 from rfl,show intOf (Value.int IntKind.i64 (k:Int))=(k:Int) from rfl]
    omega
   | inl y =>
    obtain ⟨d,b⟩:=y
    have l:=ae (xm (v:=V) F)
    clear F
    simp only
    have kf:∀ m:Nat,m<256→(((d.toNat:Int))==(m:Int))=decide (d=UInt8.ofNat m):=fun m hm=>by
     have h2:(UInt8.ofNat m).toNat=m:=by rw [dz];omega
     by_cases h:d=UInt8.ofNat m
     ·rw [bZ h,h,h2]
      exact eZ _
     ·rw [bm h]
      refine aD.2 fun e=>h ?_
      rw [←eu,h2]
      omega
    have G:((d.toNat:Int)==16)=decide (d=16):=kf 16 (by omega)
    have I:((d.toNat:Int)==17)=decide (d=17):=kf 17 (by omega)
    have Z:((b.length:Int)==8)=decide (b.length=8):=by
     by_cases h:b.length=8
     ·rw [bZ h,h];rfl
     ·rw [bm h];exact aD.2 fun e=>h (by omega)
    clear kf
    by_cases hc:(d=16∨d=17)∧b.length=8
    ·have J:Hid (jB V s=iL b):=ae (by rw [l.out,aF hc])
     obtain ⟨ab,R⟩:=hc
     rw [bZ R] at Z
     have S:(decide (d=16)=true)∨(decide (d=16)=false∧decide (d=17)=true):=by
      by_cases h:d=16
      ·exact .inl (bZ h)
      ·exact .inr ⟨bm h,bZ (ab.resolve_left h)⟩
     have ag:=ae R
     rcases S with h1 | ⟨h1,h2⟩
     all_goals
      rw [h1] at G
      try rw [h2] at I
      clear ab R h1
      try clear h2
      clear l
      generalize (d.toNat:Int)=kn at *
      generalize U:b.length=bl at *
      go_wp2_with fail
      go_loopw [5,11] (fun v i wx=>∃ m:Nat,m≤8∧i = .int .i64 (m:Int)∧v = .int .u64 ((iL (b.take m):Nat):Int)∧wx=w2.alloc (.cells #[.int .i64 0,.int .i64 0,.int .i64 0] 38)) (fun _ i _=>8-(intOf i).toNat)
      case atStart=>exact ⟨0,by omega,rfl,rfl,rfl⟩
      case round =>
       obtain ⟨m,hm,rfl,rfl,rfl⟩:=hrel
       by_cases a5:m<8
       ·have a9:(m:Int)<8:=by omega
        have W:=ag.out
        have E:=qL m b (by omega)
        have hle:iL (b.take m)<256^7:=aC E (eR (by decide) (by omega))
        have H:=ae (qM b m (by omega))
        obtain ⟨x,M⟩:∃ x,b[m]'(by omega)=x:=⟨_,rfl⟩
        have i0:∀ w,(Instr.index 9 (.string ⟨b.toArray⟩) (.int .i64 (m:Int))).run Tryz.prog w = .ok (.int .u8 x.toNat) w:=fun w=>iF Tryz.underlying9 _ _ _ x (by omega) (by rw [dU,ay (by omega),M]) w
        rw [M] at H
        have bn:=x.toNat_lt
        clear M E W
        obtain ⟨u,hu⟩:∃ u,u=iL (b.take m):=⟨_,rfl⟩
        rw [←hu] at hle H⊢
        clear hu
        have hv:u<72057594037927936:=hle
        clear hle
        go_wp2_with fail
        refine ⟨⟨m+1,by omega,by go_num,?_,by first | exact cM | rfl⟩,?_⟩
        ·rw [H.out];congr 1;omega
        ·simp [intOf];omega
       ·obtain rfl:m=8:=by omega
        have W:=ag.out
        rw [aS (by omega)]
        have l:Hid (jB V s=iL b):=J
        clear hm a5 W
        obtain ⟨u,hu⟩:∃ u,u=iL b:=⟨_,rfl⟩
        rw [←hu] at l⊢
        clear hu J
        go_wp2_with fail
        have j:Below w2.heap.size w2 (w2.alloc (.cells #[.int .i64 0,.int .i64 0,.int .i64 0] 38)):=(Below.rf w2).alloc (ah _) _
        refine ⟨⟨k+1,by omega,by congr 1,by rw [r.out,l.out],C.out.below j,D.out.trans (Ext.fM j)⟩,?_⟩
        rw [show intOf (Value.int IntKind.i64 ((k:Int)+1))=(k:Int)+1 from rfl,show intOf (Value.int IntKind.i64 (k:Int))=(k:Int) from rfl]
        omega
    ·have J:Hid (jB V s=V):=ae (by rw [l.out,aw hc])
     clear l
     have l:=J
     have S:(decide (d=16)=true∧decide (b.length=8)=false)∨(decide (d=16)=false∧decide (d=17)=true∧decide (b.length=8)=false)∨(decide (d=16)=false∧decide (d=17)=false):=by
      by_cases h:d=16
      ·exact .inl ⟨bZ h,bm fun h8=>hc ⟨.inl h,h8⟩⟩
      ·by_cases h':d=17
       ·exact .inr (.inl ⟨bm h,bZ h',bm fun h8=>hc ⟨.inr h',h8⟩⟩)
       ·exact .inr (.inr ⟨bm h,bm h'⟩)
     rcases S with ⟨h1,h3⟩ | ⟨h1,h2,h3⟩ | ⟨h1,h2⟩
     ·rw [h1] at G
      rw [h3] at Z
      clear h1 h3 hc I
      generalize (d.toNat:Int)=kn at *
      generalize U:b.length=bl at *
      go_wp2_with fail
      have j:Below w2.heap.size w2 (w2.alloc (.cells #[.int .i64 (0),.int .i64 (0),.int .i64 0] 38)):=(Below.rf w2).alloc (ah _) _
      refine ⟨⟨k+1,by omega,by congr 1,by rw [r.out,l.out],C.out.below j,D.out.trans (Ext.fM j)⟩,?_⟩
      rw [show intOf (Value.int IntKind.i64 ((k:Int)+1))=(k:Int)+1 from rfl,show intOf (Value.int IntKind.i64 (k:Int))=(k:Int) from rfl]
      omega
     ·rw [h1] at G
      rw [h2] at I
      rw [h3] at Z
      clear h1 h2 h3 hc
      generalize (d.toNat:Int)=kn at *
      generalize U:b.length=bl at *
      go_wp2_with fail
      have j:Below w2.heap.size w2 (w2.alloc (.cells #[.int .i64 (0),.int .i64 (0),.int .i64 0] 38)):=(Below.rf w2).alloc (ah _) _
      refine ⟨⟨k+1,by omega,by congr 1,by rw [r.out,l.out],C.out.below j,D.out.trans (Ext.fM j)⟩,?_⟩
      rw [show intOf (Value.int IntKind.i64 ((k:Int)+1))=(k:Int)+1 from rfl,show intOf (Value.int IntKind.i64 (k:Int))=(k:Int) from rfl]
      omega
     ·rw [h1] at G
      rw [h2] at I
      clear h1 h2 hc Z
      generalize (d.toNat:Int)=kn at *
      generalize U:b.length=bl at *
      go_wp2_with fail
      have j:Below w2.heap.size w2 (w2.alloc (.cells #[.int .i64 (0),.int .i64 (0),.int .i64 0] 38)):=(Below.rf w2).alloc (ah _) _
      refine ⟨⟨k+1,by omega,by congr 1,by rw [r.out,l.out],C.out.below j,D.out.trans (Ext.fM j)⟩,?_⟩
      rw [show intOf (Value.int IntKind.i64 ((k:Int)+1))=(k:Int)+1 from rfl,show intOf (Value.int IntKind.i64 (k:Int))=(k:Int) from rfl]
      omega
  ·obtain rfl:k=p.a.out.length:=by omega
   have q:=ae (Fx (a:=p.a))
   rw [be]
   go_wp2_with fail
   refine (tB K X H _ wr HX.out (HF.out.drop _)).mono ?_
   rintro e w1 ⟨rfl,o,B⟩
   rw [show AgA.next {p.a with out:=p.a.out.drop p.a.out.length} = _ from q.out] at o
   rw [show Ax (AgA.next {p.a with out:=p.a.out.drop p.a.out.length}).2 = .tuple #[.string ⟨#[]⟩,.bool false] by rw [q.out];rfl]
   have N:=ae o
   have O:=ae (HB.out.trans B)
   clear o B
   go_wp2
   go_ret2
   exact ⟨rfl,N.out,O.out⟩
theorem yO (b:Int) (n:Nat) (w:World) (hs : -9223372036854775808≤b∧b≤9223372036854775807) (I:(n:Int)=48+ji b 81) (d:ShapesVar w) (i:ErrVar w) (H':fJ) (p:PAg) (r:ia (nb n (roomN []))=(H',.inl p)) (J:p.a=begunA 0 []) :
  Calls Tryz.prog 7 #[.int .i64 b] w fun e w'=>∃ X,e = .returned (.tuple #[.pointer (some ⟨X,0,none⟩),.bool true])∧mJ w' (fun k=>k<w.heap.size) X H' (some {p with a := {p.a with out:=[]}})∧Below w.heap.size w w':=by
 have ak:=iP b 81 (by omega)
 have al:48≤n∧n≤128:=by omega
 have N:=ae (Ff (48+ji b 81) [] (.slice none 0 0) w (fR.nil _ _ _ _) n (by omega) d i H' p r)
 have am:IntKind.i64.wrap (48+ji b 81)=48+ji b 81:=by rw [←I];exact IntWalk.i64_in _ (by omega)
 have O:=ae d
 have Q:=ae i
 have R:=ae J
 have S:=kL b 81 w hs.1 hs.2 (by omega)
 clear d i r J I
 generalize ji b 81=pk at *
 go_enter Tryz.func7,Tryz.ntmps7
 go_wp2_with fail
 refine S.mono ?_
 rintro e w0 ⟨rfl,rfl⟩
 go_wp2_with fail
 refine N.out.mono ?_
 rintro e w1 ⟨X,M,rfl,s,u,j⟩
 have x:=mJ.new s u j O.out Q.out
 have U:=ae x
 have V:=ae j
 clear s u j x
 have G:p.a.Fit:=by rw [R.out];exact AgA.Fit.begun 0 [] (by omega)
 have y:p.a.next=({p.a with out:=[]},some (sealB 16 (j4 0))):=by
  rw [R.out]
  rfl
 have B:=ae y
 have C:j4 0=[0,0,0,0,0,0,0,0]:=by decide
 have W:=ae C
 clear y C
 unfold pZ
 go_wp2_with fail
 have m:Below w1.heap.size w1 (w1.alloc (.cells #[.int .i64 0,.int .i64 0,.int .i64 0] 38)):=(Below.rf w1).alloc (ah _) _
 have F2:=fL w1 (.cells #[.int .i64 0,.int .i64 0,.int .i64 0] 38)
 have D:=ae (U.out.below m)
 have E:=ae (V.out.tn m)
 clear m F2
 generalize w1.alloc (.cells #[.int .i64 0,.int .i64 0,.int .i64 0] 38)=w2 at *
 refine (Hc (fun k=>k<w.heap.size) X H' (some p) w2 D.out).mono ?_
 rintro e w3 ⟨rfl,rfl⟩
 go_wp2_with fail
 refine (tB (fun k=>k<w.heap.size) X H' p w3 D.out G).mono ?_
 rintro e w4 ⟨rfl,o,F⟩
 rw [show p.a.next.1 = {p.a with out:=[]} by rw [B.out]] at o
 rw [show Ax p.a.next.2 = .tuple #[.string ⟨(sealB 16 (j4 0)).toArray⟩,.bool true] by rw [B.out];rfl]
 have Y:=ae o
 have Z:=ae (E.out.trans (F.below E.out.size fun k hk=>hk))
 clear o F
 have hq:∀ l:List UInt8,(l==l)=true:=fun l=>eZ l
 go_wp2_with fail
 refine (mu 16 [0,0,0,0,0,0,0,0] _ (by decide)).mono ?_
 rintro e w5 ⟨rfl,q⟩
 rw [←W.out,show byteOf 16=16 by decide]
 have aa:=ae (Y.out.below q)
 have ab:=ae (Z.out.tn q)
 clear q
 generalize sealB 16 (j4 0)=sl
 go_wp2
 go_ret2
 exact ⟨X,by simp,aa.out,ab.out⟩
end Go.Proofs.YtkkfmkhbdoeglaaGreatDoor
namespace Go.Proofs.YtkkfmkhbdoeglaaGreatDoor
structure j7 (n k s B:Nat) (H:fJ) (p:PAg) (T:List E) (armed:Bool):Prop where
 st:∃ ever,MachSt n [] s B H (some p) p.a [(k,T)] ever armed
 v:p.a.V=k
 t:p.a.T=T
 out:p.a.out=[]
 deg:p.a.deg=none
 t60:In60 T
 n48:48≤n∧n≤128
 dead:H.dp.dead=false
theorem AgA.EW {a:AgA} (h:a.out=[]):a.lJ.out=[sealB 17 (j4 a.V)]:=by
 unfold AgA.lJ AgA.put
 rw [h]
 rfl
theorem AgA.EB {a:AgA} (h:a.out=[]) (f:Nat×Nat):(a.stops f).out=[sealB 18 [UInt8.ofNat f.1]]:=by
 unfold AgA.stops AgA.gW AgA.put
 simp only [h]
 rfl
theorem pE {k:Nat} (h:0<k) (h2:k<18446744073709551615):isVersionB k=true:=by
 unfold isVersionB
 simp
 omega
theorem j7.recv {n k s B:Nat} {H:fJ} {p:PAg} {T:List E} {armed:Bool} (h:j7 n k s B H p T armed) (hs:s+2<18446744073709551616) (hk:k<1000000) (raw:List Int) :
  ∃ H' d,iy H p (sealB 1 (jo (k+1) (gy raw)))=(H',d)∧In60 (foldS T (gy raw))∧
  ((H'.dp.dead=true∧∃ ever,MachSt n [] (s+2) (B+1000) H' (some d) p.a [(k,T),(k+1,foldS T (gy raw))] ever armed)∨
   (H'.dp.dead=false∧d.a.deg=none∧d.a.Fit∧d.a.out=[sealB 17 (j4 (k+1))]∧j7 n (k+1) (s+2) (B+1000) H' {d with a := {d.a with out:=[]}} (foldS T (gy raw)) armed)∨
   (H'.dp.dead=false∧d.a=p.a.stops (12,0)∧1≤d.sec∧armed=true∧∃ ever,MachSt n [] (s+2) (B+1000) H' (some d) d.a [(k,T),(k+1,foldS T (gy raw))] ever armed)):=by
 obtain ⟨ever,l⟩:=h.st
 have D:isVersionB (p.a.V+1)=true:=pE (by omega) (by rw [h.v];omega)
 obtain ⟨H',d,ever',b,m,j,o,x,y⟩:=Cj l.inv h.n48 hs h.dead h.deg (by rw [h.t];exact h.t60) D raw
 rw [h.v,h.t] at j x y
 rw [h.v] at m
 rw [h.t] at o
 have i := @MachSt.recv n [] s B H p p.a [(k,T)] ever armed l h.dead (sealB 1 (jo (k+1) (gy raw)))
 rw [m] at i
 simp only at i
 refine ⟨H',d,m,o,?_⟩
 cases hd:H'.dp.dead with
 | true=>exact .inl ⟨rfl,ever',i rfl (x hd)⟩
 | false =>
  rcases y hd with ⟨r1,r2,q⟩ | ⟨r1,r2,q,F⟩
  ·refine .inr (.inl ⟨rfl,?_⟩)
   have hm:=i rfl q
   rw [←r1] at hm
   have r:=jD {p.a with V:=k+1,T:=foldS T (gy raw)} 17 (j4 (k+1))
   have C:d.a.deg=none:=by rw [r1,j];exact r.1.trans h.deg
   have G:d.a.V=k+1:=by rw [r1,j];exact r.2.1
   have I:d.a.T=foldS T (gy raw):=by rw [r1,j];exact r.2.2
   have J:d.a.out=[sealB 17 (j4 (k+1))]:=by rw [r1,j];exact AgA.EW (a := {p.a with V:=k+1,T:=foldS T (gy raw)}) h.out
   have u:=hm.fit d rfl
   refine ⟨C,u,J,⟨ever',?_⟩,G,I,rfl,C,o,h.n48,hd⟩
   exact hm.own (a1 := {d.a with out:=[]}) rfl rfl rfl rfl ⟨u.v,by simp,by simp,u.com⟩
  ·refine .inr (.inr ⟨rfl,r1,r2,q,ever',?_⟩)
   rw [r1]
   exact i rfl F
theorem j7.new {n:Nat} (d:48≤n∧n≤128):∃ H' p,ia (nb n (roomN []))=(H',.inl p)∧p.a=begunA 0 []∧H'.dp.left = -1∧H'.dp.log=[]∧j7 n 0 0 480 H' {p with a := {p.a with out:=[]}} [] false:=by
 obtain ⟨H',p,h1,h2,h3,h4,h5,h6⟩:=MachSt.begun n [] (by omega)
 obtain ⟨i,j,l⟩:=jK 0 []
 rw [←h2] at h6
 have b:=h6.fit p rfl
 refine ⟨H',p,h1,h2,h4,h5,⟨[],h6.own (a1 := {p.a with out:=[]}) rfl rfl rfl rfl ⟨b.v,by simp,by simp,b.com⟩⟩,by show p.a.V=0;rw [h2,i],by show p.a.T=[];rw [h2,j],rfl,by show p.a.deg=none;rw [h2,l],In60.nil,d,h3⟩
theorem zf (v k:Nat) (hk:k<18446744073709551616) (t:UInt8) (d:t=16∨t=17):(match gX (sealB t (j4 k)) with
 | .inl (k,b)=>if (k=16∨k=17)∧b.length=8 then iL b else v
 | .inr _=>v)=k:=by
 rw [ni]
 simp only
 rw [aF ⟨d,fY k⟩,sw k hk]
theorem j7.ready {n k s B:Nat} {H:fJ} {p:PAg} {T:List E} {armed:Bool} (h:j7 n k s B H p T armed) (d:B≤800000000) (hs:s<8999999999999999999):uT n [] B H p:=by
 obtain ⟨ever,b⟩:=h.st
 obtain ⟨-,g2,-,g5,-⟩:=b.inv.up p rfl h.dead
 exact ⟨b.fine,d,b.fit p rfl,fun e=>(g5 e).1,by omega⟩
structure kG (n s B:Nat) (H:fJ) (p:PAg) (k:Nat) (T:List E) (maybe:List (Nat×List E)):Prop where
 st:∃ ever,MachSt n [] s B H (some p) p.a maybe ever true
 v:p.a.V=k
 t:p.a.T=T
 deg:p.a.deg=some (12,0)
 out:∀ f∈p.a.out,∃ b,f=sealB 18 b
 sec:1≤p.sec
 dead:H.dp.dead=false
theorem kG.ready {n k s B:Nat} {H:fJ} {p:PAg} {T:List E} {d:List (Nat×List E)} (h:kG n s B H p k T d) (i:B≤800000000) (hs:s<8999999999999999999):uT n [] B H p:=by
 obtain ⟨ever,b⟩:=h.st
 obtain ⟨-,g2,-,g5,-⟩:=b.inv.up p rfl h.dead
 exact ⟨b.fine,i,b.fit p rfl,fun e=>(g5 e).1,by omega⟩
theorem kG.own {n k s B:Nat} {H:fJ} {p:PAg} {T:List E} {d:List (Nat×List E)} (h:kG n s B H p k T d) {a1:AgA} (h1:a1.V=p.a.V) (h2:a1.T=p.a.T) (h3:a1.deg=p.a.deg) (j:a1.Fit) (l:∀ f∈a1.out,∃ b,f=sealB 18 b):kG n s B H {p with a:=a1} k T d:=by
 obtain ⟨ever,i⟩:=h.st
 exact ⟨⟨ever,i.own h1 h2 h3 rfl j⟩,h1.trans h.v,h2.trans h.t,h3.trans h.deg,l,h.sec,h.dead⟩
theorem BT {a:AgA} (h:∀ f∈a.out,∃ b,f=sealB 18 b) (k:Nat):∀ f∈(a.gW k).out,∃ b,f=sealB 18 b:=fun f d=>by
 unfold AgA.gW AgA.put at d
 split at d
 ·rcases bU.1 d with d | d
  ·exact h f d
  ·exact ⟨_,az.1 d⟩
 ·exact h f d
theorem kG.recv {n k s B:Nat} {H:fJ} {p:PAg} {T:List E} {d:List (Nat×List E)} (h:kG n s B H p k T d) (frame:List UInt8):iy H p frame=(H,{p with a:=p.a.gW 13})∧kG n s B H {p with a:=p.a.gW 13} k T d:=by
 obtain ⟨ever,i⟩:=h.st
 have b:=jD p.a 18 [UInt8.ofNat 13]
 refine ⟨?_,h.own b.2.1 b.2.2 b.1 ((i.fit p rfl).gW 13) (BT h.out 13)⟩
 unfold iy AgA.taken
 rw [h.deg]
 rfl
theorem kG.next {n k s B:Nat} {H:fJ} {p:PAg} {T:List E} {i:List (Nat×List E)} (h:kG n s B H p k T i):kG n s B H {p with a:=p.a.next.1} k T i∧∀ f,p.a.next.2=some f→(∃ b,f=sealB 18 b)∧p.a.next.1.out.length+1=p.a.out.length:=by
 obtain ⟨ever,j⟩:=h.st
 obtain ⟨t1,t2,t3⟩:=Ea p.a
 refine ⟨h.own t1 t2 t3 (j.fit p rfl).next fun f d => ?_,fun f d => ?_⟩
 ·unfold AgA.next at d
  split at d
  ·exact h.out f d
  ·rename_i s l e
   exact h.out f (by rw [e];exact aT _ d)
 ·unfold AgA.next at d⊢
  split at d
  ·cases d
  ·rename_i s l e
   cases d
   rw [e]
   exact ⟨h.out f (by rw [e];simp),rfl⟩
theorem kG.of {n k s B:Nat} {H H':fJ} {p b:PAg} {T:List E} {armed:Bool} {i:List (Nat×List E)} {s' j:Nat} (h:j7 n k s B H p T armed) (h1:H'.dp.dead=false) (h2:b.a=p.a.stops (12,0)) (h3:1≤b.sec) (h4:∃ ever,MachSt n [] s' j H' (some b) b.a i ever true):kG n s' j H' b k T i:=by
 have d:=jD {p.a with deg:=some (12,0)} 18 [UInt8.ofNat 12]
 refine ⟨h4,by rw [h2];exact d.2.1.trans h.v,by rw [h2];exact d.2.2.trans h.t,by rw [h2];exact d.1,fun f l => ?_,h3,h1⟩
 rw [h2,AgA.EB h.out] at l
 exact ⟨_,az.1 l⟩
theorem j7.ph {n s B:Nat} {H:fJ} {P:Option PAg} {a:AgA} {b:List (Nat×List E)} {ever:List E} {armed:Bool} (h:MachSt n [] s B H P a b ever armed) (d:48≤n∧n≤128) (j:∀ m∈b,In60 m.2) (mask cut:Int) (hc:cut≤9223372036854775807) :
  ∃ H' p v T,ia (H.again mask cut (-1))=(H',.inl p)∧(v,T)∈b∧p.a=begunA v T∧
   (H'.dp.dead=true→MachSt n [] s (B+480) H' (some p) a b ever false)∧
   (H'.dp.dead=false→j7 n v s (B+480) H' {p with a := {p.a with out:=[]}} T false∧p.a.Fit∧p.a.deg=none∧MachSt n [] s (B+480) H' (some p) p.a [(v,T)] ever false∧H'.dp.S=T)∧(cut<0→gV H'.dp):=by
 have hd:decide ((0:Int)≤-1)=false:=by decide
 rcases h.ph mask cut (-1) hc (by omega) with ⟨H',f,-,-,-,u,-⟩ | ⟨H',p,v,T,h1,h2,h3,-,h5,h6⟩
 ·omega
 ·rw [hd] at h5 h6
  refine ⟨H',p,v,T,h1,h2,h3,h5,fun hdd => ?_,fun r => ?_⟩
  ·have hm:=h6 hdd
   rw [←h3] at hm
   obtain ⟨q,l,o⟩:=jK v T
   have i:=hm.fit p rfl
   obtain ⟨g1,g2,g3,g5,g6⟩:=hm.inv.up p rfl hdd
   exact ⟨⟨⟨ever,hm.own (a1 := {p.a with out:=[]}) rfl rfl rfl rfl ⟨i.v,by simp,by simp,i.com⟩⟩,by show p.a.V=v;rw [h3,q],by show p.a.T=T;rw [h3,l],rfl,by show p.a.deg=none;rw [h3,o],j _ h2,d,hdd⟩,i,by rw [h3,o],hm,by rw [g3,h3,l]⟩
  ·have d:gV (H.again mask cut (-1)).dp:=⟨by show max cut (-1) = -1;omega,rfl⟩
   have:=d.start
   rw [h1] at this
   exact this
end Go.Proofs.YtkkfmkhbdoeglaaGreatDoor
namespace Go.Proofs.YtkkfmkhbdoeglaaGreatDoor
open Go.ChangeShapes Go.WideShapes Go.ChangeAt Go.RowKit
theorem own:ownKnob Tryz.prog.godebug=none:=by kernel_rfl
theorem I3 : Tryz.prog.globalNamed "errors.errorType" = some 0 := by kernel_rfl
theorem II : (Tryz.prog.cutTypes.find? (·.1 == "internal/reflectlite.rtype")).map (·.2) = some 257 := by kernel_rfl
theorem Ie:((List.range 333).filter fun t=>Tryz.prog.rowNamed t [101,114,114,111,114])=[101]:=by kernel_rfl
theorem EK:Tryz.prog.types.size=333:=by kernel_rfl
theorem rB {W : World} {l : List (String × DataW Unit)} (hm : ("errors.errorType", (Rows.laid_errors_errorType : DataW Unit)) ∈ l) (h : handlesMet Tryz.prog l W) :
  W.cell? ⟨0,0,none⟩=some (.iface 257 (.agg #[.pointer (some ⟨2,101,none⟩)])):=by
 obtain ⟨name,u,ty,d,i,j,m,b⟩:=h _ hm
 have o:name=[101,114,114,111,114]:=(Option.some.inj d).symm
 subst o
 obtain rfl:=Option.some.inj (II.symm.trans i)
 have hm:ty∈(List.range 333).filter fun t=>Tryz.prog.rowNamed t [101,114,114,111,114]:=cm.2 ⟨cV.2 (by rw [←EK];exact j),m⟩
 rw [Ie] at hm
 obtain rfl:=az.1 hm
 have q:typeHandle Tryz.prog 101 = .pointer (some ⟨2,101,none⟩):=by kernel_rfl
 rw [q] at b
 simpa using World.var?_cell I3 b 0
noncomputable def qI (os:Os):World :=
 let b:=World.holding Tryz.prog os ⟨#[],#[],[]⟩
 {b with heap:=(b.heap.modify 0 fun
   | .cells _ t frozen => .cells #[.iface 257 (.agg #[.pointer (some ⟨2,101,none⟩)])] t frozen
   | o=>o).modify 1 fun
   | .cells _ t frozen => .cells #[.int .i64 6,.int .i64 4,.int .i64 5,.int .i64 4,.int .i64 2,.int .i64 2] t frozen
   | o=>o}
section
variable {H:Type} {enc:TypeId×Value→H} {P:Program}
theorem rq {W W':World} (hl:laidOutB P=true) (r:Below W.heap.size W W'):∀ (i:List TypeId) (j:List Value) (l:List (DataW H)) (ps:List MemPlace),
  (∀ t∈i,P.readableRec t=true∧t<P.types.size)→DataW.TrodAll enc P W 0 (fun _=>true) true i j l ps→(∀ x∈ps,x.block<W.heap.size)→
  DataW.TrodAll enc P W' 0 (fun b=>decide (b<W.heap.size)) true i j l ps
 | [],[],[],_,_,h,_=>h
 | t::i,v::j,d::l,ps,s,h,m=>by
  obtain ⟨p,q,h1,h2,rfl⟩:=h
  have u:=s t ck
  exact ⟨p,q,Below.trod hl u.1 u.2 h1 r (fun x o=>m x (dQ _ o)),
   rq hl r i j l q (fun t' y=>s t' (aT _ y)) h2 (fun x o=>m x (List.mem_append_right _ o)),rfl⟩
 | [],_::_,_,_,_,h,_=>h.elim
 | [],[],_::_,_,_,h,_=>h.elim
 | _::_,[],_,_,_,h,_=>h.elim
 | _::_,_::_,[],_,_,h,_=>h.elim
theorem Fq {f:Func} {s:ChangeSpec} {W W':World} {args:Array Value} {b gs:List (DataW H)} {before:List MemPlace} {o:TypeId}
  (l:DataW.Whole enc P f.params.toList s.vars false W args.toList b gs before) (r:s.vars=[]) (C:f.resultTypes=#[o]) (D:P.underlying o=some .bool)
  (m:(s.fn H (b++gs)).results=[.lit (.bool true)]) (i:(s.fn H (b++gs)).args=b) (j:(s.fn H (b++gs)).vars=[])
  (hl:laidOutB P=true) (E:∀ t∈f.params.toList,P.readableRec t=true∧t<P.types.size) (u:Below W.heap.size W W') :
  s.post enc P f false true false false W args (.bool true) W':=by
 have y:∀ x∈before,x.block<W.heap.size:=fun x d=>l.lt x d
 have B:=l
 obtain ⟨p,q,h1,h2,rfl,_,_⟩:=l
 rw [r] at h2
 obtain ⟨rfl,rfl⟩:=trodVars_none h2
 refine ⟨b,[],p++[],[],p,[],B,?_,?_,?_,World.keptBut_mono (fun x d=>⟨d,.inr (.inl (by simpa using d))⟩) (u.frame (·∈p++[])),fun h=>by cases h⟩
 ·rw [C,m]
  exact ⟨[],[],shut_bool D true,rfl,rfl⟩
 ·rw [i]
  exact rq hl u _ _ _ _ E h1 (fun x d=>y x (dQ _ d))
 ·rw [r,j]
  rfl
end
theorem laidOut:laidOutB Tryz.prog=true:=by kernel_rfl
theorem EI {W:World} (h:W.ShapedOpen Tryz.prog):2≤W.heap.size:=by
 have hc:(((begin Tryz.prog (fun _ _=>0) default).world.heap[1]?).bind Obj.row?).isSome=true:=by kernel_rfl
 obtain ⟨⟨z,t⟩,d⟩:=cE.1 hc
 obtain ⟨cs,b,_⟩:=h.1 1 z t (by show 1<Tryz.prog.globals.size;exact (by kernel_rfl:Tryz.prog.globals.size=2)▸(by decide)) d
 exact (cx.1 b).1
end Go.Proofs.YtkkfmkhbdoeglaaGreatDoor
namespace Go.Proofs.YtkkfmkhbdoeglaaGreatDoor
open Go.ChangeShapes Go.WideShapes Go.ChangeAt Go.RowKit Go.Deep
def uS {α:Type} (t:TypeId) (R:World→List Value→α→Prop):Prop :=
 ∀ {H:Type} {enc:TypeId×Value→H} {w:World} {base:Nat} {spare:Nat→Bool} {held:Bool} {fuel:Nat} {cs:List Value} {x:DataW H×List MemPlace},
  DataW.trod enc Tryz.prog w base spare held fuel t cs=some x→(∀ y∈x.1.weights Tryz.prog t,y≤reachBytes)→∃ a : α,R w cs a
def Gr (k:IntKind) (_:World) (cs:List Value) (n:Int):Prop:=cs=[.int k n]∧(Lit.int k n).wf=true
theorem CA {t:TypeId} {k:IntKind} (b:Tryz.prog.underlying t=some (.int k)):uS t (Gr k):=by
 intro H enc w base spare held fuel cs x h _
 obtain ⟨z,hc,rfl,hw⟩:=DataW.trod_int b h
 exact ⟨z,hc,hw⟩
def yl {α:Type} (C:Nat) (m:Nat) (R:World→List Value→α→Prop) (w:World) (cs:List Value) (l:List α):Prop :=
 l.length≤m∧∃ a cap,cs=[.slice a l.length cap]∧l.length≤cap∧∀ i (h:i<l.length),∃ b off,a=some ⟨b,off,none⟩∧∃ d,d.length=C∧(∀ j,j<C→w.cell? ⟨b,off+i*C+j,none⟩=d[j]?)∧R w d l[i]
theorem qd {H:Type} {P:Program} {e:TypeId} {d:DataW H} {y:Nat} : ∀ {l:List (DataW H)},d∈l→y∈d.weights P e→y∈DataW.weightsAll P e l
 | [],h,_=>by cases h
 | x::l,h,b=>by
  simp only [DataW.weightsAll,bU]
  rcases aV.1 h with rfl | h
  ·exact .inl b
  ·exact .inr (qd h b)
theorem Ev {w:World} {a:Addr} {v:Value} (h:w.cell? a=some v):a=⟨a.block,a.off,none⟩:=by
 obtain ⟨b,o,s⟩:=a
 unfold World.cell? at h
 split at h
 ·split at h
  ·cases h
  ·rename_i hs
   cases s with
   | none=>rfl
   | some _=>simp at hs
 ·cases h
theorem yX {α:Type} [Inhabited α] {t e:TypeId} {C m:Nat} {R:World→List Value→α→Prop} (E:Tryz.prog.underlying t=some (.slice e)) (N:Tryz.prog.cellsOf e=C) (r:0<C) (F:∀ n,n*Tryz.prog.bytesOf e≤reachBytes→n≤m) (O:uS e R) :
  uS t (yl C m R):=by
 intro H enc w base spare held fuel cs x h hw
 rcases open_slice E h with ⟨rfl,rfl⟩ | ⟨a,len,cap,Q,n,D,Y,rfl,Z,hl,hm,G,rfl,S⟩
 ·exact ⟨[],aL _,none,0,rfl,ah _,fun i d=>absurd d (by simp)⟩
 ·have hle:len≤Q:=by rw [G];split <;> omega
  simp only [DataW.weights,E] at hw
  have U:∀ i,i<len→∀ y∈(D i).weights Tryz.prog e,y≤reachBytes:=fun i d y W=>by
   refine hw y (aT _ (dQ _ ?_))
   exact qd (aB.2 ⟨i,cV.2 d,rfl⟩) W
  have hlen:len≤m:=by
   refine F len ?_
   have:=hw _ ck
   simp only [aH,List.length_range] at this
   exact aI (cS _ (ei _ _)) this
  obtain ⟨V,I⟩:=choose_lt (α := α) (n:=len) (p:=fun i v=>∃ b,b.length=C∧(∀ j,j<C→w.cell? (a.add (i*C+j))=b[j]?)∧R w b v) (fun i d=>by
   obtain ⟨b,h1,h2⟩:=S i (by omega)
   rw [N] at h1
   obtain ⟨_,o,l⟩:=World.cells?_some h1
   obtain ⟨v,s⟩:=O h2 (U i d)
   exact ⟨v,b,o,fun j u=>by rw [←add_add];exact l j u,s⟩)
  refine ⟨(List.range len).map V,by simpa using hlen,some a,cap,by simp,by simpa using hl,fun i d => ?_⟩
  have J:i<len:=by simpa using d
  obtain ⟨b,M,l,s⟩:=I i J
  have q:∃ v,w.cell? (a.add (0*C+0))=some v:=by
   obtain ⟨c0,X,B,_⟩:=I 0 (by omega)
   rw [B 0 r]
   exact ⟨c0[0],ay (by omega)⟩
  obtain ⟨v0,q⟩:=q
  have ha:a=⟨a.block,a.off,none⟩:=by
   have:a.add (0*C+0)=a:=by simp [Addr.add]
   rw [this] at q
   exact Ev q
  refine ⟨a.block,a.off,by rw [←ha],b,M,fun j u => ?_,by simpa using s⟩
  have:=l j u
  rw [ha,eW] at this
  rw [aW]
  exact this
theorem pG {H:Type} {P:Program} {y:Nat} : ∀ {b:List TypeId} {j:List (DataW H)} {i:Nat} {t:TypeId} {d:DataW H},b[i]?=some t→j[i]?=some d→y∈d.weights P t→y∈DataW.weightsEach P b j
 | [],_,i,_,_,h,_,_=>by simp at h
 | _::_,[],i,_,_,_,h,_=>by simp at h
 | t'::b,d'::j,0,t,d,h1,h2,l=>by
  simp only [bE,eN] at h1 h2
  subst h1 h2
  simp only [DataW.weightsEach,bU]
  exact .inl l
 | t'::b,d'::j,i+1,t,d,h1,h2,l=>by
  simp only [aY] at h1 h2
  simp only [DataW.weightsEach,bU]
  exact .inr (pG h1 h2 l)
theorem Gr.i64 {w:World} {cs:List Value} {n:Int} (h:Gr .i64 w cs n) : -9223372036854775808≤n∧n≤9223372036854775807:=bounds_i64 h.2
def Small {H:Type} (t:TypeId) (d:DataW H):Prop:=∀ y∈d.weights Tryz.prog t,y≤reachBytes
theorem yg {H:Type} {b:List TypeId} {j:List (DataW H)} (h:(DataW.weightsEach Tryz.prog b j).all (·≤reachBytes)=true) (i:Nat) {t:TypeId} {d:DataW H} (l:b[i]?=some t) (hd:j[i]?=some d):Small t d :=
 fun y m=>dV (eX.1 h y (pG l hd m))
section
variable {H:Type} {enc:TypeId×Value→H} {P:Program} {w:World} {base b0:Nat} {spare:Nat→Bool} {held:Bool} {t:TypeId} {v:Value} {d:DataW H} {p:List MemPlace}
theorem xy {α:Type} {R:World→List Value→α→Prop} {e:TypeId} (b:P.underlying t=some (.slice e)) (i:Value.okWide P w .any b0 t v) (h:DataW.Trod enc P w base spare held t v d p) (j:∀ {fuel:Nat} {cs:List Value},DataW.trod enc P w base spare held fuel t cs=some (d,p)→∃ a,R w cs a):∃ a,R w [v] a:=by
 obtain ⟨a,len,cap,rfl⟩:=okWide_slice b i
 obtain ⟨fuel,l⟩:=h
 exact j l
theorem rS {k:IntKind} (b:P.underlying t=some (.int k)) (i:Value.okWide P w .any b0 t v) (h:DataW.Trod enc P w base spare held t v d p):∃ n,v = .int k n∧(Lit.int k n).wf=true:=by
 obtain ⟨m,rfl⟩:=okWide_int b i
 obtain ⟨fuel,j⟩:=h
 obtain ⟨n,h1,-,h2⟩:=DataW.trod_int b j
 exact ⟨n,by simpa [Value.cells] using h1,h2⟩
end
def Ja:=Gr .i64
theorem Cz:uS 3 Ja:=CA Tryz.underlying3
def zt:=yl 1 17592186044416 Ja
theorem E1:Tryz.prog.bytesOf 3=8:=by kernel_rfl
theorem tY:uS 29 zt:=yX Tryz.underlying29 (by kernel_rfl) (by omega) (fun n h=>by rw [E1] at h;unfold reachBytes at h;omega) Cz
theorem zt.view {w:World} {v:Value} {l:List Int} (h:zt w [v] l):l.length≤gx∧(∀ x∈l,-9223372036854775808≤x∧x≤9223372036854775807)∧fR w v 1 l.length (l.map fun x => .int .i64 x):=by
 obtain ⟨hm,a,cap,s,hc,m⟩:=h
 cases s
 refine ⟨by unfold gx;omega,fun x o => ?_,by simp,a,cap,rfl,hc,fun i d => ?_⟩
 ·obtain ⟨i,d,rfl⟩:=cH o
  obtain ⟨b,off,-,q,-,-,j⟩:=m i d
  exact j.i64
 ·rw [aH] at d
  obtain ⟨b,off,rfl,q,hl,r,j⟩:=m i d
  refine ⟨b,off,rfl,?_⟩
  have:=r 0 (by omega)
  rw [j.1] at this
  simpa using this
end Go.Proofs.YtkkfmkhbdoeglaaGreatDoor
namespace Go.Proofs.YtkkfmkhbdoeglaaGreatDoor
open Go.ChangeShapes Go.WideShapes Go.ChangeAt Go.RowKit Go.Deep
theorem Cp {cs:List Value} (h:cs.length=2):∃ a b,cs=[a,b]:=by
 match cs,h with
 | [a,b],_=>exact ⟨a,b,rfl⟩
theorem I2:Tryz.prog.cellsOf 3=1:=by kernel_rfl
instance:Inhabited OpB:=⟨⟨0,0,[],[]⟩⟩
def Jc (_:World) (cs:List Value) (o:OpB):Prop:=cs=[.int .i64 o.kind,.int .i64 o.table,.string ⟨o.key.toArray⟩,.string ⟨o.val.toArray⟩]∧o.key.length≤gx∧o.val.length≤gx∧
 (-9223372036854775808≤o.kind∧o.kind≤9223372036854775807)∧(-9223372036854775808≤o.table∧o.table≤9223372036854775807)
def ID:=yl 4 2932031007402 Jc
theorem DN {w:World} {b off C:Nat} {xs:List Value} {n:Nat} (d:0<C) (hl:xs.length=n*C) (h:∀ i,i<n→∀ j,j<C→w.cell? ⟨b,off+i*C+j,none⟩=xs[i*C+j]?):∀ k (hk:k<xs.length),w.cell? ⟨b,off+k,none⟩=some xs[k]:=by
 intro k hk
 have h1:k / C<n:=Nat.div_lt_of_lt_mul (by rw [Nat.mul_comm];omega)
 have h2:k%C<C:=Nat.mod_lt _ d
 have e:k / C*C+k%C=k:=by rw [Nat.mul_comm];exact Nat.div_add_mod k C
 have:=h (k / C) h1 (k%C) h2
 rw [aW,e] at this
 rw [this]
 exact ay hk
theorem ID.view {w:World} {v:Value} {l:List OpB} (h:ID w [v] l):l.length≤2932031007402∧jP l∧iu w v l:=by
 obtain ⟨hm,a,cap,y,hc,q⟩:=h
 cases y
 refine ⟨hm,fun o B => ?_,?_⟩
 ·obtain ⟨i,d,rfl⟩:=cH B
  obtain ⟨b,off,-,s,-,-,m⟩:=q i d
  exact ⟨m.2.1,m.2.2.1⟩
 ·refine ⟨jk l,a,cap,rfl,hc,fun k hk => ?_⟩
  have r:0<l.length:=by rw [jk] at hk;omega
  obtain ⟨b,off,rfl,-⟩:=q 0 r
  refine ⟨b,off,rfl,DN (C:=4) (n:=l.length) (by omega) (jk l) (fun i d j u => ?_) k hk⟩
  obtain ⟨I,D,he,s,hl,x,m⟩:=q i d
  cases he
  rw [x j u,m.1]
  obtain ⟨e0,E,F,G⟩:=nC l i d
  match j,u with
  | 0,_=>exact e0.symm
  | 1,_=>exact E.symm
  | 2,_=>exact F.symm
  | 3,_=>exact G.symm
theorem Ep {H:Type} {enc:TypeId×Value→H} {w:World} {base:Nat} {spare:Nat→Bool} {held:Bool} {fuel:Nat} {cs:List Value} {a b:Int} {p:List MemPlace}
  (h:DataW.trod enc Tryz.prog w base spare held fuel 248 cs=some (.agg [.lit (.int .i64 a),.lit (.int .i64 b)],p)):cs=[.int .i64 a,.int .i64 b]:=by
 obtain ⟨xs,n,-,q,hl,r,j⟩:=DataW.trod_struct Tryz.underlying248 h
 have d:=j 0 _ rfl
 have h1:=j 1 _ rfl
 have c:Tryz.prog.cellsOf 248=2:=by kernel_rfl
 have d:DataW.trod enc Tryz.prog w base spare held n 3 ((cs.drop 0).take (Tryz.prog.cellsOf 3))=xs[0]?:=d
 have h1:DataW.trod enc Tryz.prog w base spare held n 3 ((cs.drop 1).take (Tryz.prog.cellsOf 3))=xs[1]?:=h1
 rw [I2] at d h1
 rw [c] at hl
 obtain ⟨c0,c1,rfl⟩:=Cp hl
 have i:xs.map (·.1)=[.lit (.int .i64 a),.lit (.int .i64 b)]:=by
  have:=bB Prod.fst q
  simpa using this.symm
 have e0:(xs.map (·.1))[0]?=some (.lit (.int .i64 a)):=by rw [i];rfl
 have l:(xs.map (·.1))[1]?=some (.lit (.int .i64 b)):=by rw [i];rfl
 rw [bh] at e0 l
 obtain ⟨s,g0,f0⟩:=cw.1 e0
 obtain ⟨u,g1,f1⟩:=cw.1 l
 rw [g0] at d
 rw [g1] at h1
 obtain ⟨z0,m,rfl,-⟩:=DataW.trod_int Tryz.underlying3 d
 obtain ⟨x,o,rfl,-⟩:=DataW.trod_int Tryz.underlying3 h1
 simp at m o f0 f1
 rw [m,o,f0,f1]
theorem wm {W : World} (hs : 2 ≤ W.heap.size) (h : laidMet Tryz.prog [("overlay/overlay.shapes", Rows.laid_overlay_overlay_shapes)] W) : ShapesVar W := by
 obtain ⟨ps,⟨N,t',cs,fuel,p,q,x,B,r,hd,_,_⟩,_⟩:=h
 have C : Tryz.prog.globalNamed "overlay/overlay.shapes" = some 1 := by kernel_rfl
 obtain rfl:=Option.some.inj (C.symm.trans x)
 have G:(Tryz.prog.globals[1]?).map (·.type)=some 249:=by kernel_rfl
 obtain rfl:=Option.some.inj (G.symm.trans B)
 have ce:Tryz.prog.cellsOf 248=2:=by kernel_rfl
 have I:Tryz.prog.cellsOf 249=6:=by kernel_rfl
 have j:∀ i a b,((Rows.laid_overlay_overlay_shapes:DataW Unit) = .agg [.agg [.lit (.int .i64 6),.lit (.int .i64 4)],.agg [.lit (.int .i64 5),.lit (.int .i64 4)],.agg [.lit (.int .i64 2),.lit (.int .i64 2)]])→
   ([.agg [.lit (.int .i64 6),.lit (.int .i64 4)],.agg [.lit (.int .i64 5),.lit (.int .i64 4)],.agg [.lit (.int .i64 2),.lit (.int .i64 2)]]:List (DataW Unit))[i]?=some (.agg [.lit (.int .i64 a),.lit (.int .i64 b)])→
   cs[i*2]?=some (.int .i64 a)∧cs[i*2+1]?=some (.int .i64 b):=by
  intro i a b s D
  rw [s] at hd
  cases fuel with
  | zero=>simp [DataW.trod] at hd
  | succ n =>
   simp only [DataW.trod,Tryz.underlying249,ce,I] at hd
   split at hd
   ·obtain ⟨xs,hm,J⟩:=cw.1 hd
    have l:=bB Prod.fst J
    simp only [DataW.agg.injEq] at l
    rw [←l,bh] at D
    obtain ⟨y,E,m⟩:=cw.1 D
    have F:i<3:=by
     have h1:=(aG.1 E).1
     have h2:=Lib.mapM_length hm
     rw [List.length_range] at h2
     omega
    obtain ⟨O,o,M⟩:=Lib.mapM_at hm i i (by rw [List.getElem?_range F])
    rw [E] at o
    obtain rfl:=Option.some.inj o
    obtain ⟨Q,R⟩:=y
    simp only at m
    subst m
    have:=Ep M
    have e0:=bB (·[0]?) this
    have u:=bB (·[1]?) this
    simp only [List.getElem?_take,dy] at e0 u
    simp at e0 u
    exact ⟨e0,u⟩
   ·cases hd
 have d:=World.var?_cell C r
 have r0:=j 0 6 4 rfl rfl
 have r1:=j 1 5 4 rfl rfl
 have r2:=j 2 2 2 rfl rfl
 exact ⟨hs,(d 0).trans (by simpa using r0.1),(d 1).trans (by simpa using r0.2),(d 2).trans (by simpa using r1.1),(d 3).trans (by simpa using r1.2),(d 4).trans (by simpa using r2.1),(d 5).trans (by simpa using r2.2)⟩
theorem CQ (os : Os) (args : Array Value) : laidMet Tryz.prog [("overlay/overlay.shapes", Rows.laid_overlay_overlay_shapes)] ((qI os).forCall (fun _ _ => 0) ⟨#[], args, []⟩).memory :=
 laidMet_of_run' 8 (by kernel_rfl) (by kernel_rfl)
end Go.Proofs.YtkkfmkhbdoeglaaGreatDoor
namespace Go.Proofs.YtkkfmkhbdoeglaaGreatDoor
open Go.ChangeShapes Go.WideShapes Go.ChangeAt Go.RowKit Go.Deep
def qB (w:World) (v:Value) (b:List (List Int)):Prop:=∃ vals:List Value,fR w v 1 b.length vals∧∀ (i:Nat) (l:List Int),b[i]?=some l→∃ u,vals[i]?=some u∧kg w u l
theorem qB.below {w w':World} {v:Value} {b:List (List Int)} (h:qB w v b) (d:Below w.heap.size w w'):qB w' v b:=by
 obtain ⟨vals,h1,h2⟩:=h
 refine ⟨vals,h1.below d,fun i l j => ?_⟩
 obtain ⟨u,hu,h3⟩:=h2 i l j
 exact ⟨u,hu,h3.below d⟩
theorem qB.opened {w:World} {v:Value} {b:List (List Int)} (h:qB w v b):∃ a cap,v = .slice a b.length cap∧b.length≤cap∧∀ (i:Nat) (l:List Int),b[i]?=some l→∃ g off u,a=some ⟨g,off,none⟩∧w.cell? ⟨g,off+i,none⟩=some u∧kg w u l:=by
 obtain ⟨vals,⟨hl,a,cap,j,hc,m⟩,h2⟩:=h
 refine ⟨a,cap,j,hc,fun i l o => ?_⟩
 obtain ⟨u,hu,h3⟩:=h2 i l o
 obtain ⟨d,rfl⟩:=aG.1 hu
 obtain ⟨g,off,q,r⟩:=m i d
 exact ⟨g,off,_,q,r,h3⟩
def ES:=yl 1 5864062014805 zt
theorem ES.view {w:World} {v:Value} {d:List (List Int)} (h:ES w [v] d):d.length≤5864062014805∧(∀ l∈d,l.length≤gx∧∀ x∈l,-9223372036854775808≤x∧x≤9223372036854775807)∧qB w v d:=by
 obtain ⟨hm,a,cap,B,hc,C⟩:=h
 cases B
 have key:∀ i:Fin d.length,∃ u:Value,(∃ b off,a=some ⟨b,off,none⟩∧w.cell? ⟨b,off+i.1,none⟩=some u)∧zt w [u] d[i.1]:=by
  intro i
  obtain ⟨b,off,e,q,hl,r,m⟩:=C i.1 i.2
  match q,hl with
  | [u],_ =>
   have o:=r 0 (by omega)
   rw [Nat.mul_one,cC] at o
   exact ⟨u,⟨b,off,e,o⟩,m⟩
 refine ⟨hm,fun l hl => ?_,List.ofFn (fun i=>Classical.choose (key i)),⟨by simp,a,cap,rfl,hc,fun i j => ?_⟩,fun i l s => ?_⟩
 ·obtain ⟨i,j,rfl⟩:=cH hl
  obtain ⟨u,-,m⟩:=key ⟨i,j⟩
  obtain ⟨h1,h2,-⟩:=m.view
  exact ⟨h1,h2⟩
 ·have y:i<d.length:=by simpa using j
  obtain ⟨⟨b,off,e,o⟩,-⟩:=Classical.choose_spec (key ⟨i,y⟩)
  refine ⟨b,off,e,?_⟩
  rw [List.getElem_ofFn]
  exact o
 ·obtain ⟨j,rfl⟩:=aG.1 s
  obtain ⟨-,m⟩:=Classical.choose_spec (key ⟨i,j⟩)
  obtain ⟨-,-,h3⟩:=m.view
  exact ⟨_,by rw [List.getElem?_ofFn];simp [j],h3⟩
end Go.Proofs.YtkkfmkhbdoeglaaGreatDoor
