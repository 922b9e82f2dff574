/- A part of what is proved here: lemmas and contracts of single functions. No condition but those that each names. -/
import Derived.Test.YtkkfmkhbdoeglabGreatDoorG00
import Derived.LoopIn
import Derived.RangeFuncNested
import Derived.TacticsInMore
import Derived.Test.YtkkfmkhbdoeglabGreatDoorG02
import Derived.Test.YtkkfmkhbdoeglabGreatDoorG06
import Derived.Test.YtkkfmkhbdoeglabGreatDoorG07
import Derived.Test.YtkkfmkhbdoeglabGreatDoorG08
import Derived.Test.YtkkfmkhbdoeglabGreatDoorG10
import Derived.Test.YtkkfmkhbdoeglabGreatDoorG13
set_option maxHeartbeats 1000000
set_option maxRecDepth 100000
namespace Go.Proofs.YtkkfmkhbdoeglabGreatDoor
open Go.RowKit
theorem Dp (l:List E) (x:E):sizeS (l++[x])=sizeS l+(1+x.1.2.length+x.2.length):=by simp [sizeS]
theorem wY {l m:List E} (h:l.Perm m):sizeS l=sizeS m:=(h.map _).sum_nat
theorem E6 {l m:List E} (b:l.Nodup) (h:∀ x∈l,x∈m):sizeS l≤sizeS m:=by
 classical
 induction l generalizing m with
 | nil=>exact aM _
 | cons x l ih =>
  rw [dw] at b
  have i:=List.perm_cons_erase (h x (by simp))
  rw [wY i]
  have:=ih (m:=m.erase x) b.2 (fun y d=>(List.mem_erase_of_ne (fun e=>b.1 (by rw [←e];exact d))).2 (h y (aR _ d)))
  simp only [sizeS,bq,List.sum_cons] at this⊢
  omega
theorem GH (a b c:Nat) (h:a+(1+b+c)≤4611686018427387904):Value.int .i64 (wrap64 ((a:Int)+wrap64 (wrap64 (1+(b:Int))+(c:Int)))) = .int .i64 ((a+(1+b+c):Nat):Int):=by
 rw [IntWalk.wrap64_in (1+(b:Int)) (by omega),IntWalk.wrap64_in (1+(b:Int)+(c:Int)) (by omega),IntWalk.wrap64_in _ (by omega)]
 congr 1
theorem GG (q off r:Nat) (S:List E) (w:World) (he:EntAt w q off r S) (x:sizeS S≤4611686018427387904) :
  Calls Tryz.prog 205 #[.pointer (some ⟨q,off,none⟩)] w fun e w'=>e = .returned (.int .i64 (sizeS S:Nat))∧Below w.heap.size w w':=by
 have hc:=he.cell
 obtain ⟨B,L,G,Q⟩:=he.tab
 have I:=ab Q
 have HS:=ab x
 have HN:=ab B.nodup
 clear he B Q x
 go_enter Tryz.func205,Tryz.ntmps205
 go_wp2_with (first | (refine kg rfl _ rfl Tryz.underlying162 rfl G ?_;intro w0 J R a0) | fail)
 try go_frame
 go_loopw [3] (fun n wr=>∃ l:List E,gB wr r w.heap.size L (l.map zS)∧n = .int .i64 (sizeS l:Nat)∧Below w.heap.size w wr) (fun _ wr=>wr.rangeLeft r w.heap.size)
 case atStart=>exact ⟨[],J,rfl,R⟩
 case round =>
  obtain ⟨l,d,rfl,i⟩:=hrel
  go_wp2_with (first | (refine kK rfl _ rfl rfl d ?_ ?_) | fail)
  ·intro U
   have V:=ab (wY (qS (kH d.sub.2.2) HN.out (U.trans I.out)))
   go_wp2
   go_ret
   exact ⟨by rw [V.out];rfl,i⟩
  ·intro M N v w2 W X o Y a1 Z a2
   obtain ⟨⟨k',O⟩,aa,e⟩:=aB.1 (I.out.mem_iff.1 W)
   cases e
   have b:gB w2 r w.heap.size L ((l++[((M,N),O)]).map zS):=by rw [bm];exact o
   have hle:=E6 (m:=S) (kH b.sub.2.2) (fun y hy=>tH (I.out.mem_iff.1 (b.sub.1 _ (aB.2 ⟨y,hy,rfl⟩))))
   have C:=ab (Dp l ((M,N),O))
   rw [C.out] at hle
   have ag:=HS.out
   have s:=ab b
   have a3:=i.size
   have D:Below w.heap.size w w2:=i.grown Y i.size (fun j e=>by cases e;exact af _)
   have ak:=ab d
   clear o b W X aa d
   unfold kU at Z
   unfold kU
   go_wp2
   have u:Below w2.heap.size w2 ((w2.alloc (.cells #[.int .i64 M,.string ⟨N.toArray⟩] 103)).alloc (.cells #[.string ⟨O.toArray⟩] 226)):=((Below.refl _ w2).alloc (af _) _).alloc (by simp) _
   have F:=s.out.frame (u.block _ s.out.lt.1) (u.block _ s.out.lt.2)
   have al:=F.left
   have am:=ak.out.left
   simp only [aG,aq,ar,aJ] at al am
   refine ⟨⟨_,F,?_,D.trans (u.mono D.size)⟩,by omega⟩
   rw [C.out]
   exact GH _ _ _ (aH hle ag)
end Go.Proofs.YtkkfmkhbdoeglabGreatDoor
namespace Go.Proofs.YtkkfmkhbdoeglabGreatDoor
open Go.RowKit Go.Shelf
theorem py (q off:Nat) (w:World):Calls Tryz.prog 97 #[.pointer (some ⟨q,off,none⟩)] w fun e w' =>
  e = .returned (.func (.func 135) #[] #[.pointer (some ⟨w.heap.size,0,none⟩)])∧w'=w.alloc (.cells #[.pointer (some ⟨q,off,none⟩)] 219):=by
 go_enter Tryz.func97,Tryz.ntmps97
 go_wp2
 go_ret
 exact ⟨rfl,rfl⟩
theorem sB (fb q r:Nat) (S:List E) (w:World) (he:jS w fb q r S) (m:S.length≤1000000000) :
  Calls Tryz.prog 49 #[.pointer (some ⟨fb,0,none⟩)] w fun e w'=>∃ v,e = .returned (.tuple #[v,.bool true])∧iJ w' v S∧(∀ k,v.ownBlock=some k→w.heap.size≤k)∧Below w.heap.size w w':=by
 have hc:=he.cell
 have d:=he.ent.cell
 have b:Below w.heap.size w (w.alloc (.cells #[.pointer (some ⟨q,0,none⟩)] 219)):=(Below.refl _ w).alloc (af _) _
 have i:=ab (wH w.heap.size q 0 r S (w.alloc (.cells #[.pointer (some ⟨q,0,none⟩)] 219)) (by simp) (ae _ _ 0 _ _ _ (fR w _)) (he.below b).ent m)
 clear he
 go_enter Tryz.func49,Tryz.ntmps49
 go_wp2_with fail
 refine (py q 0 w).mono ?_
 rintro e w1 ⟨rfl,rfl⟩
 go_wp2_with fail
 refine i.out.mono ?_
 rintro e w2 ⟨v,rfl,o,j,l⟩
 clear hc d i
 go_wp2
 go_ret2
 exact ⟨v,rfl,o,fun k e=>aH b.size (j k e),b.trans (l.mono b.size)⟩
end Go.Proofs.YtkkfmkhbdoeglabGreatDoor
namespace Go.Proofs.YtkkfmkhbdoeglabGreatDoor
open Go.RowKit
theorem pC {o:OpB} {b:List K} (h:iD o b=0):(gS o).length≤12∧o.key.length≤6∧o.val.length≤4:=by
 obtain ⟨h1,h2,h3,h4,h5,h6⟩:=ny h
 have hk:=js h4
 have d:fS o.table≤6:=by unfold fS;split <;> (try split) <;> omega
 have i:o.val.length≤4:=by
  unfold o5 at h6
  split at h6
  ·have:o.val=[]:=by simpa using h6
   rw [this];simp
  ·rw [iT h2 h3 h6]
   unfold gw;split <;> (try split) <;> omega
 rw [nS]
 omega
theorem jl:∀ (os:List OpB) (i:Nat) (b:List K) (_:gi i b os=none) (k:Nat) (hk:k<os.length),∃ d,iD os[k] d=0
 | o::os,i,b,h,0,hk=>by
  unfold gi at h
  split at h
  ·rename_i j;exact ⟨b,j⟩
  ·cases h
 | o::os,i,b,h,k+1,hk=>by
  unfold gi at h
  split at h
  ·exact jl os _ _ h k (by simpa using hk)
  ·cases h
theorem yg (os:List OpB) (k:Nat) (h:k<os.length):(os.take (k+1)).flatMap gS=(os.take k).flatMap gS++gS os[k]:=by
 rw [aT h,eA]
 simp
theorem Hl (os:List OpB) (k:Nat) (h:∀ o∈os,(gS o).length≤12):((os.take k).flatMap gS).length≤12*k:=by
 induction k with
 | zero=>simp
 | succ k ih =>
  by_cases hk:k<os.length
  ·rw [yg os k hk,aq]
   have:=h os[k] (cD hk)
   omega
  ·rw [aQ (by omega)] at ih⊢
   omega
def oS (v:Nat) (os:List OpB) (k:Nat):List UInt8:=be8 v++[UInt8.ofNat os.length]++(os.take k).flatMap gS
theorem Cs (v:Nat) (os:List OpB):oS v os 0=be8 v++[UInt8.ofNat os.length]:=by simp [oS]
theorem yc (v:Nat) (os:List OpB):oS v os os.length=jb v os:=by simp [oS,jb]
theorem Cr (v:Nat) (os:List OpB) (k:Nat) (h:k<os.length):oS v os (k+1)=oS v os k++gS os[k]:=by
 unfold oS
 rw [yg os k h,←bj]
theorem Aw (v:Nat) (os:List OpB) (k:Nat) (h:∀ o∈os,(gS o).length≤12):(oS v os k).length≤9+12*k:=by
 unfold oS
 have:=Hl os k h
 rw [aq,aq,gm,dt]
 omega
theorem vr (v:Nat) (b:Value) (os:List OpB) (w:World) (hs:ix w b os) (s:ShapesVar w) (i:lF os) (f:Nat×Nat) (hw:gK v os=some f) :
  Calls Tryz.prog 122 #[.agg #[.int .u64 v,b]] w fun e w'=>∃ ev,e = .returned (.tuple #[.slice none 0 0,ev])∧ja w' w.heap.size ev f.1 f.2∧Below w.heap.size w w':=by
 have j:ix (w.alloc (.cells #[.int .u64 (v:Int),b] 51)) b os:=hs.below ((Below.refl _ w).alloc (af _) _)
 have u:=ab hw
 clear hw
 go_enter Tryz.func122,Tryz.ntmps122
 go_wp2_with fail
 refine (oh v b os _ j (s.alloc _) i).mono ?_
 rintro e w1 ⟨⟨r,rfl,fp,rfl,l⟩,m⟩
 rw [u.out] at l
 obtain ⟨g,rfl,o,d⟩:=l
 have q:=ab d
 clear d
 go_wp2
 go_ret2
 exact ⟨_,rfl,⟨g,rfl,by simp at o;omega,q.out⟩,((Below.refl _ w).alloc (af _) _).trans (m.mono (by simp))⟩
theorem zR (v:Nat) (M:Value) (os:List OpB) (w:World) (hs:ix w M os) (hg:ShapesVar w) (a7:lF os) (hw:gK v os=none) :
  Calls Tryz.prog 122 #[.agg #[.int .u64 v,M]] w fun e w'=>∃ bv,e = .returned (.tuple #[bv,.nilIface])∧OwnS w' w.heap.size 1 bv (jb v os).length (u8s (jb v os))∧Below w.heap.size w w':=by
 have N:ix (w.alloc (.cells #[.int .u64 (v:Int),M] 51)) M os:=hs.below ((Below.refl _ w).alloc (af _) _)
 have HW:=ab hw
 have Y:isVersionB v=true∧1≤os.length∧os.length≤8∧gi 0 [] os=none:=by
  unfold gK at hw
  split at hw
  ·cases hw
  ·split at hw
   ·cases hw
   ·rename_i h1 h2
    exact ⟨by simpa using h1,by omega,by omega,hw⟩
 clear hw
 obtain ⟨Y,h1,h8,al⟩:=Y
 have a9:=lj Y
 have am:=ab al
 clear al Y
 go_enter Tryz.func122,Tryz.ntmps122
 go_wp2_with fail
 refine (oh v M os _ N (hg.alloc _) a7).mono ?_
 rintro e w1 ⟨⟨r,rfl,fp,rfl,hf⟩,O⟩
 rw [HW.out] at hf
 obtain rfl:fp=none:=hf
 have Q:=ab (N.below O)
 obtain ⟨a,cap,rfl,bP,-⟩:=Q.out.opened
 have B1:=ab (fQ O (by simp) (fR w (.cells #[.int .u64 (v:Int),.slice a os.length cap] 51)))
 have c0:w1.cell? ⟨w.heap.size,0,none⟩=some (.int .u64 v):=ae _ _ 0 _ _ _ B1.out
 have c1:w1.cell? ⟨w.heap.size,1,none⟩=some (.slice a os.length cap):=ae _ _ 1 _ _ _ B1.out
 have bS:=fO B1.out
 clear hs N
 have hX:((UInt8.ofNat os.length).toNat:Int)=IntKind.u8.wrap (os.length:Int):=by
  rw [IntWalk.u8_in _ (by omega)]
  simp;omega
 have x:=fun w=>qn w (UInt8.ofNat os.length)
 rw [hX] at x
 have cl:(os.length:Int)≤8:=by omega
 go_wp2
 go_region_held3 (fun w'=>w'.cell? ⟨w.heap.size,0,none⟩=some (.int .u64 v)∧w'.cell? ⟨w.heap.size,1,none⟩=some (.slice a os.length cap))
  (first | go_keep | exact ⟨d0,d1⟩ | exact ⟨e0,e1⟩)
  ((first
    | (go_at_call 160;refine (rS _ (.slice none 0 0) [] v _ (OwnS.nil _ _ _) (af _) (by simp [gF]) a9).mono ?_;rintro e w2 ⟨bv,rfl,u,m⟩;simp only [aJ,bG,aO] at u;
       have d0:w2.cell? ⟨w.heap.size,0,none⟩=some (.int .u64 v):=(m.cell (p:=⟨w.heap.size,0,none⟩) (by simp;omega)).trans (by first | exact c0 | go_keep);
       have d1:w2.cell? ⟨w.heap.size,1,none⟩=some (.slice a os.length cap):=(m.cell (p:=⟨w.heap.size,1,none⟩) (by simp;omega)).trans (by first | exact c1 | go_keep))
    | (refine qy rfl (.tmp 16) (.tmp 21) rfl _ bv 8 (be8 v) rfl (by first | exact u | exact u.below ((Below.refl _ w2).alloc (af _) _)) [UInt8.ofNat os.length] (by first | exact x _ | exact BytesAt.below (w:=(w1.alloc _).drew) (x w1) m) (by simp) (by have h9:=m.size;simp at h9⊢;omega) ?_;intro v3 w3 F _ y;
       have e0:w3.cell? ⟨w.heap.size,0,none⟩=some (.int .u64 v):=(y.cell (p:=⟨w.heap.size,0,none⟩) (by simp;omega)).trans (by first | exact d0 | go_keep);
       have e1:w3.cell? ⟨w.heap.size,1,none⟩=some (.slice a os.length cap):=(y.cell (p:=⟨w.heap.size,1,none⟩) (by simp;omega)).trans (by first | exact d1 | go_keep))))
 all_goals
  have G:OwnS w3 w1.heap.size 1 v3 (be8 v++[UInt8.ofNat os.length]).length (u8s (be8 v++[UInt8.ofNat os.length])):=by
   rw [aq,gm]
   exact F.mono (by simp)
  have R:Below w1.heap.size w1 w3:=by
   first
    | exact ((((Below.refl w1.heap.size w1).drew).trans m).alloc m.size _).trans y
    | exact ((((Below.refl w1.heap.size w1).alloc (af _) _).drew).trans (m.mono (by simp))).trans (y.mono (by simp))
  clear F y u m d0 d1 x hX c0 c1
  have bo:=ab (Q.out.below R)
  have bX:w1.heap.size≤w3.heap.size:=R.size
 all_goals go_wp2
 all_goals
  go_loopw [5,26] (fun c5 i wr=>∃ k:Nat,k≤os.length∧i = .int .i64 k∧OwnS wr w1.heap.size 1 c5 (oS v os k).length (u8s (oS v os k))∧Below w1.heap.size w1 wr) (fun _ i _=>os.length-(intOf i).toNat)
  case atStart=>exact ⟨0,by omega,rfl,by rw [Cs];exact G,R⟩
  case round =>
   obtain ⟨k,hk,rfl,l,I⟩:=hrel
   clear bo G e0 e1
   have br:=I.size
   by_cases S:k<os.length
   ·obtain ⟨a',cap',he,bs,hx⟩:=(Q.out.below I).opened
    cases he
    obtain ⟨b,off,rfl,c0,c1,c2,c3⟩:=hx k S
    clear hx bs
    obtain ⟨ks,B⟩:=jl os 0 [] am.out k S
    obtain ⟨U,ap,av,-⟩:=ny B
    obtain ⟨bw,aE,a0⟩:=pC B
    have bx:=ab (Cr v os k S)
    have bz:=Aw v os k (fun o V=>by
     obtain ⟨j,hj,rfl⟩:=List.mem_iff_getElem.1 V
     obtain ⟨ks,B⟩:=jl os 0 [] am.out j hj
     exact (pC B).1)
    obtain ⟨P,Z⟩:∃ P,P=oS v os k:=⟨_,rfl⟩
    have co:P.length≤200:=by rw [Z];omega
    rw [←Z] at l
    have HP:=ab Z
    clear Z bz
    obtain ⟨d,T,q,s,V⟩:∃ d T q s,os[k]=⟨d,T,q,s⟩:=⟨_,_,_,_,rfl⟩
    rw [V] at c0 c1 c2 c3 U ap av aE a0
    have HO:=ab V
    clear V B bw
    simp only at U ap av aE a0
    have cp:=fU c0
    have b5:(k:Int)<os.length:=by omega
    have b6:1≤d:=by omega
    have b7:d≤2:=by omega
    clear U
    obtain ⟨C,a1⟩:∃ C:UInt8,(C.toNat:Int)=d∧C=UInt8.ofNat d.toNat:=⟨UInt8.ofNat d.toNat,by simp;omega,rfl⟩
    obtain ⟨D,a2⟩:∃ D:UInt8,(D.toNat:Int)=T∧D=UInt8.ofNat T.toNat:=⟨UInt8.ofNat T.toNat,by simp;omega,rfl⟩
    have a3:=ab a1
    have a4:=ab a2
    clear a1 a2
    have a5:=fR wr (.cells #[.int .i64 d,.int .i64 T,.string ⟨q.toArray⟩,.string ⟨s.toArray⟩] 105)
    have bD:=ab (fX (wr.alloc (.cells #[.int .i64 d,.int .i64 T,.string ⟨q.toArray⟩,.string ⟨s.toArray⟩] 105)) (.cells #[.int .u8 d,.int .u8 T] 5) a5)
    clear a5
    have W:u5.ownBlock≠some wr.heap.size:=fun e=>by have:=l.gP _ e;omega
    have J:OwnS ((wr.alloc (.cells #[.int .i64 d,.int .i64 T,.string ⟨q.toArray⟩,.string ⟨s.toArray⟩] 105)).alloc (.cells #[.int .u8 d,.int .u8 T] 5)) w1.heap.size 1 u5 P.length (u8s P):=l.below (((Below.refl _ wr).alloc (af _) _).alloc (by simp) _)
    have E:=I2 (wr.alloc (.cells #[.int .i64 d,.int .i64 T,.string ⟨q.toArray⟩,.string ⟨s.toArray⟩] 105)) C D d T a3.out.1 a4.out.1
    simp only [aw] at E
    have bb:=ab E
    have bc:=ab J
    clear E J l
    go_wp2_with (first
     | (at_builtin;refine kZ rfl (.tmp 30) (.tmp 38) 112 rfl w1.heap.size u5 P.length P rfl bc.out [C,D] (by exact (BytesAt.src bb.out)) (by simp;omega) (by simp;omega) ?_;intro v5 w5 aa bH X be;
        have B5:=ab (iN bH W bD.out);
        have k5:=be wr.heap.size (by simp;omega) W;
        have q1:w5.cell? ⟨wr.heap.size,2,none⟩=some (.string ⟨q.toArray⟩):=ae _ _ 2 _ _ _ B5.out;have cq:=fO B5.out)
     | (at_builtin;refine kZ rfl (.tmp 40) (.tmp 43) 9 rfl w1.heap.size v5 _ _ rfl aa q (by exact zC q) (by simp;omega) (by have:=X.size;simp at this⊢;omega) ?_;intro v6 w6 ag bI a6 cb;
        have B6:=ab (iN bI k5 B5.out);
        have q2:w6.cell? ⟨wr.heap.size,3,none⟩=some (.string ⟨s.toArray⟩):=ae _ _ 3 _ _ _ B6.out;have cr:=fO B6.out)
     | (at_builtin;refine kZ rfl (.tmp 45) (.tmp 47) 9 rfl w1.heap.size v6 _ _ rfl ag s (by exact zC s) (by simp;omega) (by have:=X.size;have:=a6.size;simp at *;omega) ?_;intro v7 w7 ak cs bM ce))
    go_roundw
    case rel =>
     refine ⟨v7,_,.int .i64 ((k:Int)+1),⟨k+1,by omega,by go_num,?_,?_⟩,rfl,rfl,(IntWalk.u8_in _ (by omega)).symm,rfl⟩
     ·have e:P++[C,D]++q++s=oS v os (k+1):=by
       rw [bx.out,HO.out,HP.out,a3.out.2,a4.out.2]
       simp [gS]
      have e2:P.length+[C,D].length+q.length+s.length=(P++[C,D]++q++s).length:=by simp only [aq]
      rw [←e,←e2]
      exact ak
     ·exact ((((I.alloc br _).alloc (by simp;omega) _).trans X).trans a6).trans bM
    case measure=>simp [intOf];omega
   ·obtain rfl:k=os.length:=by omega
    rw [yc] at l
    have ct:¬(os.length:Int)<os.length:=by omega
    go_wp2
    go_ret2
    exact ⟨_,rfl,l.mono (by omega),(((Below.refl _ w).alloc (af _) _).trans (O.mono (by simp))).trans (I.mono (by omega))⟩
end Go.Proofs.YtkkfmkhbdoeglabGreatDoor
namespace Go.Proofs.YtkkfmkhbdoeglabGreatDoor
open Go.RowKit
theorem FW:(Tryz.prog.info? 105).map (fun i=>(i.zero,i.size,i.bytes))=some (some (.agg #[.int .i64 0,.int .i64 0,.string ⟨#[]⟩,.string ⟨#[]⟩]),4,48):=by kernel_rfl
theorem Be (os:List OpB):∀ u∈gx os,u.oneCell'=true:=by
 intro u hu
 unfold gx at hu
 rw [List.mem_flatMap] at hu
 obtain ⟨o,_,hu⟩:=hu
 simp only [aP,fh,or_false] at hu
 rcases hu with rfl | rfl | rfl | rfl <;> rfl
theorem wM (w:World) (o:OpB):ix (w.alloc (.cells #[.int .i64 o.kind,.int .i64 o.table,.string ⟨o.key.toArray⟩,.string ⟨o.val.toArray⟩] 105)) (.slice (some ⟨w.heap.size,0,none⟩) 1 1) [o] :=
 (OwnS.new w #[.int .i64 o.kind,.int .i64 o.table,.string ⟨o.key.toArray⟩,.string ⟨o.val.toArray⟩] 105 0 0 0 4 1 1 (aM _) (by omega) (by decide) (by simp) (.inl (by omega))).sliceAt
theorem ix.src {w:World} {v:Value} {os:List OpB} (h:ix w v os):Src Tryz.prog 4 49 v os.length (gx os) w:=fW.src Tryz.underlying49 h (Be os)
theorem Ab {w w':World} {k n:Nat} {v v':Value} {news:List Value}
  (h3:(∃ g off cap,v = .slice (some ⟨g,off,none⟩) n cap∧v' = .slice (some ⟨g,off,none⟩) (n+k) cap∧w'=w.setCells g (off+n*4) news)∨v' = .slice none 0 0∨∃ cap,v' = .slice (some ⟨w.heap.size,0,none⟩) (n+k) cap∧Below w.heap.size w w') :
  ∀ b,b<w.heap.size→v.ownBlock≠some b→v'.ownBlock≠some b:=by
 intro b i d
 rcases h3 with ⟨g,off,cap,rfl,rfl,_⟩ | rfl | ⟨cap,rfl,_⟩
 ·exact d
 ·simp [Value.ownBlock]
 ·simp [Value.ownBlock];omega
theorem uS {ops:Array Oper} {o:Oper} {a:Act} {K:Act→World→Prop} {Q:Exit→Act→World→Prop} {E:Prop} {w:World} (l:o.guard=none) (s x:Operand)
  (r:o.op = .call {callee := .builtin .append,args:=#[s,x],argTypes:=#[49,49]})
  (base:Nat) (v:Value) (os:List OpB) (u:a.eval s=v) (i:OwnS w base 4 v os.length (gx os)) (us:List OpB) (hs:ix w (a.eval x) us)
  (hlen:os.length+us.length≤2932031007402) (d:base≤w.heap.size)
  (h:∀ v' w',OwnS w' base 4 v' (os++us).length (gx (os++us))→w.grownBy w' v.ownBlock→Below base w w'→(∀ b,b<w.heap.size→v.ownBlock≠some b→v'.ownBlock≠some b)→
   K (a.put o.dst v') w'):if Region.wanted o (yielded ops a.tmps)=true then Oper.wp Tryz.prog o a w K Q else E:=by
 have hw:Region.wanted o (yielded ops a.tmps)=true:=by simp [Region.wanted,l]
 rw [aD hw]
 obtain ⟨i0,y,m,j,q⟩:=dD FW
 have hmx:maxLen=9223372036854775807:=rfl
 refine oG s x _ _ r base 4 105 i0 _ Tryz.underlying49 y m j (by rw [j];rfl) (by omega) v os.length (gx os) u i us.length (gx us) hs.src (by omega) (by rw [q];omega) d (fun v' w' h1 h2 h3 => ?_)
 rw [←nT,←aq] at h1
 exact h v' w' h1 h2 (ik i h2 d) (Ab h3)
theorem jN {ops:Array Oper} {rest:List Oper} {o:Oper} {a:Act} {Q:Exit→Act→World→Prop} {w:World} (l:o.guard=none) (s x:Operand)
  (r:o.op = .call {callee := .builtin .append,args:=#[s,x],argTypes:=#[49,49]})
  (base:Nat) (v:Value) (os:List OpB) (u:a.eval s=v) (i:OwnS w base 4 v os.length (gx os)) (us:List OpB) (hs:ix w (a.eval x) us)
  (hlen:os.length+us.length≤2932031007402) (d:base≤w.heap.size)
  (h:∀ v' w',OwnS w' base 4 v' (os++us).length (gx (os++us))→w.grownBy w' v.ownBlock→Below base w w'→(∀ b,b<w.heap.size→v.ownBlock≠some b→v'.ownBlock≠some b)→
   wpList Tryz.prog ops Q rest (a.put o.dst v') w'):wpList Tryz.prog ops Q (o::rest) a w:=by
 obtain ⟨i0,y,m,j,q⟩:=dD FW
 have hmx:maxLen=9223372036854775807:=rfl
 refine kq l s x _ _ r base 4 105 i0 _ Tryz.underlying49 y m j (by rw [j];rfl) (by omega) v os.length (gx os) u i us.length (gx us) hs.src (by omega) (by rw [q];omega) d (fun v' w' h1 h2 h3 => ?_)
 rw [←nT,←aq] at h1
 exact h v' w' h1 h2 (ik i h2 d) (Ab h3)
theorem OwnS.shape {w:World} {base k:Nat} {v:Value} {n:Nat} {xs:List Value} (h:OwnS w base k v n xs):∃ a cap,v = .slice a n cap:=by
 obtain ⟨_,⟨rfl,rfl⟩ | ⟨g,off,cap,rfl,_⟩⟩:=h
 ·exact ⟨none,0,rfl⟩
 ·exact ⟨_,cap,rfl⟩
theorem OwnS.ops {w:World} {base:Nat} {v:Value} {os:List OpB} (h:OwnS w base 4 v os.length (gx os)):ix w v os:=h.sliceAt
end Go.Proofs.YtkkfmkhbdoeglabGreatDoor
namespace Go.Proofs.YtkkfmkhbdoeglabGreatDoor
open Go.RowKit
def CellsOf (w:World) (v:Value) (e:TypeId):Prop:=∀ b,v.ownBlock=some b→∃ C fz,w.heap[b]?=some (.cells C e fz)
theorem rC (g:Nat):∀ (d:List Value) (o:Nat) (w:World) {C:Array Value} {e:TypeId} {fz:Nat×Nat},w.heap[g]?=some (.cells C e fz)→∃ b,(w.setCells g o d).heap[g]?=some (.cells b e fz)
 | [],_,_,C,_,_,h=>⟨C,h⟩
 | v::d,o,w,C,e,fz,h=>by
  simp only [World.setCells]
  have h1:∃ b,(w.setCell ⟨g,o,none⟩ v).heap[g]?=some (.cells b e fz):=by
   obtain ⟨i,hk⟩:=cm.1 h
   have j:(w.setCell ⟨g,o,none⟩ v).heap[g]?=some ((w.setCell ⟨g,o,none⟩ v).heap[g]'(by rw [size_setCell];exact i)):=cx _
   rw [j]
   simp only [World.setCell,Array.getElem_modify_self,hk]
   exact ⟨_,rfl⟩
  obtain ⟨b,h1⟩:=h1
  exact rC g d (o+1) _ h1
theorem jR {P:Program} (w:World) (base:Nat) (t r ty e:TypeId) (i:TypeInfo) (z:Value) (D:P.underlying t=some (.slice e)) (E:P.info? e=some i) (R:i.zero=some z) (S:z.cells.size=i.size) (U:0<i.size)
  (v:Value) (n:Nat) (xs:List Value) (s:OwnS w base i.size v n xs) (Y:CellsOf w v e) (x:Value) (m:Nat) (news:List Value) (hs:Src P i.size r x m news w)
  (V:n+m≤maxLen) (l:(n+m)*i.bytes≤140737488355328) (F:base≤w.heap.size) :
  ∃ v' w',(Builtin.append_ #[t,r] ty #[v,x]).run P w = .ok v' w'∧OwnS w' base i.size v' (n+m) (xs++news)∧w.grownBy w' v.ownBlock∧CellsOf w' v' e:=by
 have hmx:maxLen=9223372036854775807:=rfl
 obtain ⟨v',w',G,h1,h2,h3⟩:=j6 (P:=P) w base t r ty e i z D E R S U v n xs s x m news hs V l F
 refine ⟨v',w',G,h1,h2,?_⟩
 rcases h3 with ⟨g,off,cap,rfl,rfl,rfl⟩ | rfl | ⟨cap',rfl,-⟩
 ·intro b y
  obtain rfl:g=b:=by simpa [Value.ownBlock] using y
  obtain ⟨C,fz,Z⟩:=Y g rfl
  obtain ⟨C',W⟩:=rC g news (off+n*i.size) w Z
  exact ⟨C',fz,W⟩
 ·intro b y
  simp [Value.ownBlock] at y
 ·have key:∀ (d:Option Addr) (gr:Nat),v = .slice d n gr→gr<n+m→(Builtin.firstCells i.size n (.slice d n gr)).run P w.drew = .ok xs.toArray w.drew→CellsOf w' (.slice (some ⟨w.heap.size,0,none⟩) (n+m) cap') e:=by
   intro d gr M X N
   subst M
   have B:=run_append_grow_src (P:=P) w t r ty e i z D E R d n gr xs N x m news hs X (by omega) (growslice_fits X l)
   have hw:=G.symm.trans B
   injection hw with _ hw
   subst hw
   intro b y
   obtain rfl:w.heap.size=b:=by simpa [Value.ownBlock] using y
   exact ⟨_,_,fR w.drew _⟩
  obtain ⟨J,⟨rfl,rfl⟩ | ⟨g,off,cap,rfl,al,am,ap,av,I,o⟩⟩:=s
  ·have hx:xs=[]:=bK (by simpa using J)
   subst hx
   by_cases hm:m=0
   ·subst hm
    have hn:news=[]:=bK (by simpa using hs.newsLen)
    subst hn
    have hl:=hs.len w
    have hc:=hs.cells
    have O:(Builtin.append_ #[t,r] ty #[.slice none 0 0,x]).run P w = .ok (.slice none 0 0) w:=by
     rcases hs.kind with ⟨e',hk⟩ | hk <;> simp [Builtin.append_,aL D,aL hk,sizeOf,typeInfo,E,hl,hc]
    have hw:=G.symm.trans O
    cases hw
   ·exact key none 0 rfl (by omega) (fq w.drew i.size 0 0 0)
  ·by_cases q:n+m≤cap
   ·have aE:n*i.size+news.length≤cap*i.size:=by rw [hs.newsLen,←Nat.add_mul];exact cR _ q
    have hc:∀ j,j<news.length→(w.cell? ⟨g,off+n*i.size+j,none⟩).isSome=true:=fun j Q=>by
     have:=(o (n*i.size+j) (by omega)).1
     rw [aW];exact this
    have N:∀ j,j<news.length→w.frozen? ⟨g,off+n*i.size+j,none⟩=false:=fun j Q=>by
     have:=(o (n*i.size+j) (by omega)).2
     rw [aW];exact this
    have B:=run_append_room_src (P:=P) w t r ty e i D E g off n cap x m news hs q hc N
    have hw:=G.symm.trans B
    injection hw with hw _
    injection hw with hw _
    injection hw with hw
    injection hw with hw
    omega
   ·refine key (some ⟨g,off,none⟩) cap rfl (by omega) (run_firstCells_some w.drew i.size n ⟨g,off,none⟩ n cap xs J (fun j u hu => ?_))
    obtain ⟨Q,M⟩:=aF.1 hu
    rw [←M]
    rw [eZ]
    exact I j Q
theorem pO {P:Program} {ops:Array Oper} {rest:List Oper} {o:Oper} {a:Act} {Q:Exit→Act→World→Prop} {w:World} (q:o.guard=none) (s x:Operand) (t j:TypeId)
  (B:o.op = .call {callee := .builtin .append,args:=#[s,x],argTypes:=#[t,j]})
  (base k:Nat) (e:TypeId) (i:TypeInfo) (z:Value) (C:P.underlying t=some (.slice e)) (D:P.info? e=some i) (E:i.zero=some z) (hk:i.size=k) (r:z.cells.size=i.size) (u:0<i.size)
  (v:Value) (n:Nat) (xs:List Value) (F:a.eval s=v) (l:OwnS w base k v n xs) (G:CellsOf w v e) (m:Nat) (news:List Value) (hs:Src P k j (a.eval x) m news w)
  (y:n+m≤maxLen) (b:(n+m)*i.bytes≤140737488355328) (d:base≤w.heap.size)
  (h:∀ v' w',OwnS w' base k v' (n+m) (xs++news)→w.grownBy w' v.ownBlock→CellsOf w' v' e→wpList P ops Q rest (a.put o.dst v') w'):wpList P ops Q (o::rest) a w:=by
 subst hk
 obtain ⟨v',w',I,h1,h2,h3⟩:=jR (P:=P) w base t j o.type e i z C D E r u v n xs l G (a.eval x) m news hs y b d
 refine eK q fun K hK => ?_
 unfold Oper.wp execOp
 simp only [B,resolve,invoke,builtin,cn,fM,cg,eF,bq,du,F,I]
 exact hK _ _ (h v' w' h1 h2 h3)
theorem lp {F:Fence} (hF:∀ f,F.fn f) {nF:Nat} {P:Program} {ops:Array Oper} {rest:List Oper} {o:Oper} {a:Act} {Q:Exit→Act→World→Prop} {w:World} (q:o.guard=none) (s x:Operand) (t j:TypeId)
  (r:o.op = .call {callee := .builtin .append,args:=#[s,x],argTypes:=#[t,j]})
  (base k:Nat) (e:TypeId) (i:TypeInfo) (z:Value) (C:P.underlying t=some (.slice e)) (D:P.info? e=some i) (E:i.zero=some z) (hk:i.size=k) (u:z.cells.size=i.size) (y:0<i.size)
  (v:Value) (n:Nat) (xs:List Value) (G:a.eval s=v) (l:OwnS w base k v n xs) (I:CellsOf w v e) (m:Nat) (news:List Value) (hs:Src P k j (a.eval x) m news w)
  (B:n+m≤maxLen) (b:(n+m)*i.bytes≤140737488355328) (d:base≤w.heap.size)
  (h:∀ v' w',OwnS w' base k v' (n+m) (xs++news)→w.grownBy w' v.ownBlock→CellsOf w' v' e→wpListIn F nF P ops Q rest (a.put o.dst v') w'):wpListIn F nF P ops Q (o::rest) a w:=by
 subst hk
 obtain ⟨v',w',J,h1,h2,h3⟩:=jR (P:=P) w base t j o.type e i z C D E u y v n xs l I (a.eval x) m news hs B b d
 refine wpListIn_plain q fun K hK => ?_
 unfold Oper.wpIn
 refine ⟨fun f _=>hF f,?_⟩
 rw [Oper.semAt_eq _ _ _ (fun c hc=>by rw [r] at hc;cases hc)]
 unfold execOp
 simp only [r,resolve,invoke,builtin,cn,fM,cg,eF,bq,du,G,J]
 exact hK _ _ (h v' w' h1 h2 h3)
theorem rX {P:Program} {o:Oper} {a:Act} {K:Act→World→Prop} {Q:Exit→Act→World→Prop} {w:World} (s x:Operand) (t j:TypeId)
  (y:o.op = .call {callee := .builtin .append,args:=#[s,x],argTypes:=#[t,j]})
  (base k:Nat) (e:TypeId) (i:TypeInfo) (z:Value) (B:P.underlying t=some (.slice e)) (C:P.info? e=some i) (D:i.zero=some z) (hk:i.size=k) (q:z.cells.size=i.size) (r:0<i.size)
  (v:Value) (n:Nat) (xs:List Value) (E:a.eval s=v) (l:OwnS w base k v n xs) (F:CellsOf w v e) (m:Nat) (news:List Value) (hs:Src P k j (a.eval x) m news w)
  (u:n+m≤maxLen) (b:(n+m)*i.bytes≤140737488355328) (d:base≤w.heap.size)
  (h:∀ v' w',OwnS w' base k v' (n+m) (xs++news)→w.grownBy w' v.ownBlock→CellsOf w' v' e→K (a.put o.dst v') w'):o.wp P a w K Q:=by
 subst hk
 obtain ⟨v',w',G,h1,h2,h3⟩:=jR (P:=P) w base t j o.type e i z B C D q r v n xs l F (a.eval x) m news hs u b d
 unfold Oper.wp execOp
 simp only [y,resolve,invoke,builtin,cn,fM,cg,eF,bq,du,E,G]
 exact h v' w' h1 h2 h3
end Go.Proofs.YtkkfmkhbdoeglabGreatDoor
namespace Go.Proofs.YtkkfmkhbdoeglabGreatDoor
open Go.RowKit
theorem CellsOf.alloc {w:World} {v:Value} {e:TypeId} (h:CellsOf w v e) (o:Obj):CellsOf (w.alloc o) v e:=fun b d=>by
 obtain ⟨C,fz,i⟩:=h b d
 exact ⟨C,fz,fX w o i⟩
theorem CellsOf.nil (w:World) (e:TypeId):CellsOf w (.slice none 0 0) e:=fun b d=>by simp [Value.ownBlock] at d
theorem kx {ops:Array Oper} {rest:List Oper} {o:Oper} {a:Act} {Q:Exit→Act→World→Prop} {w:World} (j:o.guard=none) (s x:Operand)
  (u:o.op = .call {callee := .builtin .append,args:=#[s,x],argTypes:=#[112,112]})
  (base:Nat) (v:Value) (n:Nat) (l:List UInt8) (y:a.eval s=v) (d:OwnS w base 1 v n (u8s l)) (B:CellsOf w v 5) (m:List UInt8) (hs:BytesAt w (a.eval x) m)
  (hlen:n+m.length≤140737488355328) (b:base≤w.heap.size)
  (h:∀ v' w',OwnS w' base 1 v' (n+m.length) (u8s (l++m))→w.grownBy w' v.ownBlock→CellsOf w' v' 5→Below base w w'→
   wpList Tryz.prog ops Q rest (a.put o.dst v') w'):wpList Tryz.prog ops Q (o::rest) a w:=by
 obtain ⟨i0,C,q,i,r⟩:=dD qd
 have hmx:maxLen=9223372036854775807:=rfl
 refine pO j s x _ _ u base 1 5 i0 (.int .u8 0) Tryz.underlying112 C q i (by rw [i];rfl) (by omega) v n (u8s l) y d B m.length (u8s m) (fW.src Tryz.underlying112 hs (oE m)) (by omega) (by rw [r];omega) b (fun v' w' h1 h2 h3 => ?_)
 rw [←j8] at h1
 exact h v' w' h1 h2 h3 (ik d h2 b)
theorem uu (base:Nat) (bv:Value) (l:List UInt8) (v:Nat) (w:World) (s:OwnS w base 1 bv l.length (u8s l)) (D:CellsOf w bv 5) (C:base≤w.heap.size) (hl:l.length≤gF) (_hv:v<18446744073709551616) :
  Calls Tryz.prog 160 #[bv,.int .u64 v] w fun e w'=>∃ d,e = .returned d∧OwnS w' base 1 d (l.length+8) (u8s (l++be8 v))∧CellsOf w' d 5∧Below base w w':=by
 unfold gF at hl
 go_enter Tryz.func160,Tryz.ntmps160
 go_wp2
 go_loopw [0,6] (fun x i wr=>∃ k:Nat,k≤8∧i = .int .i64 k∧OwnS wr base 1 x (l++(be8 v).take k).length (u8s (l++(be8 v).take k))∧CellsOf wr x 5∧Below base w wr) (fun _ i _=>8-(intOf i).toNat)
 case atStart=>exact ⟨0,by omega,rfl,by simpa using s,D,Below.refl _ _⟩
 case round =>
  obtain ⟨k,hk,rfl,b,q,j⟩:=hrel
  have r:=ab q
  clear q
  by_cases h8:k<8
  ·have u:((UInt8.ofNat (v / 2^(56-8*k))).toNat:Int)=(v:Int) / 2^(56-8*k)%256:=by simp
   have m:=qn wr (UInt8.ofNat (v / 2^(56-8*k)))
   rw [u] at m
   have E:=j.size
   have H:=ab (Af v k h8)
   have I:=ab u
   clear u
   have F:(k:Int)<8:=by omega
   have G:(l++(be8 v).take k).length≤140737488355100:=by rw [aq,az,gm];omega
   go_wp2_with (at_builtin;refine kx rfl (.tmp 9) (.tmp 16) rfl base _ _ (l++(be8 v).take k) rfl (b.below ((Below.refl _ wr).alloc (af _) _)) (r.out.alloc _) [UInt8.ofNat (v / 2^(56-8*k))] m (by simp only [ar,aJ];omega) (by simp;omega) ?_;intro v1 w1 o _ y B)
   go_roundw
   case rel =>
    refine ⟨k+1,by omega,by go_num,?_,y,(j.alloc (by omega) _).trans B⟩
    rw [H.out,←bj]
    rw [aq]
    exact o
   case measure=>simp [intOf];omega
  ·obtain rfl:k=8:=by omega
   rw [aQ (by rw [gm];omega)] at b
   go_wp2
   go_ret
   refine ⟨_,rfl,?_,r.out,j⟩
   rw [aq,gm] at b
   exact b
theorem lB {ops:Array Oper} {o:Oper} {a:Act} {K:Act→World→Prop} {Q:Exit→Act→World→Prop} {E:Prop} {w:World} (j:o.guard=none) (s x:Operand)
  (u:o.op = .call {callee := .builtin .append,args:=#[s,x],argTypes:=#[112,112]})
  (base:Nat) (v:Value) (n:Nat) (l:List UInt8) (y:a.eval s=v) (d:OwnS w base 1 v n (u8s l)) (B:CellsOf w v 5) (m:List UInt8) (hs:BytesAt w (a.eval x) m)
  (hlen:n+m.length≤140737488355328) (b:base≤w.heap.size)
  (h:∀ v' w',OwnS w' base 1 v' (n+m.length) (u8s (l++m))→w.grownBy w' v.ownBlock→CellsOf w' v' 5→Below base w w'→
   K (a.put o.dst v') w'):if Region.wanted o (yielded ops a.tmps)=true then Oper.wp Tryz.prog o a w K Q else E:=by
 have hw:Region.wanted o (yielded ops a.tmps)=true:=by simp [Region.wanted,j]
 rw [aD hw]
 obtain ⟨i0,C,q,i,r⟩:=dD qd
 have hmx:maxLen=9223372036854775807:=rfl
 refine rX s x _ _ u base 1 5 i0 (.int .u8 0) Tryz.underlying112 C q i (by rw [i];rfl) (by omega) v n (u8s l) y d B m.length (u8s m) (fW.src Tryz.underlying112 hs (oE m)) (by omega) (by rw [r];omega) b (fun v' w' h1 h2 h3 => ?_)
 rw [←j8] at h1
 exact h v' w' h1 h2 h3 (ik d h2 b)
end Go.Proofs.YtkkfmkhbdoeglabGreatDoor
namespace Go.Proofs.YtkkfmkhbdoeglabGreatDoor
open Go.RowKit
theorem qZ {F:Fence} (hF:∀ f,F.fn f) {nF:Nat} {ops:Array Oper} {rest:List Oper} {o:Oper} {a:Act} {Q:Exit→Act→World→Prop} {w:World} (j:o.guard=none) (s x:Operand)
  (u:o.op = .call {callee := .builtin .append,args:=#[s,x],argTypes:=#[112,112]})
  (base:Nat) (v:Value) (n:Nat) (l:List UInt8) (y:a.eval s=v) (d:OwnS w base 1 v n (u8s l)) (B:CellsOf w v 5) (m:List UInt8) (hs:BytesAt w (a.eval x) m)
  (hlen:n+m.length≤140737488355328) (b:base≤w.heap.size)
  (h:∀ v' w',OwnS w' base 1 v' (n+m.length) (u8s (l++m))→w.grownBy w' v.ownBlock→CellsOf w' v' 5→Below base w w'→
   wpListIn F nF Tryz.prog ops Q rest (a.put o.dst v') w'):wpListIn F nF Tryz.prog ops Q (o::rest) a w:=by
 obtain ⟨i0,C,q,i,r⟩:=dD qd
 have hmx:maxLen=9223372036854775807:=rfl
 refine lp hF j s x _ _ u base 1 5 i0 (.int .u8 0) Tryz.underlying112 C q i (by rw [i];rfl) (by omega) v n (u8s l) y d B m.length (u8s m) (fW.src Tryz.underlying112 hs (oE m)) (by omega) (by rw [r];omega) b (fun v' w' h1 h2 h3 => ?_)
 rw [←j8] at h1
 exact h v' w' h1 h2 h3 (ik d h2 b)
theorem mW {F:Fence} (hF:∀ f,F.fn f) {nF:Nat} {ops:Array Oper} {rest:List Oper} {o:Oper} {a:Act} {Q:Exit→Act→World→Prop} {w:World} (j:o.guard=none) (s x:Operand)
  (u:o.op = .call {callee := .builtin .append,args:=#[s,x],argTypes:=#[112,9]})
  (base:Nat) (v:Value) (n:Nat) (l:List UInt8) (y:a.eval s=v) (d:OwnS w base 1 v n (u8s l)) (B:CellsOf w v 5) (m:List UInt8) (hs:a.eval x = .string ⟨m.toArray⟩)
  (hlen:n+m.length≤140737488355328) (b:base≤w.heap.size)
  (h:∀ v' w',OwnS w' base 1 v' (n+m.length) (u8s (l++m))→w.grownBy w' v.ownBlock→CellsOf w' v' 5→Below base w w'→
   wpListIn F nF Tryz.prog ops Q rest (a.put o.dst v') w'):wpListIn F nF Tryz.prog ops Q (o::rest) a w:=by
 obtain ⟨i0,C,q,i,r⟩:=dD qd
 have hmx:maxLen=9223372036854775807:=rfl
 refine lp hF j s x _ _ u base 1 5 i0 (.int .u8 0) Tryz.underlying112 C q i (by rw [i];rfl) (by omega) v n (u8s l) y d B m.length (u8s m) (by rw [hs];exact zC m) (by omega) (by rw [r];omega) b (fun v' w' h1 h2 h3 => ?_)
 rw [←j8] at h1
 exact h v' w' h1 h2 h3 (ik d h2 b)
theorem CellsOf.kept {w w':World} {v:Value} {e:TypeId} {row:Option Nat} (h:CellsOf w v e) (j:w.grownBy w' row) (l:∀ b,v.ownBlock=some b→row≠some b):CellsOf w' v e:=fun b d=>by
 obtain ⟨C,fz,i⟩:=h b d
 exact ⟨C,fz,(j.block b (fO i) (fun e=>l b d e.symm)).trans i⟩
structure jm (base B:Nat) (l:List UInt8) (v:Value) (W:World):Prop where
 box:Boxed W B 112 v
 own:OwnS W base 1 v l.length (u8s l)
 typ:CellsOf W v 5
 lo:base≤B
section
variable {base B:Nat} {l m:List UInt8} {v v':Value} {W w1:World}
theorem jm.apart (h:jm base B l v W) {j:Nat} {cs:Array Value} {t':TypeId} {fz:Nat×Nat} (d:W.heap[j]?=some (.cells cs t' fz)) (i:t'≠5):v.ownBlock≠some j:=fun e=>by
 obtain ⟨C,m,b⟩:=h.typ j e
 rw [d] at b
 cases b
 exact i rfl
theorem jm.IN (h:jm base B l v W):v.ownBlock≠some B:=h.apart h.box (by decide)
theorem jm.kept {row:Option Nat} (h:jm base B l v W) (i:W.grownBy w1 row) (j:∀ r,row=some r→∃ o:Obj,W.heap[r]?=some o∧o.isCells=false):jm base B l v w1 :=
 have h1:∀ b,v.ownBlock=some b→row≠some b:=fun b m e=>by
  obtain ⟨C,fz,q⟩:=h.typ b m
  obtain ⟨o,d,hc⟩:=j b e
  rw [q] at d
  cases d
  cases hc
 ⟨h.box.kept i (fun e=>by obtain ⟨o,d,hc⟩:=j B e.symm;rw [show W.heap[B]?=_ from h.box] at d;cases d;cases hc),h.own.grown i h1,h.typ.kept i h1,h.lo⟩
theorem jm.alloc (h:jm base B l v W) (o:Obj):jm base B l v (W.alloc o):=h.kept (dH W o none) (fun r e=>by cases e)
theorem jm.still (h:jm base B l v W) (b:W.grownBy w1 v.ownBlock):Boxed w1 B 112 v:=h.box.kept b (fun e=>h.IN e.symm)
theorem jm.stored (h:jm base B l v W) (q:W.grownBy w1 v.ownBlock) {n:Nat} (i:OwnS w1 base 1 v' n (u8s m)) (r:n=m.length) (j:CellsOf w1 v' 5):jm base B m v' (w1.setCell ⟨B,0,none⟩ v'):=by
 subst r
 have h1:=h.still q
 have d:∀ b,v'.ownBlock=some b→(some B:Option Nat)≠some b:=fun b s e=>by
  cases e
  obtain ⟨C,u,o⟩:=j B s
  rw [show w1.heap[B]?=_ from h1] at o
  cases o
 exact ⟨h1.set v',i.grown (grownBy_setCell' w1 B v') d,j.kept (grownBy_setCell' w1 B v') d,h.lo⟩
theorem jm.others (h:jm base B l v W) (d:W.grownBy w1 v.ownBlock):KeepsOthers W (w1.setCell ⟨B,0,none⟩ v') :=
 (KeepsOthers.of_grownBy d (fun j o i m=>by
  obtain ⟨C,fz,b⟩:=h.typ j i
  rw [m] at b
  cases b
  rfl)).trans (KeepsOthers.setCell _ _ _)
theorem jm.nI (h:jm base B l v W) (i:W.grownBy w1 v.ownBlock) {j:Nat} {cs:Array Value} {t':TypeId} {fz:Nat×Nat} (b:W.heap[j]?=some (.cells cs t' fz)) (m:t'≠5) (d:t'≠112):(w1.setCell ⟨B,0,none⟩ v').heap[j]?=some (.cells cs t' fz):=by
 have o:j≠B:=by
  rintro rfl
  have:=(show W.heap[j]?=_ from h.box).symm.trans b
  cases this
  exact d rfl
 rw [Below.heap_setCell _ ⟨B,0,none⟩ _ j o]
 exact (i.block j (fO b) (fun e=>h.apart b m e.symm)).trans b
theorem jm.lower (h:jm base B l v W) (b:W.grownBy w1 v.ownBlock) (d:base≤W.heap.size):Below base W (w1.setCell ⟨B,0,none⟩ v') :=
 (ik h.own b d).setCell (p:=⟨B,0,none⟩) h.lo v'
theorem jm.late {n:Nat} (b:OwnS W base 1 v n (u8s l)) (d:n=l.length) (i:CellsOf W v 5) (j:base≤W.heap.size):jm base W.heap.size l v (W.alloc (.cells #[v] 112)):=by
 subst d
 exact ⟨Boxed.new W _ _,b.below ((Below.refl _ W).alloc (af _) _),i.alloc _,j⟩
theorem jm.put {n:Nat} {u:Value} (i:Boxed W B 112 u) (o:OwnS W base 1 v n (u8s l)) (q:n=l.length) (j:CellsOf W v 5) (r:base≤B):jm base B l v (W.setCell ⟨B,0,none⟩ v):=by
 subst q
 have d:∀ b,v.ownBlock=some b→(some B:Option Nat)≠some b:=fun b h e=>by
  cases e
  obtain ⟨C,s,m⟩:=j B h
  rw [show W.heap[B]?=_ from i] at m
  cases m
 exact ⟨i.set v,o.grown (grownBy_setCell' W B v) d,j.kept (grownBy_setCell' W B v) d,r⟩
theorem jm.CP (h:jm base B l v W) (b:W.grownBy w1 v.ownBlock) (j:base≤W.heap.size) {x y z:Nat} {d:TypeId} {u:Value} (m:Boxed W x d u) (o:d≠5) (i:d≠112) (q:y<base) (r:z<base):gU x y z W (w1.setCell ⟨B,0,none⟩ v'):=by
 refine ⟨by rw [size_setCell];exact b.size,fun k hk => ?_,fun k cs fz hk=>h.nI b hk (by decide) (by decide)⟩
 rcases hk with rfl | rfl | rfl
 ·exact (h.nI b m o i).trans (show W.heap[k]?=_ from m).symm
 ·exact (h.lower b j).block k q
 ·exact (h.lower b j).block k r
end
end Go.Proofs.YtkkfmkhbdoeglabGreatDoor
