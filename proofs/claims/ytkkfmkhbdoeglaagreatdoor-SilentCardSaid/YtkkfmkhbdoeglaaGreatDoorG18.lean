/- A part of what is proved here: lemmas and contracts of single functions. No condition but those that each names. -/
import Derived.Test.YtkkfmkhbdoeglaaGreatDoorG00
import Derived.Test.YtkkfmkhbdoeglaaGreatDoorG02
import Derived.Test.YtkkfmkhbdoeglaaGreatDoorG09
set_option maxHeartbeats 1000000
set_option maxRecDepth 100000
namespace Go.Proofs.YtkkfmkhbdoeglaaGreatDoor
open Go.RowKit
theorem oG {o:OpB} {b:List K} (h:gX o b=0):(gA o).length≤12∧o.key.length≤6∧o.val.length≤4:=by
 obtain ⟨h1,h2,h3,h4,h5,h6⟩:=l6 h
 have hk:=jm h4
 have d:fB o.table≤6:=by unfold fB;split <;> (try split) <;> omega
 have i:o.val.length≤4:=by
  unfold oQ at h6
  split at h6
  ·have:o.val=[]:=by simpa using h6
   rw [this];simp
  ·rw [iL h2 h3 h6]
   unfold fO;split <;> (try split) <;> omega
 rw [mG]
 omega
theorem iK:∀ (os:List OpB) (i:Nat) (b:List K) (_:fJ i b os=none) (k:Nat) (hk:k<os.length),∃ d,gX os[k] d=0
 | o::os,i,b,h,0,hk=>by
  unfold fJ at h
  split at h
  ·rename_i j;exact ⟨b,j⟩
  ·cases h
 | o::os,i,b,h,k+1,hk=>by
  unfold fJ at h
  split at h
  ·exact iK os _ _ h k (by simpa using hk)
  ·cases h
theorem vI (os:List OpB) (k:Nat) (h:k<os.length):(os.take (k+1)).flatMap gA=(os.take k).flatMap gA++gA os[k]:=by
 rw [aW h,et]
 simp
theorem Fv (os:List OpB) (k:Nat) (h:∀ o∈os,(gA o).length≤12):((os.take k).flatMap gA).length≤12*k:=by
 induction k with
 | zero=>simp
 | succ k ih =>
  by_cases hk:k<os.length
  ·rw [vI os k hk,aq]
   have:=h os[k] (cL hk)
   omega
  ·rw [aS (by omega)] at ih⊢
   omega
def nY (v:Nat) (os:List OpB) (k:Nat):List UInt8:=j4 v++[UInt8.ofNat os.length]++(os.take k).flatMap gA
theorem Ar (v:Nat) (os:List OpB):nY v os 0=j4 v++[UInt8.ofNat os.length]:=by simp [nY]
theorem vL (v:Nat) (os:List OpB):nY v os os.length=iG v os:=by simp [nY,iG]
theorem Bw (v:Nat) (os:List OpB) (k:Nat) (h:k<os.length):nY v os (k+1)=nY v os k++gA os[k]:=by
 unfold nY
 rw [vI os k h,←bq]
theorem yf (v:Nat) (os:List OpB) (k:Nat) (h:∀ o∈os,(gA o).length≤12):(nY v os k).length≤9+12*k:=by
 unfold nY
 have:=Fv os k h
 rw [aq,aq,fQ,dg]
 omega
theorem tR (v:Nat) (b:Value) (os:List OpB) (w:World) (hs:iy w b os) (s:ShapesVar w) (i:mB os) (f:Nat×Nat) (hw:gE v os=some f) :
  Calls Tryz.prog 78 #[.agg #[.int .u64 v,b]] w fun e w'=>∃ ev,e = .returned (.tuple #[.slice none 0 0,ev])∧iJ w' w.heap.size ev f.1 f.2∧Below w.heap.size w w':=by
 have j:iy (w.alloc (.cells #[.int .u64 (v:Int),b] 34)) b os:=hs.below ((Below.refl _ w).alloc (af _) _)
 have u:=ab hw
 clear hw
 go_enter Tryz.func78,Tryz.ntmps78
 go_wp2_with fail
 refine (sg v b os _ j (s.alloc _) i).mono ?_
 rintro e w1 ⟨⟨r,rfl,fp,rfl,l⟩,m⟩
 rw [u.out] at l
 obtain ⟨g,rfl,o,d⟩:=l
 have q:=ab d
 clear d
 go_wp2
 go_ret2
 exact ⟨_,rfl,⟨g,rfl,by simp at o;omega,q.out⟩,((Below.refl _ w).alloc (af _) _).trans (m.mono (by simp))⟩
theorem yv (v:Nat) (M:Value) (os:List OpB) (w:World) (hs:iy w M os) (hg:ShapesVar w) (a7:mB os) (hw:gE v os=none) :
  Calls Tryz.prog 78 #[.agg #[.int .u64 v,M]] w fun e w'=>∃ bv,e = .returned (.tuple #[bv,.nilIface])∧OwnS w' w.heap.size 1 bv (iG v os).length (u8s (iG v os))∧Below w.heap.size w w':=by
 have N:iy (w.alloc (.cells #[.int .u64 (v:Int),M] 34)) M os:=hs.below ((Below.refl _ w).alloc (af _) _)
 have HW:=ab hw
 have Y:isVersionB v=true∧1≤os.length∧os.length≤8∧fJ 0 [] os=none:=by
  unfold gE at hw
  split at hw
  ·cases hw
  ·split at hw
   ·cases hw
   ·rename_i h1 h2
    exact ⟨by simpa using h1,by omega,by omega,hw⟩
 clear hw
 obtain ⟨Y,h1,h8,al⟩:=Y
 have a9:=kh Y
 have am:=ab al
 clear al Y
 go_enter Tryz.func78,Tryz.ntmps78
 go_wp2_with fail
 refine (sg v M os _ N (hg.alloc _) a7).mono ?_
 rintro e w1 ⟨⟨r,rfl,fp,rfl,hf⟩,O⟩
 rw [HW.out] at hf
 obtain rfl:fp=none:=hf
 have Q:=ab (N.below O)
 obtain ⟨a,cap,rfl,bP,-⟩:=Q.out.opened
 have B1:=ab (fy O (by simp) (fA w (.cells #[.int .u64 (v:Int),.slice a os.length cap] 34)))
 have c0:w1.cell? ⟨w.heap.size,0,none⟩=some (.int .u64 v):=ae _ _ 0 _ _ _ B1.out
 have c1:w1.cell? ⟨w.heap.size,1,none⟩=some (.slice a os.length cap):=ae _ _ 1 _ _ _ B1.out
 have bS:=fw B1.out
 clear hs N
 have hX:((UInt8.ofNat os.length).toNat:Int)=IntKind.u8.wrap (os.length:Int):=by
  rw [IntWalk.u8_in _ (by omega)]
  simp;omega
 have x:=fun w=>o5 w (UInt8.ofNat os.length)
 rw [hX] at x
 have cl:(os.length:Int)≤8:=by omega
 go_wp2
 go_region_held3 (fun w'=>w'.cell? ⟨w.heap.size,0,none⟩=some (.int .u64 v)∧w'.cell? ⟨w.heap.size,1,none⟩=some (.slice a os.length cap))
  (first | go_keep | exact ⟨d0,d1⟩ | exact ⟨e0,e1⟩)
  ((first
    | (go_at_call 113;refine (qu _ (.slice none 0 0) [] v _ (OwnS.nil _ _ _) (af _) (by simp [fX]) a9).mono ?_;rintro e w2 ⟨bv,rfl,u,m⟩;simp only [aM,bE,aO] at u;
       have d0:w2.cell? ⟨w.heap.size,0,none⟩=some (.int .u64 v):=(m.cell (p:=⟨w.heap.size,0,none⟩) (by simp;omega)).trans (by first | exact c0 | go_keep);
       have d1:w2.cell? ⟨w.heap.size,1,none⟩=some (.slice a os.length cap):=(m.cell (p:=⟨w.heap.size,1,none⟩) (by simp;omega)).trans (by first | exact c1 | go_keep))
    | (refine pj rfl (.tmp 16) (.tmp 21) rfl _ bv 8 (j4 v) rfl (by first | exact u | exact u.below ((Below.refl _ w2).alloc (af _) _)) [UInt8.ofNat os.length] (by first | exact x _ | exact BytesAt.below (w:=(w1.alloc _).drew) (x w1) m) (by simp) (by have h9:=m.size;simp at h9⊢;omega) ?_;intro v3 w3 F _ y;
       have e0:w3.cell? ⟨w.heap.size,0,none⟩=some (.int .u64 v):=(y.cell (p:=⟨w.heap.size,0,none⟩) (by simp;omega)).trans (by first | exact d0 | go_keep);
       have e1:w3.cell? ⟨w.heap.size,1,none⟩=some (.slice a os.length cap):=(y.cell (p:=⟨w.heap.size,1,none⟩) (by simp;omega)).trans (by first | exact d1 | go_keep))))
 all_goals
  have G:OwnS w3 w1.heap.size 1 v3 (j4 v++[UInt8.ofNat os.length]).length (u8s (j4 v++[UInt8.ofNat os.length])):=by
   rw [aq,fQ]
   exact F.mono (by simp)
  have R:Below w1.heap.size w1 w3:=by
   first
    | exact ((((Below.refl w1.heap.size w1).drew).trans m).alloc m.size _).trans y
    | exact ((((Below.refl w1.heap.size w1).alloc (af _) _).drew).trans (m.mono (by simp))).trans (y.mono (by simp))
  clear F y u m d0 d1 x hX c0 c1
  have bo:=ab (Q.out.below R)
  have bX:w1.heap.size≤w3.heap.size:=R.size
 all_goals go_wp2
 all_goals
  go_loopw [5,26] (fun c5 i wr=>∃ k:Nat,k≤os.length∧i = .int .i64 k∧OwnS wr w1.heap.size 1 c5 (nY v os k).length (u8s (nY v os k))∧Below w1.heap.size w1 wr) (fun _ i _=>os.length-(intOf i).toNat)
  case atStart=>exact ⟨0,by omega,rfl,by rw [Ar];exact G,R⟩
  case round =>
   obtain ⟨k,hk,rfl,l,I⟩:=hrel
   clear bo G e0 e1
   have br:=I.size
   by_cases S:k<os.length
   ·obtain ⟨a',cap',he,bs,hx⟩:=(Q.out.below I).opened
    cases he
    obtain ⟨b,off,rfl,c0,c1,c2,c3⟩:=hx k S
    clear hx bs
    obtain ⟨ks,B⟩:=iK os 0 [] am.out k S
    obtain ⟨U,ap,av,-⟩:=l6 B
    obtain ⟨bw,aE,a0⟩:=oG B
    have bx:=ab (Bw v os k S)
    have bz:=yf v os k (fun o V=>by
     obtain ⟨j,hj,rfl⟩:=List.mem_iff_getElem.1 V
     obtain ⟨ks,B⟩:=iK os 0 [] am.out j hj
     exact (oG B).1)
    obtain ⟨P,Z⟩:∃ P,P=nY v os k:=⟨_,rfl⟩
    have co:P.length≤200:=by rw [Z];omega
    rw [←Z] at l
    have HP:=ab Z
    clear Z bz
    obtain ⟨d,T,q,s,V⟩:∃ d T q s,os[k]=⟨d,T,q,s⟩:=⟨_,_,_,_,rfl⟩
    rw [V] at c0 c1 c2 c3 U ap av aE a0
    have HO:=ab V
    clear V B bw
    simp only at U ap av aE a0
    have cp:=fE c0
    have b5:(k:Int)<os.length:=by omega
    have b6:1≤d:=by omega
    have b7:d≤2:=by omega
    clear U
    obtain ⟨C,a1⟩:∃ C:UInt8,(C.toNat:Int)=d∧C=UInt8.ofNat d.toNat:=⟨UInt8.ofNat d.toNat,by simp;omega,rfl⟩
    obtain ⟨D,a2⟩:∃ D:UInt8,(D.toNat:Int)=T∧D=UInt8.ofNat T.toNat:=⟨UInt8.ofNat T.toNat,by simp;omega,rfl⟩
    have a3:=ab a1
    have a4:=ab a2
    clear a1 a2
    have a5:=fA wr (.cells #[.int .i64 d,.int .i64 T,.string ⟨q.toArray⟩,.string ⟨s.toArray⟩] 96)
    have bD:=ab (fG (wr.alloc (.cells #[.int .i64 d,.int .i64 T,.string ⟨q.toArray⟩,.string ⟨s.toArray⟩] 96)) (.cells #[.int .u8 d,.int .u8 T] 5) a5)
    clear a5
    have W:u5.ownBlock≠some wr.heap.size:=fun e=>by have:=l.gQ _ e;omega
    have J:OwnS ((wr.alloc (.cells #[.int .i64 d,.int .i64 T,.string ⟨q.toArray⟩,.string ⟨s.toArray⟩] 96)).alloc (.cells #[.int .u8 d,.int .u8 T] 5)) w1.heap.size 1 u5 P.length (u8s P):=l.below (((Below.refl _ wr).alloc (af _) _).alloc (by simp) _)
    have E:=Gs (wr.alloc (.cells #[.int .i64 d,.int .i64 T,.string ⟨q.toArray⟩,.string ⟨s.toArray⟩] 96)) C D d T a3.out.1 a4.out.1
    simp only [ax] at E
    have bb:=ab E
    have bc:=ab J
    clear E J l
    go_wp2_with (first
     | (at_builtin;refine j9 rfl (.tmp 30) (.tmp 38) 59 rfl w1.heap.size u5 P.length P rfl bc.out [C,D] (by exact (BytesAt.src bb.out)) (by simp;omega) (by simp;omega) ?_;intro v5 w5 aa bH X bd;
        have B5:=ab (ir bH W bD.out);
        have k5:=bd wr.heap.size (by simp;omega) W;
        have q1:w5.cell? ⟨wr.heap.size,2,none⟩=some (.string ⟨q.toArray⟩):=ae _ _ 2 _ _ _ B5.out;have cq:=fw B5.out)
     | (at_builtin;refine j9 rfl (.tmp 40) (.tmp 43) 9 rfl w1.heap.size v5 _ _ rfl aa q (by exact xW q) (by simp;omega) (by have:=X.size;simp at this⊢;omega) ?_;intro v6 w6 ag bI a6 cb;
        have B6:=ab (ir bI k5 B5.out);
        have q2:w6.cell? ⟨wr.heap.size,3,none⟩=some (.string ⟨s.toArray⟩):=ae _ _ 3 _ _ _ B6.out;have cr:=fw B6.out)
     | (at_builtin;refine j9 rfl (.tmp 45) (.tmp 47) 9 rfl w1.heap.size v6 _ _ rfl ag s (by exact xW s) (by simp;omega) (by have:=X.size;have:=a6.size;simp at *;omega) ?_;intro v7 w7 ak cs bM ce))
    go_roundw
    case rel =>
     refine ⟨v7,_,.int .i64 ((k:Int)+1),⟨k+1,by omega,by go_num,?_,?_⟩,rfl,rfl,(IntWalk.u8_in _ (by omega)).symm,rfl⟩
     ·have e:P++[C,D]++q++s=nY v os (k+1):=by
       rw [bx.out,HO.out,HP.out,a3.out.2,a4.out.2]
       simp [gA]
      have e2:P.length+[C,D].length+q.length+s.length=(P++[C,D]++q++s).length:=by simp only [aq]
      rw [←e,←e2]
      exact ak
     ·exact ((((I.alloc br _).alloc (by simp;omega) _).trans X).trans a6).trans bM
    case measure=>simp [intOf];omega
   ·obtain rfl:k=os.length:=by omega
    rw [vL] at l
    have ct:¬(os.length:Int)<os.length:=by omega
    go_wp2
    go_ret2
    exact ⟨_,rfl,l.mono (by omega),(((Below.refl _ w).alloc (af _) _).trans (O.mono (by simp))).trans (I.mono (by omega))⟩
end Go.Proofs.YtkkfmkhbdoeglaaGreatDoor
