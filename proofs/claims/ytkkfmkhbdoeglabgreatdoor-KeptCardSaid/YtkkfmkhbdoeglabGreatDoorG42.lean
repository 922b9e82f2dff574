/- A part of what is proved here: lemmas and contracts of single functions. No condition but those that each names. -/
import Derived.Test.YtkkfmkhbdoeglabGreatDoorG00
import Derived.Carry
import Derived.ChangeSame
import Derived.Deep.DeepHandedRow
import Derived.Deep.Fields
import Derived.Deep.Slices
import Derived.LaidHandle
import Derived.LaidLaws
import Derived.Lib.LaidTab
import Derived.OpenShut
import Derived.ProofKit
import Derived.Test.YtkkfmkhbdoeglabGreatDoorCards
import Derived.Test.YtkkfmkhbdoeglabGreatDoorTie
import Derived.WalkKit
import Derived.WideKeyArgs
import Derived.Test.YtkkfmkhbdoeglabGreatDoorG02
import Derived.Test.YtkkfmkhbdoeglabGreatDoorG03
import Derived.Test.YtkkfmkhbdoeglabGreatDoorG07
import Derived.Test.YtkkfmkhbdoeglabGreatDoorG13
import Derived.Test.YtkkfmkhbdoeglabGreatDoorG28
import Derived.Test.YtkkfmkhbdoeglabGreatDoorG31
import Derived.Test.YtkkfmkhbdoeglabGreatDoorG32
import Derived.Test.YtkkfmkhbdoeglabGreatDoorG41
set_option maxHeartbeats 4000000
set_option maxRecDepth 100000
namespace Go.Proofs.YtkkfmkhbdoeglabGreatDoor
open Go.RowKit Go.Shelf
theorem FY {v:Nat} {os:List OpB} (h:gK v os=none):1≤os.length∧os.length≤8∧lF os:=by
 have b:1≤os.length∧os.length≤8∧gi 0 [] os=none:=by
  unfold gK at h
  split at h
  ·cases h
  ·split at h
   ·cases h
   ·rename_i h1 h2;exact ⟨by omega,by omega,h⟩
 refine ⟨b.1,b.2.1,fun o i => ?_⟩
 obtain ⟨k,hk,rfl⟩:=cF i
 obtain ⟨j,d⟩:=jl os 0 [] b.2.2 k hk
 have:=pC d
 exact ⟨by unfold gF;omega,by unfold gF;omega⟩
theorem FN {v:Nat} {os:List OpB} (h:gK v os=none):0<(jb v os).length:=by
 have:=(lN h).1
 omega
theorem rn (v:Nat) (F:Value) (os:List OpB) (w:World) (hs:ix w F os) (u:ShapesVar w) (x:ErrVar w) (hw:gK v os=none) (_hv:v<18446744073709551616) (U:os.length≤8) :
  Calls Tryz.prog 35 #[.agg #[.int .u64 (v:Nat),F]] w fun e w'=>e = .returned (.tuple #[.string ⟨(sealB 1 (jb v os)).toArray⟩,.bool true])∧Below w.heap.size w w':=by
 have D:lF os:=(FY hw).2.2
 have y:=hs
 obtain ⟨-,E,i,rfl,-⟩:=hs
 have d:Below w.heap.size w (w.alloc (.cells #[.int .u64 (v:Nat),.slice E os.length i] 51)):=(Below.rf w).alloc (af _) _
 have D0:=fR w (.cells #[.int .u64 (v:Nat),.slice E os.length i] 51)
 have G:=ab (uL v (.slice E os.length i) os _ (fW.below y d) (u.new d) (x.new d) D (by omega))
 have Q:=ab hw
 have l:=FN hw
 have R:(1000000:Nat)≤gF:=by decide
 have hlen:=(lN hw).2
 have I:=ab d
 have d0:=ae _ _ 0 _ _ _ D0
 have d1:=ae _ _ 1 _ _ _ D0
 clear y u x hw d D0
 go_enter Tryz.func35,Tryz.ntmps35
 go_wp2_with fail
 refine G.out.mono ?_
 rintro e w1 ⟨rfl,B⟩
 rw [Q.out]
 have J:=ab (I.out.tn B)
 have C:Below w1.heap.size w1 (w1.alloc (.cells #[.int .i64 0,.int .i64 0,.int .i64 0] 34)):=(Below.rf w1).alloc (af _) _
 have r:=fR w1 (.cells #[.int .i64 0,.int .i64 0,.int .i64 0] 34)
 have M:=ab (J.out.tn C)
 clear B C d0 d1
 obtain ⟨s,m⟩:∃ s,s=jb v os:=⟨_,rfl⟩
 have N:=ab m
 rw [←m] at l hlen⊢
 have S:(s==[])=false:=by cases s with | nil=>simp at l | cons a b=>rfl
 clear m
 unfold kD
 go_upto_region 2 with fail
 generalize w1.alloc (.cells #[.int .i64 0,.int .i64 0,.int .i64 0] 34)=w2 at *
 have f0:=ae _ _ 0 _ _ _ r
 have f1:=ae _ _ 1 _ _ _ r
 have f2:=ae _ _ 2 _ _ _ r
 have o:=fO r
 go_region_held3 (fun w'=>w'.cell? ⟨w1.heap.size,0,none⟩=some (.int .i64 0)∧w'.cell? ⟨w1.heap.size,1,none⟩=some (.int .i64 0)∧w'.cell? ⟨w1.heap.size,2,none⟩=some (.int .i64 0))
  (first | exact ⟨f0,f1,f2⟩ | exact ⟨(j.out.cell (p:=⟨w1.heap.size,0,none⟩) o).trans f0,(j.out.cell (p:=⟨w1.heap.size,1,none⟩) o).trans f1,(j.out.cell (p:=⟨w1.heap.size,2,none⟩) o).trans f2⟩)
  (first | (go_at_call 82;refine (rA 1 s _ (by omega)).mono ?_;rintro e w3 ⟨rfl,q⟩;have j:Hid (Below w2.heap.size w2 w3):=ab (by first | exact q | exact (Below.rf w2).drew.tn q);clear q))
 all_goals
  have O:=ab (M.out.tn j.out)
  rw [N.out,show byteOf 1=1 by decide]
  go_wp2
  go_ret2
  exact ⟨rfl,O.out⟩
def gZ (v:Nat) (s:List UInt8):Nat:=match ig s with
 | .inl (k,b)=>if (k=16∨k=17)∧b.length=8 then iP b else v
 | .inr _=>v
theorem AgA.Fit.drop {a:AgA} (h:a.Fit) (k:Nat):AgA.Fit {a with out:=a.out.drop k} := ⟨h.v,by show (a.out.drop k).length≤6;rw [bg];have:=h.out;omega,fun s hs=>h.olen s (List.mem_of_mem_drop hs),h.com⟩
theorem EM {a:AgA} {k:Nat} {s:List UInt8} (h:a.out[k]?=some s):AgA.next {a with out:=a.out.drop k} = ({a with out:=a.out.drop (k+1)},some s):=by
 obtain ⟨hk,rfl⟩:=aF.1 h
 unfold AgA.next
 simp only
 rw [b9 hk]
theorem Gf {a:AgA} : AgA.next {a with out:=a.out.drop a.out.length} = ({a with out:=[]},none):=by
 unfold AgA.next
 simp
theorem xQ {v:Nat} {s:List UInt8} {k:UInt8} {b:List UInt8} (h:ig s = .inl (k,b)):gZ v s=if (k=16∨k=17)∧b.length=8 then iP b else v:=by unfold gZ;rw [h]
theorem zI {v:Nat} {s:List UInt8} {f:Nat×Nat} (h:ig s = .inr f):gZ v s=v:=by unfold gZ;rw [h]
def DG (K:Nat→Prop) (X:Nat) (H:fP) (p:PAg) (w:World) (k:Nat) (wr:World):Prop:=lR wr K X H (some {p with a := {p.a with out:=p.a.out.drop k}})∧jD K w wr
theorem np (K:Nat→Prop) (X:Nat) (H:fP) (p:PAg) (w:World) (h:lR w K X H (some p)) (hf:p.a.Fit) :
  Calls Tryz.prog 39 #[.pointer (some ⟨X,0,none⟩)] w fun e w'=>e = .returned (.tuple #[.int .u64 ((p.a.out.foldl gZ 0:Nat):Int),.int .i64 (p.a.out.length:Nat)])∧lR w' K X H (some {p with a := {p.a with out:=[]}})∧jD K w w':=by
 have h0:=ab (⟨by rw [cy];exact h,Ext.refl _ w⟩:DG K X H p w 0 w)
 have HF:=ab hf
 have bb:=hf.out
 clear h hf
 go_enter Tryz.func39,Tryz.ntmps39
 go_wp2
 go_loopw [4,5] (fun n v wr=>∃ k:Nat,k≤p.a.out.length∧n = .int .i64 (k:Int)∧v = .int .u64 (((p.a.out.take k).foldl gZ 0:Nat):Int)∧DG K X H p w k wr) (fun n _ _=>p.a.out.length-(intOf n).toNat)
 case atStart=>exact ⟨0,aM _,rfl,rfl,h0.out⟩
 case round =>
  obtain ⟨k,hk,rfl,rfl,hrel⟩:=hrel
  obtain ⟨M,hb⟩:=hrel
  have HX:=ab M
  have HB:=ab hb
  clear M hb h0
  by_cases E:k<p.a.out.length
  ·obtain ⟨s,hs⟩:∃ s,p.a.out[k]?=some s:=⟨_,ay E⟩
   have aa:=EM hs
   have bc:s.length≤13:=HF.out.olen s (aV hs)
   have be:(1000000:Nat)≤gF:=by decide
   have q:=ab aa
   have bi:=ab hs
   obtain ⟨V,Y⟩:∃ V,V=(p.a.out.take k).foldl gZ 0:=⟨_,rfl⟩
   have HV:=ab Y
   have r:Hid ((p.a.out.take (k+1)).foldl gZ 0=gZ V s):=ab (by
    obtain ⟨a4,he⟩:=aF.1 hs
    rw [aT a4,di,he,Y]
    rfl)
   rw [←Y]
   have a7:¬(20:Int)<(k:Int):=by omega
   clear aa hs Y
   go_wp2_with fail
   refine (tV K X H _ wr HX.out (HF.out.drop k)).mono ?_
   rintro e w1 ⟨rfl,o,B⟩
   rw [show AgA.next {p.a with out:=p.a.out.drop k} = _ from q.out] at o
   rw [show Bd (AgA.next {p.a with out:=p.a.out.drop k}).2 = .tuple #[.string ⟨s.toArray⟩,.bool true] by rw [q.out];rfl]
   have N:=ab o
   have O:=ab (HB.out.trans B)
   have a5:=ab (uN s w1 o.er (by omega))
   clear o B
   go_wp2_with fail
   refine a5.out.mono ?_
   rintro e w2 ⟨rfl,Q⟩
   have C:=ab (N.out.below Q)
   have D:=ab (O.out.trans (Ext.fT Q))
   clear Q
   have bk:IntKind.i64.wrap ((k:Int)+1)=(k:Int)+1:=by rw [show ((k:Int)+1)=((k+1:Nat):Int) by omega];exact IntWalk.i64_in _ (by omega)
   unfold uX kD
   cases F:ig s with
   | inr f =>
    obtain ⟨f1,f2⟩:=f
    have l:Hid (gZ V s=V):=ab (zI F)
    clear F
    simp only
    go_wp2_with fail
    have j:Below w2.heap.size w2 (w2.alloc (.cells #[.int .i64 ((f1:Nat)),.int .i64 ((f2:Nat)),.int .i64 0] 34)):=(Below.rf w2).alloc (af _) _
    refine ⟨⟨k+1,by omega,by congr 1,by rw [r.out,l.out],C.out.below j,D.out.trans (Ext.fT j)⟩,?_⟩
    rw [show intOf (Value.int IntKind.i64 ((k:Int)+1))=(k:Int)+1 from rfl,show intOf (Value.int IntKind.i64 (k:Int))=(k:Int) from rfl]
    omega
   | inl y =>
    obtain ⟨d,b⟩:=y
    have l:=ab (xQ (v:=V) F)
    clear F
    simp only
    have kf:∀ m:Nat,m<256→(((d.toNat:Int))==(m:Int))=decide (d=UInt8.ofNat m):=fun m hm=>by
     have h2:(UInt8.ofNat m).toNat=m:=by rw [dQ];omega
     by_cases h:d=UInt8.ofNat m
     ·rw [cK h,h,h2]
      exact ei _
     ·rw [bY h]
      refine aA.2 fun e=>h ?_
      rw [←eu,h2]
      omega
    have G:((d.toNat:Int)==16)=decide (d=16):=kf 16 (by omega)
    have I:((d.toNat:Int)==17)=decide (d=17):=kf 17 (by omega)
    have Z:((b.length:Int)==8)=decide (b.length=8):=by
     by_cases h:b.length=8
     ·rw [cK h,h];rfl
     ·rw [bY h];exact aA.2 fun e=>h (by omega)
    clear kf
    by_cases hc:(d=16∨d=17)∧b.length=8
    ·have J:Hid (gZ V s=iP b):=ab (by rw [l.out,aD hc])
     obtain ⟨ag,R⟩:=hc
     rw [cK R] at Z
     have S:(decide (d=16)=true)∨(decide (d=16)=false∧decide (d=17)=true):=by
      by_cases h:d=16
      ·exact .inl (cK h)
      ·exact .inr ⟨bY h,cK (ag.resolve_left h)⟩
     have ak:=ab R
     rcases S with h1 | ⟨h1,h2⟩
     all_goals
      rw [h1] at G
      try rw [h2] at I
      clear ag R h1
      try clear h2
      clear l
      generalize (d.toNat:Int)=kn at *
      generalize U:b.length=bl at *
      go_wp2_with fail
      go_loopw [5,11] (fun v i wx=>∃ m:Nat,m≤8∧i = .int .i64 (m:Int)∧v = .int .u64 ((iP (b.take m):Nat):Int)∧wx=w2.alloc (.cells #[.int .i64 0,.int .i64 0,.int .i64 0] 34)) (fun _ i _=>8-(intOf i).toNat)
      case atStart=>exact ⟨0,by omega,rfl,rfl,rfl⟩
      case round =>
       obtain ⟨m,hm,rfl,rfl,rfl⟩:=hrel
       by_cases a6:m<8
       ·have ba:(m:Int)<8:=by omega
        have W:=ak.out
        have E:=qP m b (by omega)
        have hle:iP (b.take m)<256^7:=aC E (eX (by decide) (by omega))
        have H:=ab (qQ b m (by omega))
        obtain ⟨x,M⟩:∃ x,b[m]'(by omega)=x:=⟨_,rfl⟩
        have i0:∀ w,(Instr.index 9 (.string ⟨b.toArray⟩) (.int .i64 (m:Int))).run Tryz.prog w = .ok (.int .u8 x.toNat) w:=fun w=>iI Tryz.underlying9 _ _ _ x (by omega) (by rw [dV,ay (by omega),M]) w
        rw [M] at H
        have bn:=x.toNat_lt
        clear M E W
        obtain ⟨u,hu⟩:∃ u,u=iP (b.take m):=⟨_,rfl⟩
        rw [←hu] at hle H⊢
        clear hu
        have hv:u<72057594037927936:=hle
        clear hle
        go_wp2_with fail
        refine ⟨⟨m+1,by omega,by go_num,?_,by first | exact cL | rfl⟩,?_⟩
        ·rw [H.out];congr 1;omega
        ·simp [intOf];omega
       ·obtain rfl:m=8:=by omega
        have W:=ak.out
        rw [aQ (by omega)]
        have l:Hid (gZ V s=iP b):=J
        clear hm a6 W
        obtain ⟨u,hu⟩:∃ u,u=iP b:=⟨_,rfl⟩
        rw [←hu] at l⊢
        clear hu J
        go_wp2_with fail
        have j:Below w2.heap.size w2 (w2.alloc (.cells #[.int .i64 0,.int .i64 0,.int .i64 0] 34)):=(Below.rf w2).alloc (af _) _
        refine ⟨⟨k+1,by omega,by congr 1,by rw [r.out,l.out],C.out.below j,D.out.trans (Ext.fT j)⟩,?_⟩
        rw [show intOf (Value.int IntKind.i64 ((k:Int)+1))=(k:Int)+1 from rfl,show intOf (Value.int IntKind.i64 (k:Int))=(k:Int) from rfl]
        omega
    ·have J:Hid (gZ V s=V):=ab (by rw [l.out,au hc])
     clear l
     have l:=J
     have S:(decide (d=16)=true∧decide (b.length=8)=false)∨(decide (d=16)=false∧decide (d=17)=true∧decide (b.length=8)=false)∨(decide (d=16)=false∧decide (d=17)=false):=by
      by_cases h:d=16
      ·exact .inl ⟨cK h,bY fun h8=>hc ⟨.inl h,h8⟩⟩
      ·by_cases h':d=17
       ·exact .inr (.inl ⟨bY h,cK h',bY fun h8=>hc ⟨.inr h',h8⟩⟩)
       ·exact .inr (.inr ⟨bY h,bY h'⟩)
     rcases S with ⟨h1,h3⟩ | ⟨h1,h2,h3⟩ | ⟨h1,h2⟩
     ·rw [h1] at G
      rw [h3] at Z
      clear h1 h3 hc I
      generalize (d.toNat:Int)=kn at *
      generalize U:b.length=bl at *
      go_wp2_with fail
      have j:Below w2.heap.size w2 (w2.alloc (.cells #[.int .i64 (0),.int .i64 (0),.int .i64 0] 34)):=(Below.rf w2).alloc (af _) _
      refine ⟨⟨k+1,by omega,by congr 1,by rw [r.out,l.out],C.out.below j,D.out.trans (Ext.fT j)⟩,?_⟩
      rw [show intOf (Value.int IntKind.i64 ((k:Int)+1))=(k:Int)+1 from rfl,show intOf (Value.int IntKind.i64 (k:Int))=(k:Int) from rfl]
      omega
     ·rw [h1] at G
      rw [h2] at I
      rw [h3] at Z
      clear h1 h2 h3 hc
      generalize (d.toNat:Int)=kn at *
      generalize U:b.length=bl at *
      go_wp2_with fail
      have j:Below w2.heap.size w2 (w2.alloc (.cells #[.int .i64 (0),.int .i64 (0),.int .i64 0] 34)):=(Below.rf w2).alloc (af _) _
      refine ⟨⟨k+1,by omega,by congr 1,by rw [r.out,l.out],C.out.below j,D.out.trans (Ext.fT j)⟩,?_⟩
      rw [show intOf (Value.int IntKind.i64 ((k:Int)+1))=(k:Int)+1 from rfl,show intOf (Value.int IntKind.i64 (k:Int))=(k:Int) from rfl]
      omega
     ·rw [h1] at G
      rw [h2] at I
      clear h1 h2 hc Z
      generalize (d.toNat:Int)=kn at *
      generalize U:b.length=bl at *
      go_wp2_with fail
      have j:Below w2.heap.size w2 (w2.alloc (.cells #[.int .i64 (0),.int .i64 (0),.int .i64 0] 34)):=(Below.rf w2).alloc (af _) _
      refine ⟨⟨k+1,by omega,by congr 1,by rw [r.out,l.out],C.out.below j,D.out.trans (Ext.fT j)⟩,?_⟩
      rw [show intOf (Value.int IntKind.i64 ((k:Int)+1))=(k:Int)+1 from rfl,show intOf (Value.int IntKind.i64 (k:Int))=(k:Int) from rfl]
      omega
  ·obtain rfl:k=p.a.out.length:=by omega
   have q:=ab (Gf (a:=p.a))
   rw [bC]
   go_wp2_with fail
   refine (tV K X H _ wr HX.out (HF.out.drop _)).mono ?_
   rintro e w1 ⟨rfl,o,B⟩
   rw [show AgA.next {p.a with out:=p.a.out.drop p.a.out.length} = _ from q.out] at o
   rw [show Bd (AgA.next {p.a with out:=p.a.out.drop p.a.out.length}).2 = .tuple #[.string ⟨#[]⟩,.bool false] by rw [q.out];rfl]
   have N:=ab o
   have O:=ab (HB.out.trans B)
   clear o B
   go_wp2
   go_ret2
   exact ⟨rfl,N.out,O.out⟩
theorem sF (b:Int) (n:Nat) (w:World) (hs : -9223372036854775808≤b∧b≤9223372036854775807) (I:(n:Int)=48+ji b 81) (d:ShapesVar w) (i:ErrVar w) (H':fP) (p:PAg) (r:ie (mZ n (roomN []))=(H',.inl p)) (J:p.a=begunA 0 []) :
  Calls Tryz.prog 34 #[.int .i64 b] w fun e w'=>∃ X,e = .returned (.tuple #[.pointer (some ⟨X,0,none⟩),.bool true])∧lR w' (fun k=>k<w.heap.size) X H' (some {p with a := {p.a with out:=[]}})∧Below w.heap.size w w':=by
 have al:=iV b 81 (by omega)
 have am:48≤n∧n≤128:=by omega
 have N:=ab (FV (48+ji b 81) [] (.slice none 0 0) w (fW.nil _ _ _ _) n (by omega) d i H' p r)
 have ap:IntKind.i64.wrap (48+ji b 81)=48+ji b 81:=by rw [←I];exact IntWalk.i64_in _ (by omega)
 have O:=ab d
 have Q:=ab i
 have R:=ab J
 have S:=kS b 81 w hs.1 hs.2 (by omega)
 clear d i r J I
 generalize ji b 81=pk at *
 go_enter Tryz.func34,Tryz.ntmps34
 go_wp2_with fail
 refine S.mono ?_
 rintro e w0 ⟨rfl,rfl⟩
 go_wp2_with fail
 refine N.out.mono ?_
 rintro e w1 ⟨X,M,rfl,s,u,j⟩
 have x:=lR.new s u j O.out Q.out
 have U:=ab x
 have V:=ab j
 clear s u j x
 have G:p.a.Fit:=by rw [R.out];exact AgA.Fit.begun 0 [] (by omega)
 have y:p.a.next=({p.a with out:=[]},some (sealB 16 (be8 0))):=by
  rw [R.out]
  rfl
 have B:=ab y
 have C:be8 0=[0,0,0,0,0,0,0,0]:=by decide
 have W:=ab C
 clear y C
 unfold nZ
 go_wp2_with fail
 have m:Below w1.heap.size w1 (w1.alloc (.cells #[.int .i64 0,.int .i64 0,.int .i64 0] 34)):=(Below.rf w1).alloc (af _) _
 have F2:=fR w1 (.cells #[.int .i64 0,.int .i64 0,.int .i64 0] 34)
 have D:=ab (U.out.below m)
 have E:=ab (V.out.tn m)
 clear m F2
 generalize w1.alloc (.cells #[.int .i64 0,.int .i64 0,.int .i64 0] 34)=w2 at *
 refine (D5 (fun k=>k<w.heap.size) X H' (some p) w2 D.out).mono ?_
 rintro e w3 ⟨rfl,rfl⟩
 go_wp2_with fail
 refine (tV (fun k=>k<w.heap.size) X H' p w3 D.out G).mono ?_
 rintro e w4 ⟨rfl,o,F⟩
 rw [show p.a.next.1 = {p.a with out:=[]} by rw [B.out]] at o
 rw [show Bd p.a.next.2 = .tuple #[.string ⟨(sealB 16 (be8 0)).toArray⟩,.bool true] by rw [B.out];rfl]
 have Y:=ab o
 have Z:=ab (E.out.trans (F.below E.out.size fun k hk=>hk))
 clear o F
 have hq:∀ l:List UInt8,(l==l)=true:=fun l=>ei l
 go_wp2_with fail
 refine (rA 16 [0,0,0,0,0,0,0,0] _ (by decide)).mono ?_
 rintro e w5 ⟨rfl,q⟩
 rw [←W.out,show byteOf 16=16 by decide]
 have aa:=ab (Y.out.below q)
 have ag:=ab (Z.out.tn q)
 clear q
 generalize sealB 16 (be8 0)=sl
 go_wp2
 go_ret2
 exact ⟨X,by simp,aa.out,ag.out⟩
end Go.Proofs.YtkkfmkhbdoeglabGreatDoor
namespace Go.Proofs.YtkkfmkhbdoeglabGreatDoor
structure ju (n k lo s B:Nat) (H:fP) (p:PAg) (T:List E):Prop where
 st:∃ ever,MachSt n [] s B H (some p) p.a [(k,T)] ever false
 v:p.a.V=k
 t:p.a.T=T
 deg:p.a.deg=none
 com:p.a.com=none
 t60:In60 T
 n48:48≤n∧n≤128
 nc:NoCut H.dp
 vk:lo≤k
 out:∀ f∈p.a.out,∃ (t:UInt8) (m:Nat),(t=16∨t=17)∧lo≤m∧m≤k∧f=sealB t (be8 m)
theorem ju.put {n k v s B:Nat} {H:fP} {p:PAg} {T:List E} (h:ju n k v s B H p T) {t:UInt8} (m:t=16∨t=17):ju n k v s B H {p with a:=p.a.put t (be8 p.a.V)} T:=by
 obtain ⟨ever,i⟩:=h.st
 have d:=jc p.a t (be8 p.a.V)
 have o:=i.fit p rfl
 have j:(p.a.put t (be8 p.a.V)).Fit:=by
  have:=o.put t (be8 p.a.V) (by rw [gm];omega)
  exact this
 refine ⟨⟨ever,i.own (a1:=p.a.put t (be8 p.a.V)) d.2.1 d.2.2 d.1 rfl j⟩,d.2.1.trans h.v,d.2.2.trans h.t,d.1.trans h.deg,?_,h.t60,h.n48,h.nc,h.vk,?_⟩
 ·show (p.a.put t (be8 p.a.V)).com=none
  unfold AgA.put
  split
  ·exact h.com
  ·exact h.com
 ·intro f l
  have b:f∈(p.a.put t (be8 p.a.V)).out:=l
  unfold AgA.put at b
  split at b
  ·rcases bE.1 b with h1 | h1
   ·exact h.out f h1
   ·exact ⟨t,k,m,h.vk,af _,by rw [ax.1 h1,h.v]⟩
  ·exact h.out f b
theorem ju.tick {n k v s B:Nat} {H:fP} {p:PAg} {T:List E} (h:ju n k v s B H p T):ju n k v s B H {p with a:=p.a.tick} T:=by
 have e:p.a.tick=p.a.put 16 (be8 p.a.V):=by
  unfold AgA.tick
  rw [h.deg,h.com]
  rfl
 rw [e]
 exact h.put (.inl rfl)
theorem ju.full {n k v s B:Nat} {H:fP} {p:PAg} {T:List E} (h:ju n k v s B H p T):p.a.out.length≤6:=by
 obtain ⟨ever,b⟩:=h.st
 exact (b.fit p rfl).out
theorem ju.other {n k v s B i:Nat} {H:fP} {p:PAg} {T:List E} (h:ju n k v s B H p T) (m:i≠k) (l:i<1000000) (hk:k<1000000) (raw:List Int):∃ t:UInt8,(t=16∨t=17)∧ij H p (sealB 1 (jb (i+1) (fZ raw)))=(H,{p with a:=p.a.put t (be8 p.a.V)}):=by
 have hw:gK (i+1) (fZ raw)=none:=jr raw (i+1) (iU (by omega) (by omega))
 have j:pt (jb (i+1) (fZ raw)) = .inl (i+1,fZ raw):=by
  rw [nN,DK _ _ hw]
 have b:p.a.taken (sealB 1 (jb (i+1) (fZ raw)))=p.a.delta (jb (i+1) (fZ raw)):=by
  unfold AgA.taken
  rw [h.deg,mi]
  rfl
 unfold AgA.delta at b
 rw [j] at b
 simp only at b
 by_cases d:i+1≤p.a.V
 ·rw [aD d] at b
  refine ⟨17,.inr rfl,?_⟩
  unfold ij
  rw [b]
  rfl
 ·rw [au d,aD (by rw [h.v] at *;omega)] at b
  refine ⟨16,.inl rfl,?_⟩
  unfold ij
  rw [b]
  rfl
theorem ju.next {n k v s B:Nat} {H:fP} {p:PAg} {T:List E} (h:ju n k v s B H p T) (hs:s+2<18446744073709551616) (hk:k<1000000) (raw:List Int) :
  ∃ H' l,ij H p (sealB 1 (jb (k+1) (fZ raw)))=(H',l)∧ju n (k+1) v (s+2) (B+1000) H' l (foldS T (fZ raw))∧l.a.out.length≤p.a.out.length+1:=by
 obtain ⟨ever,r⟩:=h.st
 have C:isVersionB (p.a.V+1)=true:=iU (by omega) (by rw [h.v];omega)
 obtain ⟨H',l,ever',b,q,d,D,F,u⟩:=wC r.inv h.n48 hs h.nc.2 h.deg (by rw [h.t];exact h.t60) C raw
 have o:=h.nc.recv p (sealB 1 (jb (p.a.V+1) (fZ raw)))
 rw [q] at o
 rw [h.v] at q d F u
 rw [h.t] at d D F u
 have i := @MachSt.recv n [] s B H p p.a [(k,T)] ever false r h.nc.2 (sealB 1 (jb (k+1) (fZ raw)))
 rw [q] at i
 simp only at i
 have x:=jc {p.a with V:=k+1,T:=foldS T (fZ raw)} 17 (be8 (k+1))
 rcases u o.2 with ⟨r1,r2,y⟩ | ⟨-,-,y,-⟩
 ·have hm:=i rfl y
  rw [←r1] at hm
  refine ⟨H',l,q,⟨⟨ever',hm⟩,by rw [r1,d];exact x.2.1,by rw [r1,d];exact x.2.2,by rw [r1,d];exact x.1.trans h.deg,?_,D,h.n48,o,ey h.vk,?_⟩,?_⟩
  ·rw [r1,d]
   show (AgA.put _ 17 (be8 (k+1))).com=none
   unfold AgA.put
   split
   ·exact h.com
   ·exact h.com
  ·rw [r1,d]
   intro f G
   have j:f∈(AgA.put {p.a with V:=k+1,T:=foldS T (fZ raw)} 17 (be8 (k+1))).out:=G
   unfold AgA.put at j
   split at j
   ·rcases bE.1 j with h1 | h1
    ·obtain ⟨t,m,a1,a2,a3,a4⟩:=h.out f h1
     exact ⟨t,m,a1,a2,by omega,a4⟩
    ·exact ⟨17,k+1,.inr rfl,by have:=h.vk;omega,af _,ax.1 h1⟩
   ·obtain ⟨t,m,a1,a2,a3,a4⟩:=h.out f j
    exact ⟨t,m,a1,a2,by omega,a4⟩
  ·rw [r1,d]
   show (AgA.put _ 17 (be8 (k+1))).out.length≤_
   unfold AgA.put
   split
   ·simp
   ·simp
 ·cases y
theorem Df (a:AgA) (t:UInt8) (b:List UInt8):(a.put t b).out.length≤a.out.length+1:=by
 unfold AgA.put
 split
 ·simp
 ·exact dK _
theorem yG (v k:Nat) (hk:k<18446744073709551616) {t:UInt8} (b:t=16∨t=17):gZ v (sealB t (be8 k))=k:=sY v k hk t b
theorem BF {lo k:Nat} (hk:k<18446744073709551616):∀ (out:List (List UInt8)) (v0:Nat),(∀ f∈out,∃ (t:UInt8) (m:Nat),(t=16∨t=17)∧lo≤m∧m≤k∧f=sealB t (be8 m))→out≠[]→lo≤out.foldl gZ v0∧out.foldl gZ v0≤k
 | [],_,_,h=>absurd rfl h
 | f::out,v0,h,_=>by
  obtain ⟨t,m,h1,h2,h3,rfl⟩:=h f bV
  rw [eL,yG v0 m (by omega) h1]
  by_cases b:out=[]
  ·subst b
   exact ⟨h2,h3⟩
  ·exact BF hk out m (fun g d=>h g (aR _ d)) b
theorem ju.told {n k v s B:Nat} {H:fP} {p:PAg} {T:List E} (h:ju n k v s B H p T) (hk:k<1000000) {u:Nat} (hu:u≤k):ju n k u s B H {p with a := {p.a with out:=[]}} T∧(p.a.out≠[]→v≤p.a.out.foldl gZ 0∧p.a.out.foldl gZ 0≤k):=by
 obtain ⟨ever,b⟩:=h.st
 have d:=b.fit p rfl
 exact ⟨⟨⟨ever,b.own (a1 := {p.a with out:=[]}) rfl rfl rfl rfl ⟨d.v,by simp,by simp,d.com⟩⟩,h.v,h.t,h.deg,h.com,h.t60,h.n48,h.nc,hu,by simp⟩,fun i=>BF (by omega) _ _ h.out i⟩
theorem ju.fit {n k v s B:Nat} {H:fP} {p:PAg} {T:List E} (h:ju n k v s B H p T):p.a.Fit:=by
 obtain ⟨ever,b⟩:=h.st
 exact b.fit p rfl
theorem ju.new {n:Nat} (b:48≤n∧n≤128):∃ H' p,ie (mZ n (roomN []))=(H',.inl p)∧p.a=begunA 0 []∧ju n 0 0 0 480 H' {p with a := {p.a with out:=[]}} []:=by
 obtain ⟨H',p,h1,h2,h3,h4,hu⟩:=jv.new b
 exact ⟨H',p,h1,h2,⟨hu.st,hu.v,hu.t,hu.deg,by show p.a.com=none;rw [h2];rfl,hu.t60,hu.n48,⟨h3,hu.dead⟩,af _,by simp⟩⟩
theorem Gy (a:AgA) (t:UInt8) (b:List UInt8):(a.put t b).out≠[]:=by
 unfold AgA.put
 split
 ·simp
 ·rename_i h
  intro e
  rw [e] at h
  exact h (by simp)
theorem ju.BD {n k v s B:Nat} {H:fP} {p:PAg} {T:List E} (h:ju n k v s B H p T):p.a.tick=p.a.put 16 (be8 p.a.V):=by
 unfold AgA.tick
 rw [h.deg,h.com]
 rfl
theorem ju.Fo {n k v s B:Nat} {H:fP} {p:PAg} {T:List E} (h:ju n k v s B H p T) (b:p.a.out.length<6) (hk:k<1000000):p.a.tick.out.foldl gZ 0=k:=by
 have e:p.a.tick.out=p.a.out++[sealB 16 (be8 k)]:=by
  rw [h.BD,h.v]
  unfold AgA.put
  rw [aD b]
 rw [e,di]
 exact yG _ k (by omega) (.inl rfl)
theorem ju.ready {n k v s B:Nat} {H:fP} {p:PAg} {T:List E} (h:ju n k v s B H p T) (d:B≤800000000) (hs:s<8999999999999999999):tW n [] B H p:=by
 obtain ⟨ever,b⟩:=h.st
 obtain ⟨-,g2,-,g5,-⟩:=b.inv.up p rfl h.nc.2
 exact ⟨b.fine,d,b.fit p rfl,fun e=>(g5 e).1,by omega⟩
end Go.Proofs.YtkkfmkhbdoeglabGreatDoor
namespace Go.Proofs.YtkkfmkhbdoeglabGreatDoor
open Go.ChangeShapes Go.WideShapes Go.ChangeAt Go.RowKit
theorem own:ownKnob Tryz.prog.godebug=none:=by kernel_rfl
theorem Jy : Tryz.prog.globalNamed "errors.errorType" = some 0 := by kernel_rfl
theorem Je : (Tryz.prog.cutTypes.find? (·.1 == "internal/reflectlite.rtype")).map (·.2) = some 286 := by kernel_rfl
theorem IH:((List.range 370).filter fun t=>Tryz.prog.rowNamed t [101,114,114,111,114])=[128]:=by kernel_rfl
theorem Ft:Tryz.prog.types.size=370:=by kernel_rfl
theorem nR {W : World} {l : List (String × DataW Unit)} (hm : ("errors.errorType", (Rows.laid_errors_errorType : DataW Unit)) ∈ l) (h : handlesMet Tryz.prog l W) :
  W.cell? ⟨0,0,none⟩=some (.iface 286 (.agg #[.pointer (some ⟨2,128,none⟩)])):=by
 obtain ⟨name,u,ty,d,i,j,m,b⟩:=h _ hm
 have o:name=[101,114,114,111,114]:=(Option.some.inj d).symm
 subst o
 obtain rfl:=Option.some.inj (Je.symm.trans i)
 have hm:ty∈(List.range 370).filter fun t=>Tryz.prog.rowNamed t [101,114,114,111,114]:=ch.2 ⟨cU.2 (by rw [←Ft];exact j),m⟩
 rw [IH] at hm
 obtain rfl:=ax.1 hm
 have q:typeHandle Tryz.prog 128 = .pointer (some ⟨2,128,none⟩):=by kernel_rfl
 rw [q] at b
 simpa using World.var?_cell Jy b 0
noncomputable def mr (os:Os):World :=
 let b:=World.holding Tryz.prog os ⟨#[],#[],[]⟩
 {b with heap:=(b.heap.modify 0 fun
   | .cells _ t frozen => .cells #[.iface 286 (.agg #[.pointer (some ⟨2,128,none⟩)])] t frozen
   | o=>o).modify 1 fun
   | .cells _ t frozen => .cells #[.int .i64 6,.int .i64 4,.int .i64 5,.int .i64 4,.int .i64 2,.int .i64 2] t frozen
   | o=>o}
section
variable {H:Type} {enc:TypeId×Value→H} {P:Program}
theorem rD {W W':World} (hl:laidOutB P=true) (r:Below W.heap.size W W'):∀ (i:List TypeId) (j:List Value) (l:List (DataW H)) (ps:List MemPlace),
  (∀ t∈i,P.readableRec t=true∧t<P.types.size)→DataW.TrodAll enc P W 0 (fun _=>true) true i j l ps→(∀ x∈ps,x.block<W.heap.size)→
  DataW.TrodAll enc P W' 0 (fun b=>decide (b<W.heap.size)) true i j l ps
 | [],[],[],_,_,h,_=>h
 | t::i,v::j,d::l,ps,s,h,m=>by
  obtain ⟨p,q,h1,h2,rfl⟩:=h
  have u:=s t bV
  exact ⟨p,q,Below.trod hl u.1 u.2 h1 r (fun x o=>m x (dR _ o)),
   rD hl r i j l q (fun t' y=>s t' (aR _ y)) h2 (fun x o=>m x (List.mem_append_right _ o)),rfl⟩
 | [],_::_,_,_,_,h,_=>h.elim
 | [],[],_::_,_,_,h,_=>h.elim
 | _::_,[],_,_,_,h,_=>h.elim
 | _::_,_::_,[],_,_,h,_=>h.elim
theorem AL {f:Func} {s:ChangeSpec} {W W':World} {args:Array Value} {b gs:List (DataW H)} {before:List MemPlace} {o:TypeId}
  (l:DataW.Whole enc P f.params.toList s.vars false W args.toList b gs before) (r:s.vars=[]) (C:f.resultTypes=#[o]) (D:P.underlying o=some .bool)
  (m:(s.fn H (b++gs)).results=[.lit (.bool true)]) (i:(s.fn H (b++gs)).args=b) (j:(s.fn H (b++gs)).vars=[])
  (hl:laidOutB P=true) (E:∀ t∈f.params.toList,P.readableRec t=true∧t<P.types.size) (u:Below W.heap.size W W') :
  s.post enc P f false true false false W args (.bool true) W':=by
 have y:∀ x∈before,x.block<W.heap.size:=fun x d=>l.lt x d
 have B:=l
 obtain ⟨p,q,h1,h2,rfl,_,_⟩:=l
 rw [r] at h2
 obtain ⟨rfl,rfl⟩:=trodVars_none h2
 refine ⟨b,[],p++[],[],p,[],B,?_,?_,?_,World.keptBut_mono (fun x d=>⟨d,.inr (.inl (by simpa using d))⟩) (u.frame (·∈p++[])),fun h=>by cases h⟩
 ·rw [C,m]
  exact ⟨[],[],shut_bool D true,rfl,rfl⟩
 ·rw [i]
  exact rD hl u _ _ _ _ E h1 (fun x d=>y x (dR _ d))
 ·rw [r,j]
  rfl
end
theorem laidOut:laidOutB Tryz.prog=true:=by kernel_rfl
theorem yH {W:World} (h:W.ShapedOpen Tryz.prog):2≤W.heap.size:=by
 have hc:(((begin Tryz.prog (fun _ _=>0) default).world.heap[1]?).bind Obj.row?).isSome=true:=by kernel_rfl
 obtain ⟨⟨z,t⟩,d⟩:=cC.1 hc
 obtain ⟨cs,b,_⟩:=h.1 1 z t (by show 1<Tryz.prog.globals.size;exact (by kernel_rfl:Tryz.prog.globals.size=2)▸(by decide)) d
 exact (cm.1 b).1
end Go.Proofs.YtkkfmkhbdoeglabGreatDoor
namespace Go.Proofs.YtkkfmkhbdoeglabGreatDoor
open Go.ChangeShapes Go.WideShapes Go.ChangeAt Go.RowKit Go.Deep
def te {α:Type} (t:TypeId) (R:World→List Value→α→Prop):Prop :=
 ∀ {H:Type} {enc:TypeId×Value→H} {w:World} {base:Nat} {spare:Nat→Bool} {held:Bool} {fuel:Nat} {cs:List Value} {x:DataW H×List MemPlace},
  DataW.trod enc Tryz.prog w base spare held fuel t cs=some x→(∀ y∈x.1.weights Tryz.prog t,y≤reachBytes)→∃ a : α,R w cs a
def G8 (k:IntKind) (_:World) (cs:List Value) (n:Int):Prop:=cs=[.int k n]∧(Lit.int k n).wf=true
theorem C5 {t:TypeId} {k:IntKind} (b:Tryz.prog.underlying t=some (.int k)):te t (G8 k):=by
 intro H enc w base spare held fuel cs x h _
 obtain ⟨z,hc,rfl,hw⟩:=DataW.trod_int b h
 exact ⟨z,hc,hw⟩
def yS {α:Type} (C:Nat) (m:Nat) (R:World→List Value→α→Prop) (w:World) (cs:List Value) (l:List α):Prop :=
 l.length≤m∧∃ a cap,cs=[.slice a l.length cap]∧l.length≤cap∧∀ i (h:i<l.length),∃ b off,a=some ⟨b,off,none⟩∧∃ d,d.length=C∧(∀ j,j<C→w.cell? ⟨b,off+i*C+j,none⟩=d[j]?)∧R w d l[i]
theorem qj {H:Type} {P:Program} {e:TypeId} {d:DataW H} {y:Nat} : ∀ {l:List (DataW H)},d∈l→y∈d.weights P e→y∈DataW.weightsAll P e l
 | [],h,_=>by cases h
 | x::l,h,b=>by
  simp only [DataW.weightsAll,bE]
  rcases aP.1 h with rfl | h
  ·exact .inl b
  ·exact .inr (qj h b)
theorem E9 {w:World} {a:Addr} {v:Value} (h:w.cell? a=some v):a=⟨a.block,a.off,none⟩:=by
 obtain ⟨b,o,s⟩:=a
 unfold World.cell? at h
 split at h
 ·split at h
  ·cases h
  ·rename_i hs
   cases s with
   | none=>rfl
   | some _=>simp at hs
 ·cases h
theorem sO {α:Type} [Inhabited α] {t e:TypeId} {C m:Nat} {R:World→List Value→α→Prop} (E:Tryz.prog.underlying t=some (.slice e)) (N:Tryz.prog.cellsOf e=C) (r:0<C) (F:∀ n,n*Tryz.prog.bytesOf e≤reachBytes→n≤m) (O:te e R) :
  te t (yS C m R):=by
 intro H enc w base spare held fuel cs x h hw
 rcases open_slice E h with ⟨rfl,rfl⟩ | ⟨a,len,cap,Q,n,D,Y,rfl,Z,hl,hm,G,rfl,S⟩
 ·exact ⟨[],aM _,none,0,rfl,af _,fun i d=>absurd d (by simp)⟩
 ·have hle:len≤Q:=by rw [G];split <;> omega
  simp only [DataW.weights,E] at hw
  have U:∀ i,i<len→∀ y∈(D i).weights Tryz.prog e,y≤reachBytes:=fun i d y W=>by
   refine hw y (aR _ (dR _ ?_))
   exact qj (aB.2 ⟨i,cU.2 d,rfl⟩) W
  have hlen:len≤m:=by
   refine F len ?_
   have:=hw _ bV
   simp only [aG,fK] at this
   exact aH (cR _ (eh _ _)) this
  obtain ⟨V,I⟩:=choose_lt (α := α) (n:=len) (p:=fun i v=>∃ b,b.length=C∧(∀ j,j<C→w.cell? (a.add (i*C+j))=b[j]?)∧R w b v) (fun i d=>by
   obtain ⟨b,h1,h2⟩:=S i (by omega)
   rw [N] at h1
   obtain ⟨_,o,l⟩:=World.cells?_some h1
   obtain ⟨v,s⟩:=O h2 (U i d)
   exact ⟨v,b,o,fun j u=>by rw [←add_add];exact l j u,s⟩)
  refine ⟨(List.range len).map V,by simpa using hlen,some a,cap,by simp,by simpa using hl,fun i d => ?_⟩
  have J:i<len:=by simpa using d
  obtain ⟨b,M,l,s⟩:=I i J
  have q:∃ v,w.cell? (a.add (0*C+0))=some v:=by
   obtain ⟨c0,X,B,_⟩:=I 0 (by omega)
   rw [B 0 r]
   exact ⟨c0[0],ay (by omega)⟩
  obtain ⟨v0,q⟩:=q
  have ha:a=⟨a.block,a.off,none⟩:=by
   have:a.add (0*C+0)=a:=by simp [Addr.add]
   rw [this] at q
   exact E9 q
  refine ⟨a.block,a.off,by rw [←ha],b,M,fun j u => ?_,by simpa using s⟩
  have:=l j u
  rw [ha,eZ] at this
  rw [aW]
  exact this
theorem pU {H:Type} {P:Program} {y:Nat} : ∀ {b:List TypeId} {j:List (DataW H)} {i:Nat} {t:TypeId} {d:DataW H},b[i]?=some t→j[i]?=some d→y∈d.weights P t→y∈DataW.weightsEach P b j
 | [],_,i,_,_,h,_,_=>by simp at h
 | _::_,[],i,_,_,_,h,_=>by simp at h
 | t'::b,d'::j,0,t,d,h1,h2,l=>by
  simp only [bB,eP] at h1 h2
  subst h1 h2
  simp only [DataW.weightsEach,bE]
  exact .inl l
 | t'::b,d'::j,i+1,t,d,h1,h2,l=>by
  simp only [aY] at h1 h2
  simp only [DataW.weightsEach,bE]
  exact .inr (pU h1 h2 l)
theorem G8.i64 {w:World} {cs:List Value} {n:Int} (h:G8 .i64 w cs n) : -9223372036854775808≤n∧n≤9223372036854775807:=bounds_i64 h.2
def Small {H:Type} (t:TypeId) (d:DataW H):Prop:=∀ y∈d.weights Tryz.prog t,y≤reachBytes
theorem tU {H:Type} {b:List TypeId} {j:List (DataW H)} (h:(DataW.weightsEach Tryz.prog b j).all (·≤reachBytes)=true) (i:Nat) {t:TypeId} {d:DataW H} (l:b[i]?=some t) (hd:j[i]?=some d):Small t d :=
 fun y m=>dE (fe.1 h y (pU l hd m))
section
variable {H:Type} {enc:TypeId×Value→H} {P:Program} {w:World} {base b0:Nat} {spare:Nat→Bool} {held:Bool} {t:TypeId} {v:Value} {d:DataW H} {p:List MemPlace}
theorem th {α:Type} {R:World→List Value→α→Prop} {e:TypeId} (b:P.underlying t=some (.slice e)) (i:Value.okWide P w .any b0 t v) (h:DataW.Trod enc P w base spare held t v d p) (j:∀ {fuel:Nat} {cs:List Value},DataW.trod enc P w base spare held fuel t cs=some (d,p)→∃ a,R w cs a):∃ a,R w [v] a:=by
 obtain ⟨a,len,cap,rfl⟩:=okWide_slice b i
 obtain ⟨fuel,l⟩:=h
 exact j l
theorem sj {k:IntKind} (b:P.underlying t=some (.int k)) (i:Value.okWide P w .any b0 t v) (h:DataW.Trod enc P w base spare held t v d p):∃ n,v = .int k n∧(Lit.int k n).wf=true:=by
 obtain ⟨m,rfl⟩:=okWide_int b i
 obtain ⟨fuel,j⟩:=h
 obtain ⟨n,h1,-,h2⟩:=DataW.trod_int b j
 exact ⟨n,by simpa [Value.cells] using h1,h2⟩
end
def JF:=G8 .i64
theorem C4:te 3 JF:=C5 Tryz.underlying3
def zT:=yS 1 17592186044416 JF
theorem FF:Tryz.prog.bytesOf 3=8:=by kernel_rfl
theorem uy:te 22 zT:=sO Tryz.underlying22 (by kernel_rfl) (by omega) (fun n h=>by rw [FF] at h;unfold reachBytes at h;omega) C4
theorem zT.view {w:World} {v:Value} {l:List Int} (h:zT w [v] l):l.length≤gF∧(∀ x∈l,-9223372036854775808≤x∧x≤9223372036854775807)∧fW w v 1 l.length (l.map fun x => .int .i64 x):=by
 obtain ⟨hm,a,cap,s,hc,m⟩:=h
 cases s
 refine ⟨by unfold gF;omega,fun x o => ?_,by simp,a,cap,rfl,hc,fun i d => ?_⟩
 ·obtain ⟨i,d,rfl⟩:=cF o
  obtain ⟨b,off,-,q,-,-,j⟩:=m i d
  exact j.i64
 ·rw [aG] at d
  obtain ⟨b,off,rfl,q,hl,r,j⟩:=m i d
  refine ⟨b,off,rfl,?_⟩
  have:=r 0 (by omega)
  rw [j.1] at this
  simpa using this
end Go.Proofs.YtkkfmkhbdoeglabGreatDoor
namespace Go.Proofs.YtkkfmkhbdoeglabGreatDoor
open Go.ChangeShapes Go.WideShapes Go.ChangeAt Go.RowKit Go.Deep
theorem CT {cs:List Value} (h:cs.length=2):∃ a b,cs=[a,b]:=by
 match cs,h with
 | [a,b],_=>exact ⟨a,b,rfl⟩
theorem Jv:Tryz.prog.cellsOf 3=1:=by kernel_rfl
instance:Inhabited OpB:=⟨⟨0,0,[],[]⟩⟩
def JH (_:World) (cs:List Value) (o:OpB):Prop:=cs=[.int .i64 o.kind,.int .i64 o.table,.string ⟨o.key.toArray⟩,.string ⟨o.val.toArray⟩]∧o.key.length≤gF∧o.val.length≤gF∧
 (-9223372036854775808≤o.kind∧o.kind≤9223372036854775807)∧(-9223372036854775808≤o.table∧o.table≤9223372036854775807)
def I8:=yS 4 2932031007402 JH
theorem Ew {w:World} {b off C:Nat} {xs:List Value} {n:Nat} (d:0<C) (hl:xs.length=n*C) (h:∀ i,i<n→∀ j,j<C→w.cell? ⟨b,off+i*C+j,none⟩=xs[i*C+j]?):∀ k (hk:k<xs.length),w.cell? ⟨b,off+k,none⟩=some xs[k]:=by
 intro k hk
 have h1:k / C<n:=Nat.div_lt_of_lt_mul (by rw [Nat.mul_comm];omega)
 have h2:k%C<C:=Nat.mod_lt _ d
 have e:k / C*C+k%C=k:=by rw [Nat.mul_comm];exact Nat.div_add_mod k C
 have:=h (k / C) h1 (k%C) h2
 rw [aW,e] at this
 rw [this]
 exact ay hk
theorem I8.view {w:World} {v:Value} {l:List OpB} (h:I8 w [v] l):l.length≤2932031007402∧lF l∧ix w v l:=by
 obtain ⟨hm,a,cap,y,hc,q⟩:=h
 cases y
 refine ⟨hm,fun o B => ?_,?_⟩
 ·obtain ⟨i,d,rfl⟩:=cF B
  obtain ⟨b,off,-,s,-,-,m⟩:=q i d
  exact ⟨m.2.1,m.2.2.1⟩
 ·refine ⟨jw l,a,cap,rfl,hc,fun k hk => ?_⟩
  have r:0<l.length:=by rw [jw] at hk;omega
  obtain ⟨b,off,rfl,-⟩:=q 0 r
  refine ⟨b,off,rfl,Ew (C:=4) (n:=l.length) (by omega) (jw l) (fun i d j u => ?_) k hk⟩
  obtain ⟨I,D,he,s,hl,x,m⟩:=q i d
  cases he
  rw [x j u,m.1]
  obtain ⟨e0,E,F,G⟩:=nU l i d
  match j,u with
  | 0,_=>exact e0.symm
  | 1,_=>exact E.symm
  | 2,_=>exact F.symm
  | 3,_=>exact G.symm
theorem E4 {H:Type} {enc:TypeId×Value→H} {w:World} {base:Nat} {spare:Nat→Bool} {held:Bool} {fuel:Nat} {cs:List Value} {a b:Int} {p:List MemPlace}
  (h:DataW.trod enc Tryz.prog w base spare held fuel 311 cs=some (.agg [.lit (.int .i64 a),.lit (.int .i64 b)],p)):cs=[.int .i64 a,.int .i64 b]:=by
 obtain ⟨xs,n,-,q,hl,r,j⟩:=DataW.trod_struct Tryz.underlying311 h
 have d:=j 0 _ rfl
 have h1:=j 1 _ rfl
 have c:Tryz.prog.cellsOf 311=2:=by kernel_rfl
 have d:DataW.trod enc Tryz.prog w base spare held n 3 ((cs.drop 0).take (Tryz.prog.cellsOf 3))=xs[0]?:=d
 have h1:DataW.trod enc Tryz.prog w base spare held n 3 ((cs.drop 1).take (Tryz.prog.cellsOf 3))=xs[1]?:=h1
 rw [Jv] at d h1
 rw [c] at hl
 obtain ⟨c0,c1,rfl⟩:=CT hl
 have i:xs.map (·.1)=[.lit (.int .i64 a),.lit (.int .i64 b)]:=by
  have:=aZ Prod.fst q
  simpa using this.symm
 have e0:(xs.map (·.1))[0]?=some (.lit (.int .i64 a)):=by rw [i];rfl
 have l:(xs.map (·.1))[1]?=some (.lit (.int .i64 b)):=by rw [i];rfl
 rw [bd] at e0 l
 obtain ⟨s,g0,f0⟩:=ck.1 e0
 obtain ⟨u,g1,f1⟩:=ck.1 l
 rw [g0] at d
 rw [g1] at h1
 obtain ⟨z0,m,rfl,-⟩:=DataW.trod_int Tryz.underlying3 d
 obtain ⟨x,o,rfl,-⟩:=DataW.trod_int Tryz.underlying3 h1
 simp at m o f0 f1
 rw [m,o,f0,f1]
theorem qw {W : World} (hs : 2 ≤ W.heap.size) (h : laidMet Tryz.prog [("overlay/overlay.shapes", Rows.laid_overlay_overlay_shapes)] W) : ShapesVar W := by
 obtain ⟨ps,⟨N,t',cs,fuel,p,q,x,B,r,hd,_,_⟩,_⟩:=h
 have C : Tryz.prog.globalNamed "overlay/overlay.shapes" = some 1 := by kernel_rfl
 obtain rfl:=Option.some.inj (C.symm.trans x)
 have G:(Tryz.prog.globals[1]?).map (·.type)=some 312:=by kernel_rfl
 obtain rfl:=Option.some.inj (G.symm.trans B)
 have ce:Tryz.prog.cellsOf 311=2:=by kernel_rfl
 have I:Tryz.prog.cellsOf 312=6:=by kernel_rfl
 have j:∀ i a b,((Rows.laid_overlay_overlay_shapes:DataW Unit) = .agg [.agg [.lit (.int .i64 6),.lit (.int .i64 4)],.agg [.lit (.int .i64 5),.lit (.int .i64 4)],.agg [.lit (.int .i64 2),.lit (.int .i64 2)]])→
   ([.agg [.lit (.int .i64 6),.lit (.int .i64 4)],.agg [.lit (.int .i64 5),.lit (.int .i64 4)],.agg [.lit (.int .i64 2),.lit (.int .i64 2)]]:List (DataW Unit))[i]?=some (.agg [.lit (.int .i64 a),.lit (.int .i64 b)])→
   cs[i*2]?=some (.int .i64 a)∧cs[i*2+1]?=some (.int .i64 b):=by
  intro i a b s D
  rw [s] at hd
  cases fuel with
  | zero=>simp [DataW.trod] at hd
  | succ n =>
   simp only [DataW.trod,Tryz.underlying312,ce,I] at hd
   split at hd
   ·obtain ⟨xs,hm,J⟩:=ck.1 hd
    have l:=aZ Prod.fst J
    simp only [DataW.agg.injEq] at l
    rw [←l,bd] at D
    obtain ⟨y,E,m⟩:=ck.1 D
    have F:i<3:=by
     have h1:=(aF.1 E).1
     have h2:=Lib.mapM_length hm
     rw [fK] at h2
     omega
    obtain ⟨O,o,M⟩:=Lib.mapM_at hm i i (by rw [List.getElem?_range F])
    rw [E] at o
    obtain rfl:=Option.some.inj o
    obtain ⟨Q,R⟩:=y
    simp only at m
    subst m
    have:=E4 M
    have e0:=aZ (·[0]?) this
    have u:=aZ (·[1]?) this
    simp only [List.getElem?_take,dy] at e0 u
    simp at e0 u
    exact ⟨e0,u⟩
   ·cases hd
 have d:=World.var?_cell C r
 have r0:=j 0 6 4 rfl rfl
 have r1:=j 1 5 4 rfl rfl
 have r2:=j 2 2 2 rfl rfl
 exact ⟨hs,(d 0).trans (by simpa using r0.1),(d 1).trans (by simpa using r0.2),(d 2).trans (by simpa using r1.1),(d 3).trans (by simpa using r1.2),(d 4).trans (by simpa using r2.1),(d 5).trans (by simpa using r2.2)⟩
theorem wW (os : Os) (args : Array Value) : laidMet Tryz.prog [("overlay/overlay.shapes", Rows.laid_overlay_overlay_shapes)] ((mr os).forCall (fun _ _ => 0) ⟨#[], args, []⟩).memory :=
 laidMet_of_run' 8 (by kernel_rfl) (by kernel_rfl)
end Go.Proofs.YtkkfmkhbdoeglabGreatDoor
namespace Go.Proofs.YtkkfmkhbdoeglabGreatDoor
open Go.ChangeShapes Go.WideShapes Go.ChangeAt Go.RowKit Go.Deep
def oc (w:World) (v:Value) (b:List (List Int)):Prop:=∃ vals:List Value,fW w v 1 b.length vals∧∀ (i:Nat) (l:List Int),b[i]?=some l→∃ u,vals[i]?=some u∧kj w u l
theorem oc.below {w w':World} {v:Value} {b:List (List Int)} (h:oc w v b) (d:Below w.heap.size w w'):oc w' v b:=by
 obtain ⟨vals,h1,h2⟩:=h
 refine ⟨vals,h1.below d,fun i l j => ?_⟩
 obtain ⟨u,hu,h3⟩:=h2 i l j
 exact ⟨u,hu,h3.below d⟩
theorem oc.opened {w:World} {v:Value} {b:List (List Int)} (h:oc w v b):∃ a cap,v = .slice a b.length cap∧b.length≤cap∧∀ (i:Nat) (l:List Int),b[i]?=some l→∃ g off u,a=some ⟨g,off,none⟩∧w.cell? ⟨g,off+i,none⟩=some u∧kj w u l:=by
 obtain ⟨vals,⟨hl,a,cap,j,hc,m⟩,h2⟩:=h
 refine ⟨a,cap,j,hc,fun i l o => ?_⟩
 obtain ⟨u,hu,h3⟩:=h2 i l o
 obtain ⟨d,rfl⟩:=aF.1 hu
 obtain ⟨g,off,q,r⟩:=m i d
 exact ⟨g,off,_,q,r,h3⟩
def BQ:=yS 1 5864062014805 zT
theorem Jc:Tryz.prog.cellsOf 22=1:=by kernel_rfl
theorem El:Tryz.prog.bytesOf 22=24:=by kernel_rfl
theorem uz:te 73 BQ:=sO Tryz.underlying73 Jc (by omega) (fun n h=>by rw [El] at h;unfold reachBytes at h;omega) uy
theorem BQ.view {w:World} {v:Value} {d:List (List Int)} (h:BQ w [v] d):d.length≤5864062014805∧(∀ l∈d,l.length≤gF∧∀ x∈l,-9223372036854775808≤x∧x≤9223372036854775807)∧oc w v d:=by
 obtain ⟨hm,a,cap,B,hc,C⟩:=h
 cases B
 have key:∀ i:Fin d.length,∃ u:Value,(∃ b off,a=some ⟨b,off,none⟩∧w.cell? ⟨b,off+i.1,none⟩=some u)∧zT w [u] d[i.1]:=by
  intro i
  obtain ⟨b,off,e,q,hl,r,m⟩:=C i.1 i.2
  match q,hl with
  | [u],_ =>
   have o:=r 0 (by omega)
   rw [Nat.mul_one,cz] at o
   exact ⟨u,⟨b,off,e,o⟩,m⟩
 refine ⟨hm,fun l hl => ?_,List.ofFn (fun i=>Classical.choose (key i)),⟨by simp,a,cap,rfl,hc,fun i j => ?_⟩,fun i l s => ?_⟩
 ·obtain ⟨i,j,rfl⟩:=cF hl
  obtain ⟨u,-,m⟩:=key ⟨i,j⟩
  obtain ⟨h1,h2,-⟩:=m.view
  exact ⟨h1,h2⟩
 ·have y:i<d.length:=by simpa using j
  obtain ⟨⟨b,off,e,o⟩,-⟩:=Classical.choose_spec (key ⟨i,y⟩)
  refine ⟨b,off,e,?_⟩
  rw [List.getElem_ofFn]
  exact o
 ·obtain ⟨j,rfl⟩:=aF.1 s
  obtain ⟨-,m⟩:=Classical.choose_spec (key ⟨i,j⟩)
  obtain ⟨-,-,h3⟩:=m.view
  exact ⟨_,by rw [List.getElem?_ofFn];simp [j],h3⟩
end Go.Proofs.YtkkfmkhbdoeglabGreatDoor
