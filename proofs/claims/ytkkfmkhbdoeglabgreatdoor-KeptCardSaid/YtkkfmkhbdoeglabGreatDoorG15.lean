/- A part of what is proved here: lemmas and contracts of single functions. No condition but those that each names. -/
import Derived.Test.YtkkfmkhbdoeglabGreatDoorG00
import Derived.Deep.DeepCutAuto
import Derived.Test.YtkkfmkhbdoeglabGreatDoorG09
import Derived.Test.YtkkfmkhbdoeglabGreatDoorG13
import Derived.Test.YtkkfmkhbdoeglabGreatDoorG14
set_option maxHeartbeats 4000000
set_option maxRecDepth 100000
namespace Go.Proofs.YtkkfmkhbdoeglabGreatDoor
open Go.RowKit Go.Shelf
attribute [local go_sem] Oper.semAt_some
def jK (x:E):List UInt8:=UInt8.ofNat x.1.1.toNat::(x.1.2++x.2)
def jE (l:List E):List UInt8:=l.flatMap jK
def gX (v:Nat) (S:List E):List UInt8:=be8 v++[UInt8.ofNat (S.length / 256),UInt8.ofNat S.length]++jE S
theorem Cy (l:List E) (x:E):jE (l++[x])=jE l++jK x:=by simp [jE]
theorem TabAt.len {w:World} {r:Nat} {S:List E} (h:TabAt w r S) (ty:TypeId):(Builtin.len_ #[162] ty #[.map (some r)]).run Tryz.prog w = .ok (.int .i64 (S.length:Int)) w:=by
 obtain ⟨-,L,⟨es,clock,b,he,-⟩,d⟩:=h
 have i:es.size=S.length:=by
  have h1:=aZ List.length he
  have h2:=d.length_eq
  simp at h1 h2
  omega
 rw [←i]
 simp [Builtin.len_,aL Tryz.underlying162,aK b,goInt,Result.andThen]
theorem BJ (n:Nat):IntKind.u8.wrap (n:Int)=((UInt8.ofNat n).toNat:Int):=by
 simp [IntKind.wrap,IntKind.bits,IntKind.signed]
theorem Fs (w:World) (n:Nat):BytesAt (w.alloc (.cells #[.int .u8 (IntKind.u8.wrap ((n:Int) / 256)),.int .u8 (IntKind.u8.wrap (n:Int))] 5)) (.slice (some ⟨w.heap.size,0,none⟩) 2 2) [UInt8.ofNat (n / 256),UInt8.ofNat n]:=by
 rw [show (n:Int) / 256=((n / 256:Nat):Int) by omega,BJ,BJ]
 refine ⟨rfl,_,2,rfl,af _,fun i b=>⟨w.heap.size,0,rfl,?_⟩⟩
 rw [bG,lY]
 have d:i<2:=b
 have:i=0∨i=1:=by omega
 rcases this with rfl | rfl <;> rfl
theorem qq {W:World} {base n:Nat} {v:Value} {l:List UInt8} (h:OwnS W base 1 v n (u8s l)) (hl:2≤l.length) {B:Nat} {u:Value} {t:TypeId} (b:W.heap[B]?=some (.cells #[u] t (0,0))):v.ownBlock≠some B:=by
 obtain ⟨hlen,⟨rfl,-⟩ | ⟨g,off,cap,rfl,-,-,-,-,hc,-⟩⟩:=h
 ·simp [Value.ownBlock]
 ·intro e
  obtain rfl:g=B:=by simpa [Value.ownBlock] using e
  have h1:=hc 1 (by rw [iY];omega)
  rw [ae _ _ _ _ _ _ b] at h1
  have h2:(#[u]:Array Value)[off+1]?=none:=by simp
  rw [h2] at h1
  cases h1
section
variable {w2 w3:World} {base n:Nat} {bv:Value} {l:List UInt8} {u:Value} {t:TypeId}
theorem Ej (h:OwnS w2 base 1 bv n (u8s l)) (hl:2≤l.length) {b:Obj} (d:((w2.alloc (.cells #[u] t (0,0))).alloc b).grownBy w3 bv.ownBlock):w3.heap[w2.heap.size]?=some (.cells #[u] t (0,0)):=by
 have h9:=fX (w2.alloc (.cells #[u] t (0,0))) b (fR w2 (.cells #[u] t (0,0)))
 have i:Below w2.heap.size w2 ((w2.alloc (.cells #[u] t (0,0))).alloc b):=((Below.refl _ w2).alloc (af _) _).alloc (by simp) _
 exact (d.block w2.heap.size (fO h9) (qq (h.below i) hl h9).symm).trans h9
theorem Cd (h:OwnS w2 base 1 bv n (u8s l)) (hl:2≤l.length) {b:Obj} (d:((w2.alloc b).alloc (.cells #[u] t (0,0))).grownBy w3 bv.ownBlock):w3.heap[w2.heap.size+1]?=some (.cells #[u] t (0,0)):=by
 have h9:=fR (w2.alloc b) (.cells #[u] t (0,0))
 rw [aw] at h9
 have i:Below w2.heap.size w2 ((w2.alloc b).alloc (.cells #[u] t (0,0))):=((Below.refl _ w2).alloc (af _) _).alloc (by simp) _
 exact (d.block (w2.heap.size+1) (fO h9) (qq (h.below i) hl h9).symm).trans h9
theorem Ei (h:OwnS w2 base 1 bv n (u8s l)) (hl:2≤l.length) {B:Nat} (d:w2.heap[B]?=some (.cells #[u] t (0,0))) {b:Obj} (i:(w2.alloc b).grownBy w3 bv.ownBlock):w3.heap[B]?=some (.cells #[u] t (0,0)):=by
 have h9:=fX w2 b d
 have j:Below w2.heap.size w2 (w2.alloc b):=(Below.refl _ w2).alloc (af _) _
 exact (i.block B (fO h9) (qq (h.below j) hl h9).symm).trans h9
end
theorem yf {S:List E} (h:∀ x∈S,0≤x.1.1∧x.1.1<256∧x.1.2.length≤100∧x.2.length≤100):∀ pre:List {x:E // x∈S},(jE (pre.map Subtype.val)).length≤201*pre.length
 | []=>aM _
 | x::pre=>by
  have h1:=yf h pre
  obtain ⟨-,-,h2,h3⟩:=h x.1 x.2
  have e:(jE ((x::pre).map Subtype.val)).length=1+x.1.1.2.length+x.1.2.length+(jE (pre.map Subtype.val)).length:=by
   simp [jE,jK];omega
  rw [e,ar]
  omega
theorem Em (k:Int) (b:0≤k) (h1:k<256) (w:World):(Go.convert 3 5 (.int .i64 k)).run Tryz.prog w = .ok (.int .u8 k) w:=by
 simp [go_sem]
 exact IntWalk.u8_in k (by omega)
theorem Gl (k:Int) (b:0≤k) (h1:k<256) (w:World):BytesAt (w.alloc (.cells #[.int .u8 k] 5)) (.slice (some ⟨w.heap.size,0,none⟩) 1 1) [UInt8.ofNat k.toNat]:=by
 have h:=qn w (UInt8.ofNat k.toNat)
 have e:((UInt8.ofNat k.toNat).toNat:Int)=k:=by simp;omega
 rw [e] at h
 exact h
def Il {S:List E} (base b d q off:Nat) (w:World) (l:List UInt8) (pre:List {x:E // x∈S}) (W:World):Prop :=
 (∃ bv,jm base b (l++jE (pre.map Subtype.val)) bv W)∧Boxed W d 219 (.pointer (some ⟨q,off,none⟩))∧Below base w W
theorem Fp {S:List E} {base i j q off B:Nat} {w:World} {l:List UInt8} (m:base≤B) (hw:base≤w.heap.size):OwnFrom B (Il (S:=S) base i j q off w l):=by
 rintro pre X Y row ⟨⟨bv,o⟩,h1,h2⟩ b d
 refine ⟨⟨bv,o.kept b fun r e=>(d r e).2⟩,?_,(ownFrom_below (β:=Unit) hw m) () X Y row h2 b d⟩
 exact (Own.from (boxed_own (β:=Unit) _ _ (fun _=>_)) B) () X Y row h1 b d
theorem GV (q off r v:Nat) (S:List E) (w:World) (he:EntAt w q off r S) (hS:S.length<65536) (hv:v<18446744073709551616) (hb:∀ x∈S,0≤x.1.1∧x.1.1<256∧x.1.2.length≤100∧x.2.length≤100) :
  Calls Tryz.prog 206 #[.int .u64 v,.pointer (some ⟨q,off,none⟩)] w fun e w'=>∃ bv,e = .returned bv∧OwnS w' w.heap.size 1 bv (gX v S).length (u8s (gX v S))∧Below w.heap.size w w':=by
 have hc:=he.cell
 have hlen:=he.tab.len (ty:=3)
 have Q:=ab (fun (W:World) (hW:Below w.heap.size w W)=>(he.below hW).tab.len (ty:=3))
 have hq:=he.lt
 have hr:=he.tab.lt
 refine (callsIn_wide (n:=9)).1 ?_
 refine callsIn_of_wp_marks Tryz.func206 rfl cL ?_ rfl
 try simp only [Tryz.ntmps206,dC,ar,aJ,Nat.reduceAdd,Nat.reduceSub,bf,bu,bT,dG,aO,aX]
 gi_wp2_with fail
 have bo:∀ W,Below w.heap.size w W→W.cell? ⟨q,off,none⟩=some (.map (some r)):=fun W hW=>(hW.cell (p:=⟨q,off,none⟩) hq).trans hc
 have s:=ab bo
 clear bo
 have a0:=fun W=>Fs W S.length
 refine wpIn_wide.2 ?_
 go_upto_region 1 with fail
 go_cut [5] from 8 to 42 (fun b wx=>∃ Bb bv,b = .pointer (some ⟨Bb,0,none⟩)∧jm w.heap.size Bb (be8 v++[UInt8.ofNat (S.length / 256),UInt8.ofNat S.length]) bv wx∧Below w.heap.size w wx)
 case first =>
  go_region_held3 (fun w'=>Below w.heap.size w w'∧w'.cell? ⟨q,off,none⟩=some (.map (some r))∧(Builtin.len_ #[162] 3 #[.map (some r)]).run Tryz.prog w' = .ok (.int .i64 (S.length:Int)) w')
   (first | exact ⟨(Below.refl _ _).drew,s.out _ (Below.refl _ _).drew,Q.out _ (Below.refl _ _).drew⟩ | exact ⟨((Below.refl w.heap.size w).drew.alloc (af _) _),s.out _ ((Below.refl w.heap.size w).drew.alloc (af _) _),Q.out _ ((Below.refl w.heap.size w).drew.alloc (af _) _)⟩ | exact ⟨(((Below.refl w.heap.size w).alloc (af _) _).drew),s.out _ (((Below.refl w.heap.size w).alloc (af _) _).drew),Q.out _ (((Below.refl w.heap.size w).alloc (af _) _).drew)⟩ | exact ⟨d,s.out _ d,Q.out _ d⟩ | exact ⟨(d.alloc d.size _),s.out _ (d.alloc d.size _),Q.out _ (d.alloc d.size _)⟩ | exact ⟨((d.alloc d.size _).alloc (by have:=d.size;simp;omega) _),s.out _ ((d.alloc d.size _).alloc (by have:=d.size;simp;omega) _),Q.out _ ((d.alloc d.size _).alloc (by have:=d.size;simp;omega) _)⟩ | exact ⟨i,s.out _ i,Q.out _ i⟩ | exact ⟨(i.alloc i.size _),s.out _ (i.alloc i.size _),Q.out _ (i.alloc i.size _)⟩ | exact ⟨(i.setCell (p:=⟨w.heap.size,0,none⟩) (af _) _),s.out _ (i.setCell (p:=⟨w.heap.size,0,none⟩) (af _) _),Q.out _ (i.setCell (p:=⟨w.heap.size,0,none⟩) (af _) _)⟩ | exact ⟨(i.setCell (p:=⟨w2.heap.size,0,none⟩) d.size _),s.out _ (i.setCell (p:=⟨w2.heap.size,0,none⟩) d.size _),Q.out _ (i.setCell (p:=⟨w2.heap.size,0,none⟩) d.size _)⟩ | exact ⟨(i.setCell (p:=⟨w2.heap.size+1,0,none⟩) (by have:=d.size;simp;omega) _),s.out _ (i.setCell (p:=⟨w2.heap.size+1,0,none⟩) (by have:=d.size;simp;omega) _),Q.out _ (i.setCell (p:=⟨w2.heap.size+1,0,none⟩) (by have:=d.size;simp;omega) _)⟩)
   ((first
     | (go_at_call 160;refine (uu _ (.slice none 0 0) [] v _ (OwnS.nil _ _ _) (CellsOf.nil _ _) (af _) (by simp [gF]) hv).mono ?_;rintro e w2 ⟨bv,rfl,a4,a5,al⟩;have br:=ab a5;clear a5;simp only [aJ,bG,aO] at a4;
        have d:Below w.heap.size w w2:=(by first | exact (Below.refl w.heap.size w).drew.trans al | exact (((Below.refl w.heap.size w).alloc (af _) _).drew).trans (al.mono (by simp)) | exact ((Below.refl w.heap.size w).drew.alloc (af _) _).trans (al.mono (by simp)));
        have u:OwnS w2 w.heap.size 1 bv 8 (u8s (be8 v)):=a4.mono (by simp);
        (first
         | (have U:Below w.drew.heap.size w.drew w2:=by with_reducible exact al)
         | (have Q2:Hid (w2.heap[w.heap.size]?=some (.cells #[.slice none 0 0] 112 (0,0))):=ab (fQ al (by simp) (by first | exact fR w _ | exact fR w.drew _)))))
     | (refine lB rfl (.tmp 9) (.tmp 23) rfl w.heap.size bv 8 (be8 v) rfl (by first | exact u.below ((Below.refl _ w2).alloc (af _) _) | exact u.below (((Below.refl _ w2).alloc (af _) _).alloc (by simp) _)) (by first | exact br.out.alloc _ | exact (br.out.alloc _).alloc _) [UInt8.ofNat (S.length / 256),UInt8.ofNat S.length] (by first | exact a0 _ | (have h9:=a0 (w2.alloc (.cells #[.slice none 0 0] 112 (0,0)));rw [aw] at h9;exact h9) | exact BytesAt.below (a0 w2) ((Below.refl _ _).alloc (af _) _)) (by simp) (by have h9:=d.size;simp at h9⊢;omega) ?_;intro v3 w3 J B a6 a7;have aa:=ab a6;clear a6;
        have i:Below w.heap.size w w3:=(by first | exact (d.alloc d.size _).trans a7 | exact ((d.alloc d.size _).alloc (by have:=d.size;simp;omega) _).trans a7);
        obtain ⟨va,a9,rfl⟩:=J.shape;
        (first
         | (have M:Hid (w3.heap[w.heap.size]?=some (.cells #[.slice none 0 0] 112 (0,0))):=ab (Ei u (by rw [gm];omega) Q2.out B);have x0:=ae _ _ 0 _ _ _ M.out;have y0:=aj _ _ 0 _ _ M.out;have l0:=fO M.out)
         | (have M:Hid (w3.heap[w2.heap.size]?=some (.cells #[.slice none 0 0] 112 (0,0))):=ab (Ej u (by rw [gm];omega) B);have x0:=ae _ _ 0 _ _ _ M.out;have y0:=aj _ _ 0 _ _ M.out;have l0:=fO M.out)
         | (have M:Hid (w3.heap[w2.heap.size+1]?=some (.cells #[.slice none 0 0] 112 (0,0))):=ab (Cd u (by rw [gm];omega) B);have x0:=ae _ _ 0 _ _ _ M.out;have y0:=aj _ _ 0 _ _ M.out;have l0:=fO M.out)
         | skip))))
  all_goals go_wp2_with fail
  all_goals go_meet
  ·exact ⟨w3.heap.size,_,rfl,jm.late J (by simp [gm]) aa.out i.size,i.alloc i.size _⟩
  ·exact ⟨w2.heap.size+1,_,rfl,jm.put M.out J (by simp [gm]) aa.out (by have:=d.size;omega),i.setCell (p:=⟨w2.heap.size+1,0,none⟩) (ey d.size) _⟩
  ·exact ⟨w2.heap.size,_,rfl,jm.put M.out J (by simp [gm]) aa.out d.size,i.setCell (p:=⟨w2.heap.size,0,none⟩) d.size _⟩
  ·exact ⟨w.heap.size,_,rfl,jm.put M.out J (by simp [gm]) aa.out (af _),i.setCell (p:=⟨w.heap.size,0,none⟩) (af _) _⟩
 case rest =>
  obtain ⟨Bb,bv,rfl,hI,hB⟩:=hcut
  have b7:=he.below hB
  gi_wp2_with (refine ⟨cL,(callsIn_wide.2 (py q off _)).mono ?_⟩;rintro e w5 ⟨rfl,rfl⟩)
  have bM:=Boxed.new wc 219 (.pointer (some ⟨q,off,none⟩))
  have bs:=hI.alloc (.cells #[.pointer (some ⟨q,off,none⟩)] 219)
  have am:=hB.alloc hB.size (.cells #[.pointer (some ⟨q,off,none⟩)] 219)
  have hM:wc.heap.size<(wc.alloc (.cells #[.pointer (some ⟨q,off,none⟩)] 219)).heap.size:=by simp
  have b8:w.heap.size≤wc.heap.size:=hB.size
  obtain ⟨V,bt⟩:∃ V,V=wc.heap.size:=⟨_,rfl⟩
  obtain ⟨W5,bw⟩:∃ W5,W5=wc.alloc (.cells #[.pointer (some ⟨q,off,none⟩)] 219):=⟨_,rfl⟩
  rw [←bw] at bM bs am hM⊢
  rw [←bt] at bM hM b8⊢
  clear bw bt hI hB b7
  have ca:=he.below am
  have hmx:maxLen=9223372036854775807:=rfl
  refine wpIn_rangeFunc_ownH rfl (by omega) (gf:=135) (lb:=#[.pointer (some ⟨V,0,none⟩)]) rfl cL (enters_of Tryz.func135 (by kernel_rfl) rfl)
   (nQ (β := {x:E // x∈S}) Subtype.val S.attach (9-1) V q off r S (dY S) W5 hM bM.cell ca (by omega)) (fun h k=>gU.trans h k)
   (fun W l o o' hl ho hc _=>⟨by simp,(fun k hk=>World.putObj_heap_other (by have:=am.size;rcases hk with rfl | rfl | rfl <;> omega)),(fun k cs fz hk=>(World.putObj_heap_other (fun e=>by subst e;rw [hk] at ho;cases ho;cases hc)).trans hk)⟩) (Below.refl _ _) (fun _=>rfl)
   (Il w.heap.size Bb V q off w (be8 v++[UInt8.ofNat (S.length / 256),UInt8.ofNat S.length]))
   (fun _ _ _=>False)
   (Fp (by have:=am.size;omega) (af _))
   (fun _ _ _ _ _ hs _ _=>hs)
   ⟨⟨bv,by simpa [jE] using bs⟩,bM,am⟩
   (fun x a' W=>∃ Bx,V<Bx∧W.heap[Bx]?=some (.cells #[.int .i64 x.1.1.1,.string ⟨x.1.1.2.toArray⟩] 103 (0,0))∧a' = {tmps:=#[.int .u64 v,.pointer (some ⟨q,off,none⟩),undef,undef,.slice none 0 0,.pointer (some ⟨Bb,0,none⟩),.pointer (some ⟨Bx,0,none⟩),.string ⟨x.1.2.toArray⟩,u8,u9,u10,u11,u12,u13,u14,u15,u16,u17,u18,u19,u20,u21,u22,u23,u24,.pointer (some ⟨q,off,none⟩),.func (.func 135) #[] #[.pointer (some ⟨V,0,none⟩)],.agg #[.int .i64 x.1.1.1,.string ⟨x.1.1.2.toArray⟩],.string ⟨x.1.2.toArray⟩,u29,u30,u31,u32,u33,u34,u35,u36,u37,u38,u39,u40,u41,u42],defers:=[]})
   (fun x a' _ X Y row hs hg hr=>by
    obtain ⟨Bx,h1,h2,h3⟩:=hs
    exact ⟨Bx,h1,(hg.block Bx (fO h2) (fun e=>by obtain ⟨-,o,ho,hc⟩:=hr Bx e.symm;rw [h2] at ho;cases ho;cases hc)).trans h2,h3⟩)
   ?assign ?body ?done ?stop
  case assign =>
   rintro l pre x W K ⟨⟨d6,h0⟩,h1,h2⟩ hK
   unfold kV jh
   gi_wp2
   exact hK _ _ ((KeepsOthers.alloc _ _).from _) (gU.gD ((Below.refl _ W).alloc (af _) _) h1.lt (by have:=h2.size;omega) (by have:=h2.size;omega)) ⟨⟨d6,h0.alloc _⟩,h1.alloc _,h2.alloc h2.size _⟩ ⟨W.heap.size,h1.lt,fR W _,rfl⟩
  case body =>
   rintro l pre ⟨⟨⟨I,m⟩,vb⟩,bx⟩ a' W hl ⟨rr,c8⟩ ⟨⟨d6,h0⟩,h1,h2⟩ ⟨Bx,c9,bX,rfl⟩ da
   obtain ⟨g0,g1,g2,g3⟩:=hb _ bx
   simp only at g0 g1 g2 g3
   have gl:=yf hb pre
   have HB:=ab hb
   clear hb
   obtain ⟨va,a9,rfl⟩:=h0.own.shape
   obtain ⟨L,hL⟩:∃ L,L=be8 v++[UInt8.ofNat (S.length / 256),UInt8.ofNat S.length]++jE (pre.map Subtype.val):=⟨_,rfl⟩
   have dc:L.length≤20000000:=by rw [hL];simp only [aq,gm,ar,aJ];omega
   have Q:=ab hL
   rw [←hL] at h0
   clear hL gl
   have x0:=ae _ _ 0 _ _ _ bX
   have x1:=ae _ _ 1 _ _ _ bX
   have hcv:=Em I g0 g1
   have cB:=h0.box.cell
   have sW:=h2.size
   have b0:=Gl I g0 g1 W
   have U:=h0.alloc (.cells #[.int .u8 I] 5)
   have bc:w.heap.size≤(W.alloc (.cells #[.int .u8 I] 5)).heap.size:=by simp;omega
   have cb:=fX W (.cells #[.int .u8 I] 5) bX
   have KA:gU V q r W (W.alloc (.cells #[.int .u8 I] 5)):=gU.gD ((Below.refl _ W).alloc (af _) _) h1.lt (by omega) (by omega)
   have bz:=h1.alloc (.cells #[.int .u8 I] 5)
   have ce:=h2.alloc h2.size (.cells #[.int .u8 I] 5)
   gi_wp2_with (first
    | (gi_at_builtin;refine qZ (fun _=>cL) rfl (.tmp 29) (.tmp 33) rfl w.heap.size (.slice va L.length a9) L.length L rfl U.own U.typ [UInt8.ofNat I.toNat] b0 (by simp only [ar,aJ];omega) bc ?_;intro v1 w1 be N ci dk;simp only [ar,aJ,bG] at be;obtain ⟨Z,j,rfl⟩:=be.shape;have c1:=(U.still N).cell;have f1:=(U.still N).frozen;have F:=U.stored N be (by simp) ci;have cl:=U.nI (v' := .slice Z (L.length+1) j) N cb (by decide) (by decide);have y1:=ae _ _ 1 _ _ _ cl;have dl:=F.box.cell;have a2:w.heap.size≤(w1.setCell ⟨Bb,0,none⟩ (.slice Z (L.length+1) j)).heap.size:=(by rw [size_setCell];have:=N.size;omega))
    | (gi_at_builtin;refine mW (fun _=>cL) rfl (.tmp 35) (.tmp 37) rfl w.heap.size (.slice Z (L.length+1) j) (L.length+1) (L++[UInt8.ofNat I.toNat]) rfl (by have h9:=F.own;rw [aq] at h9;exact h9) F.typ m rfl (by omega) a2 ?_;intro v2 w2 bD R co dn;obtain ⟨ag,C,rfl⟩:=bD.shape;have c2:=(F.still R).cell;have f2:=(F.still R).frozen;have G:=F.stored R bD (by simp;omega) co;have dp:=G.box.cell;have a3:w.heap.size≤(w2.setCell ⟨Bb,0,none⟩ (.slice ag (L.length+1+m.length) C)).heap.size:=(by rw [size_setCell];have:=R.size;omega))
    | (gi_at_builtin;refine mW (fun _=>cL) rfl (.tmp 39) (.tmp 40) rfl w.heap.size (.slice ag (L.length+1+m.length) C) (L.length+1+m.length) (L++[UInt8.ofNat I.toNat]++m) rfl (by have h9:=G.own;rw [show (L++[UInt8.ofNat I.toNat]++m).length=L.length+1+m.length by simp;omega] at h9;exact h9) G.typ vb rfl (by omega) a3 ?_;intro v3 w3 bH B aa a7;obtain ⟨aE,O,rfl⟩:=bH.shape;have c3:=(G.still B).cell;have f3:=(G.still B).frozen;have cp:=G.stored B bH (by simp;omega) aa))
   have bI:=U.nI (v' := .slice Z (L.length+1) j) N bz (by decide) (by decide)
   have bL:=F.nI (v' := .slice ag (L.length+1+m.length) C) R bI (by decide) (by decide)
   have cq:=G.nI (v' := .slice aE (L.length+1+m.length+vb.length) O) B bL (by decide) (by decide)
   have e:be8 v++[UInt8.ofNat (S.length / 256),UInt8.ofNat S.length]++jE ((pre++[(⟨((I,m),vb),bx⟩ : {x:E // x∈S})]).map Subtype.val)=L++[UInt8.ofNat I.toNat]++m++vb:=by
    rw [bm,List.map_singleton,Cy,Q.out];simp [jK]
   have kO:=((KeepsOthers.alloc W (.cells #[.int .u8 I] 5)).trans (U.others (v' := .slice Z (L.length+1) j) N)).trans ((F.others (v' := .slice ag (L.length+1+m.length) C) R).trans (G.others (v' := .slice aE (L.length+1+m.length+vb.length) O) B))
   have kE:=KA.trans ((U.CP (x:=V) (y:=q) (z:=r) (v' := .slice Z (L.length+1) j) N bc bz (by decide) (by decide) (by omega) (by omega)).trans ((F.CP (x:=V) (y:=q) (z:=r) (v' := .slice ag (L.length+1+m.length) C) R a2 bI (by decide) (by decide) (by omega) (by omega)).trans (G.CP (x:=V) (y:=q) (z:=r) (v' := .slice aE (L.length+1+m.length+vb.length) O) B a3 bL (by decide) (by decide) (by omega) (by omega))))
   have kB:=ce.trans ((U.lower (v' := .slice Z (L.length+1) j) N bc).trans ((F.lower (v' := .slice ag (L.length+1+m.length) C) R a2).trans (G.lower (v' := .slice aE (L.length+1+m.length+vb.length) O) B a3)))
   refine ⟨kO.from _,kE,⟨.slice aE (L.length+1+m.length+vb.length) O,?_⟩,cq,kB⟩
   rw [e]
   exact cp
  case done =>
   rintro D ys W hD rfl ⟨⟨d6,h0⟩,h1,h2⟩ hK
   have cB:=h0.box.cell
   have ds:=h2.size
   gi_wp2_with fail
   refine ⟨by simp,.inl ⟨_,_,rfl,run_takeDeferred hK,?_⟩⟩
   have hP:=h0.kept (grownBy_putObj' W D (.deferred none)) (fun r e=>by cases e;exact ⟨_,hK,rfl⟩)
   have e:be8 v++[UInt8.ofNat (S.length / 256),UInt8.ofNat S.length]++jE (S.attach.map Subtype.val)=gX v S:=by rw [dY];rfl
   rw [e] at hP
   exact ⟨_,results_tmp rfl _ _ _,d6,rfl,hP.own,h2.trans (belowK_b (w:=w) (af _) W D _ _ (by omega) hK rfl rfl)⟩
  case stop =>
   rintro D c pre W _ _ h _
   exact h.elim
end Go.Proofs.YtkkfmkhbdoeglabGreatDoor
namespace Go.Proofs.YtkkfmkhbdoeglabGreatDoor
open Go.RowKit
def uW (w:World) (g off k:Nat) (os:List OpB):Prop:=∀ j (h:j<os.length),k≤j→
 w.cell? ⟨g,off+j*4,none⟩=some (.int .i64 os[j].kind)∧w.cell? ⟨g,off+j*4+1,none⟩=some (.int .i64 os[j].table)∧w.cell? ⟨g,off+j*4+2,none⟩=some (.string ⟨os[j].key.toArray⟩)∧w.cell? ⟨g,off+j*4+3,none⟩=some (.string ⟨os[j].val.toArray⟩)
def lL (w1:World) (g off n:Nat) (os:List OpB) (i:Value) (wr:World):Prop :=
 ∃ k:Nat,k≤n∧i = .int .i64 k∧uW wr g off k os∧(∀ i,i<n*4→wr.frozen? ⟨g,off+i,none⟩=false)∧g<wr.heap.size∧Ext (fun b=>b=g) w1 wr
def qz (w:World) (g o:Nat):World:=(((w.setCell ⟨g,o,none⟩ (.int .i64 0)).setCell ⟨g,o+1,none⟩ (.int .i64 0)).setCell ⟨g,o+2,none⟩ (.string ⟨#[]⟩)).setCell ⟨g,o+3,none⟩ (.string ⟨#[]⟩)
theorem iS {w:World} {b c i:Nat} {x y z v:Value} (d:c≠b) (h:w.cell? ⟨c,i,none⟩=some v):(((w.setCell ⟨b,0,none⟩ x).setCell ⟨b,1,none⟩ y).setCell ⟨b,2,none⟩ z).cell? ⟨c,i,none⟩=some v:=by
 rw [aU (w:=w) (a:=⟨c,i,none⟩) ((Below.heap_setCell _ ⟨b,2,none⟩ z c d).trans ((Below.heap_setCell _ ⟨b,1,none⟩ y c d).trans (Below.heap_setCell w ⟨b,0,none⟩ x c d)))]
 exact h
theorem oB (w:World) (g o i:Nat) (h:i<o∨o+4≤i):(qz w g o).cell? ⟨g,i,none⟩=w.cell? ⟨g,i,none⟩:=by
 unfold qz
 rw [cH (h:=by simp <;> omega),cH (h:=by simp <;> omega),cH (h:=by simp <;> omega),cH (h:=by simp <;> omega)]
theorem xP (w:World) (g o i:Nat):(qz w g o).frozen? ⟨g,i,none⟩=w.frozen? ⟨g,i,none⟩:=by
 unfold qz
 simp only [eN]
theorem BA (w:World) (g o:Nat):(qz w g o).heap.size=w.heap.size:=by
 unfold qz
 simp only [size_setCell]
theorem Du {S:Nat→Prop} {d w:World} (h:Ext S d w) (g o:Nat) (b:S g):Ext S d (qz w g o) :=
 (((h.setCell _ _ (.inl b)).setCell _ _ (.inl b)).setCell _ _ (.inl b)).setCell _ _ (.inl b)
theorem lL.step {w1 wr:World} {g off n k:Nat} {os:List OpB} (hk:k<n) (h1:uW wr g off k os) (h2:∀ i,i<n*4→wr.frozen? ⟨g,off+i,none⟩=false) (h3:g<wr.heap.size) (h4:Ext (fun b=>b=g) w1 wr) :
  lL w1 g off n os (.int .i64 ((k+1:Nat):Int)) (qz wr g (off+k*4)):=by
 refine ⟨k+1,hk,rfl,fun j d m => ?_,fun i l => ?_,by rw [BA];exact h3,Du h4 g _ rfl⟩
 ·obtain ⟨c0,c1,c2,c3⟩:=h1 j d (by omega)
  exact ⟨(oB wr g _ _ (by omega)).trans c0,(oB wr g _ _ (by omega)).trans c1,(oB wr g _ _ (by omega)).trans c2,(oB wr g _ _ (by omega)).trans c3⟩
 ·rw [xP]
  exact h2 i l
theorem tJ (v:Nat) (sv:Value) (os:List OpB) (w:World) (hs:ix w sv os) (hg:ShapesVar w) (a0:lF os) (hw:gK v os=none) :
  Calls Tryz.prog 83 #[.agg #[.int .u64 v,sv]] w fun e w'=>e = .returned (.tuple #[.string ⟨(jb v os).toArray⟩,kD 0 0 0])∧Below w.heap.size w w':=by
 have a7:os.length≤8∧1≤os.length:=by
  unfold gK at hw
  split at hw
  ·cases hw
  ·split at hw
   ·cases hw
   ·omega
 have HS:=ab hs
 obtain ⟨a,cap,rfl,b1,-⟩:=hs.opened
 clear hs
 have HW:=ab hw
 clear hw
 obtain ⟨h8,h1⟩:=a7
 have ag:ix ((w.alloc (.cells #[.int .u64 (v:Int),.slice a os.length cap] 51)).alloc (.cells #[.int .i64 0,.int .i64 0,.int .i64 0] 34)) (.slice a os.length cap) os:=HS.out.below (((Below.refl _ w).alloc (af _) _).alloc (by simp) _)
 have ba:=ab ag
 clear ag
 have B0:Hid (((w.alloc (.cells #[.int .u64 (v:Int),.slice a os.length cap] 51)).alloc (.cells #[.int .i64 0,.int .i64 0,.int .i64 0] 34)).heap[w.heap.size]?=some (.cells #[.int .u64 (v:Int),.slice a os.length cap] 51 (0,0))):=ab (fX _ _ (fR w _))
 have R0:Hid (((w.alloc (.cells #[.int .u64 (v:Int),.slice a os.length cap] 51)).alloc (.cells #[.int .i64 0,.int .i64 0,.int .i64 0] 34)).heap[w.heap.size+1]?=some (.cells #[.int .i64 0,.int .i64 0,.int .i64 0] 34 (0,0))):=ab (by have:=fR (w.alloc (.cells #[.int .u64 (v:Int),.slice a os.length cap] 51)) (.cells #[.int .i64 0,.int .i64 0,.int .i64 0] 34);simpa using this)
 go_enter Tryz.func83,Tryz.ntmps83
 go_wp2_with (at_builtin;refine jN rfl _ (.tmp 10) rfl (w.heap.size+1+1) (.slice none 0 0) [] rfl (OwnS.nil _ _ _) os (by exact ba.out) (by simp;omega) (by simp) ?_;intro v2 w2 d bb N _;simp only [aO] at d;obtain ⟨sa,a1,rfl⟩:=d.shape;have V:=ab (fQ N (by omega) B0.out);have R2:=ab (fQ N (by omega) R0.out);have c0:w2.cell? ⟨w.heap.size,0,none⟩=some (.int .u64 v):=ae _ _ 0 _ _ _ V.out;have cq:=fO V.out)
 have bS:=ab d
 have O:=d.gP
 have a2:=ab O
 clear O
 have cr:w.heap.size+1+1≤w2.heap.size:=by simpa using bb.size
 have b2:Below w.heap.size w w2:=(((Below.refl _ w).alloc (af _) _).alloc (by simp) _).trans (N.mono (by omega))
 refine (zR v (.slice sa os.length a1) os _ (by exact d.ops) (hg.new b2) a0 HW.out).mono ?_
 rintro e w3 ⟨bv,rfl,y,G⟩
 obtain ⟨dn,E,rfl⟩:=y.shape
 have B3:=ab (fQ G (fO V.out) V.out)
 have R3:=ab (fQ G (fO R2.out) R2.out)
 have W:=ab (d.below G)
 have b3:=b2.tn G
 have bl:1≤(jb v os).length:=by unfold jb;simp;omega
 clear d
 go_wp2_with fail
 refine (oW _).mono ?_
 rintro e l ⟨rfl,u⟩
 have B4:=ab (fQ u (fO B3.out) B3.out)
 have R4:=ab (fQ u (fO R3.out) R3.out)
 have br:=ab (W.out.below u)
 have bs:=ab (y.below u)
 have b4:=b3.tn u
 have cs:=u.size
 clear y
 have b8:(((jb v os).length:Int)==0)=false:=by rw [aA];omega
 generalize hL:(jb v os).length=L at *
 clear bl
 obtain ⟨-,a4 | ⟨g,off,ca,bt,ct,o,cu,cv,B,ak⟩⟩:=br.out
 ·exact absurd a4.2 (by omega)
 cases bt
 have Q:uW l g off 0 os:=fun j X _=>by
  have cB:=jw os
  obtain ⟨I,J,M,Y⟩:=nU os j X
  rw [ay (by omega)] at I J M Y
  refine ⟨?_,?_,?_,?_⟩
  ·rw [B (j*4) (by omega),I]
  ·rw [aW,B (j*4+1) (by omega),J]
  ·rw [aW,B (j*4+2) (by omega),M]
  ·rw [aW,B (j*4+3) (by omega),Y]
 have al:=ab Q
 have am:=ab (fun i (hi:i<os.length*4)=>(ak i (by omega)).2)
 clear Q B ak
 go_wp2
 generalize R:l.alloc (.cells #[.int .i64 0,.int .i64 0,.int .i64 0] 34)=w5
 have t5:Below l.heap.size l w5:=by rw [←R];exact (Below.refl _ l).alloc (af _) _
 have F5:Hid (w5.heap[l.heap.size]?=some (.cells #[.int .i64 0,.int .i64 0,.int .i64 0] 34 (0,0))):=ab (by rw [←R];exact fR l _)
 clear R
 have b5:=b4.tn t5
 have B5:=ab (fQ t5 (fO B4.out) B4.out)
 have R5:=ab (fQ t5 (fO R4.out) R4.out)
 have ap:=ab (bs.out.below t5)
 have h0:lL w5 g off os.length os (.int .i64 0) w5:=⟨0,aM _,rfl,fun j X hk=>by
   obtain ⟨I,J,M,Y⟩:=al.out j X hk
   exact ⟨(t5.cell (p:=⟨g,off+j*4,none⟩) o).trans I,(t5.cell (p:=⟨g,off+j*4+1,none⟩) o).trans J,(t5.cell (p:=⟨g,off+j*4+2,none⟩) o).trans M,(t5.cell (p:=⟨g,off+j*4+3,none⟩) o).trans Y⟩,
  fun i hi=>(t5.frozen (p:=⟨g,off+i,none⟩) o).trans (am.out i hi),aC o t5.size,Ext.refl _ _⟩
 have c4:=t5.size
 have c5:=fO F5.out
 have bH:g≠l.heap.size:=by omega
 clear al am
 go_loopw [31] (fun i wr=>lL w5 g off os.length os i wr) (fun i _=>os.length-(intOf i).toNat)
 case atStart=>exact h0
 case round =>
  clear h0
  obtain ⟨k,hk,rfl,r,m,bI,C⟩:=hrel
  have c6:=C.size
  have av:Below w.heap.size w wr:=b5.trans (C.below (by have:=b5.size;omega) (fun j X e=>by omega))
  have BR:=ab (C.at (fun e=>by omega) B5.out)
  have s:=ab (C.at (fun e=>by omega) R5.out)
  have Z:=ab (C.at (fun e=>bH e.symm) F5.out)
  by_cases D:k<os.length
  ·have q1:wr.cell? ⟨w.heap.size,1,none⟩=some (.slice a os.length cap):=ae _ _ 1 _ _ _ BR.out
   have c7:=fO BR.out
   obtain ⟨a',cap',he,bM,aE⟩:=(HS.out.below av).opened
   cases he
   obtain ⟨b,ci,rfl,c0,c1,c2,c3⟩:=aE k D
   obtain ⟨d0,d1,d2,d3⟩:=r k D (af _)
   have z0:=m (k*4) (by omega)
   have z1:=m (k*4+1) (by omega)
   have z2:=m (k*4+2) (by omega)
   have z3:=m (k*4+3) (by omega)
   rw [←aW] at z1 z2 z3
   have aa:=ab r
   have a5:=ab m
   have cl:(k:Int)<os.length:=by omega
   have c8:=fU c0
   have co:=Ge os[k].kind os[k].table os[k].key os[k].val
   clear aE bM r m
   go_wp2
   go_quiet (fail)
   go_wp2
   exact ⟨lL.step (wr:=wr.drewN nq) D aa.out a5.out bI (C.drewN _),by simp [intOf];omega⟩
  ·obtain rfl:k=os.length:=by omega
   have c9:¬(os.length:Int)<os.length:=by omega
   have f0:wr.cell? ⟨l.heap.size,0,none⟩=some (.int .i64 0):=ae _ _ 0 _ _ _ Z.out
   have f1:wr.cell? ⟨l.heap.size,1,none⟩=some (.int .i64 0):=ae _ _ 1 _ _ _ Z.out
   have f2:wr.cell? ⟨l.heap.size,2,none⟩=some (.int .i64 0):=ae _ _ 2 _ _ _ Z.out
   have r0:wr.cell? ⟨w.heap.size+1,0,none⟩=some (.int .i64 0):=ae _ _ 0 _ _ _ s.out
   have r1:wr.cell? ⟨w.heap.size+1,1,none⟩=some (.int .i64 0):=ae _ _ 1 _ _ _ s.out
   have r2:wr.cell? ⟨w.heap.size+1,2,none⟩=some (.int .i64 0):=ae _ _ 2 _ _ _ s.out
   have z0:=aj _ _ 0 _ _ s.out
   have z1:=aj _ _ 1 _ _ s.out
   have z2:=aj _ _ 2 _ _ s.out
   have da:=fO s.out
   have cp:=fO Z.out
   have q:l.heap.size≠w.heap.size+1:=by omega
   have bX:g<w2.heap.size:=a2.out g rfl
   have F:=ap.out.gh
   have S:BytesAt wr (.slice dn L E) (jb v os) :=
    (ap.out.frame C.size (fun dp bP D=>C.block dp D (fun e=>by have:=F dp bP;omega))).bytes
   have x:(Value.slice dn L E).ownBlock≠some (w.heap.size+1):=fun e=>by have:=F _ e;omega
   clear F
   clear r m
   go_wp2
   go_region_held3 (fun w'=>Sem.run Tryz.prog (convert 112 9 (.slice dn L E)) w' = .ok (.string ⟨(jb v os).toArray⟩) w'∧w'.cell? ⟨l.heap.size,0,none⟩=some (.int .i64 0)∧w'.cell? ⟨l.heap.size,1,none⟩=some (.int .i64 0)∧w'.cell? ⟨l.heap.size,2,none⟩=some (.int .i64 0))
    (first
     | exact ⟨BytesAt.convert (w:=wr.drew) S,f0,f1,f2⟩
     | exact ⟨BytesAt.convert (w:=World.drew _) (((S.gJ _ _ x).gJ _ _ x).gJ _ _ x),iS q f0,iS q f1,iS q f2⟩
     | exact ⟨BytesAt.convert (((S.gJ _ _ x).gJ _ _ x).gJ _ _ x),iS q f0,iS q f1,iS q f2⟩)
    (fail)
   go_wp2
   have I:(((wr.setCell ⟨w.heap.size+1,0,none⟩ (.int .i64 0)).setCell ⟨w.heap.size+1,1,none⟩ (.int .i64 0)).setCell ⟨w.heap.size+1,2,none⟩ (.int .i64 0)).cell? ⟨w.heap.size+1,0,none⟩=some (.int .i64 0):=ae _ _ 0 _ _ _ (heap_setCell _ _ 2 _ (heap_setCell _ _ 1 _ (heap_setCell _ _ 0 _ s.out)))
   have J:(((wr.setCell ⟨w.heap.size+1,0,none⟩ (.int .i64 0)).setCell ⟨w.heap.size+1,1,none⟩ (.int .i64 0)).setCell ⟨w.heap.size+1,2,none⟩ (.int .i64 0)).cell? ⟨w.heap.size+1,1,none⟩=some (.int .i64 0):=ae _ _ 1 _ _ _ (heap_setCell _ _ 2 _ (heap_setCell _ _ 1 _ (heap_setCell _ _ 0 _ s.out)))
   have M:(((wr.setCell ⟨w.heap.size+1,0,none⟩ (.int .i64 0)).setCell ⟨w.heap.size+1,1,none⟩ (.int .i64 0)).setCell ⟨w.heap.size+1,2,none⟩ (.int .i64 0)).cell? ⟨w.heap.size+1,2,none⟩=some (.int .i64 0):=ae _ _ 2 _ _ _ (heap_setCell _ _ 2 _ (heap_setCell _ _ 1 _ (heap_setCell _ _ 0 _ s.out)))
   refine aI (v := .tuple #[.string ⟨(jb v os).toArray⟩,.agg #[.int .i64 0,.int .i64 0,.int .i64 0]]) (by simp [results,Tryz.results83,go_sem,I,J,M]) rfl ⟨rfl,?_⟩
   have U:=((av.setCell (p:=⟨w.heap.size+1,0,none⟩) (by simp) (.int .i64 0)).setCell (p:=⟨w.heap.size+1,1,none⟩) (by simp) (.int .i64 0)).setCell (p:=⟨w.heap.size+1,2,none⟩) (by simp) (.int .i64 0)
   exact ⟨U.os,U.tape,U.output,U.size,U.block⟩
end Go.Proofs.YtkkfmkhbdoeglabGreatDoor
