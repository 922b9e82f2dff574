/- A part of what is proved here: lemmas and contracts of single functions. No condition but those that each names. -/
import Derived.Test.YtkkfmkhbdoeglaaGreatDoorG00
import Derived.Deep.DeepCutAuto
import Derived.Test.YtkkfmkhbdoeglaaGreatDoorG09
import Derived.Test.YtkkfmkhbdoeglaaGreatDoorG10
import Derived.Test.YtkkfmkhbdoeglaaGreatDoorG13
set_option maxHeartbeats 4000000
set_option maxRecDepth 100000
namespace Go.Proofs.YtkkfmkhbdoeglaaGreatDoor
open Go.RowKit Go.Shelf
attribute [local go_sem] Oper.semAt_some
def jz (x:E):List UInt8:=UInt8.ofNat x.1.1.toNat::(x.1.2++x.2)
def js (l:List E):List UInt8:=l.flatMap jz
def gH (v:Nat) (S:List E):List UInt8:=j4 v++[UInt8.ofNat (S.length / 256),UInt8.ofNat S.length]++js S
theorem BQ (l:List E) (x:E):js (l++[x])=js l++jz x:=by simp [js]
theorem TabAt.len {w:World} {r:Nat} {S:List E} (h:TabAt w r S) (ty:TypeId):(Builtin.len_ #[107] ty #[.map (some r)]).run Tryz.prog w = .ok (.int .i64 (S.length:Int)) w:=by
 obtain ⟨-,L,⟨es,clock,b,he,-⟩,d⟩:=h
 have i:es.size=S.length:=by
  have h1:=bB List.length he
  have h2:=d.length_eq
  simp at h1 h2
  omega
 rw [←i]
 simp [Builtin.len_,aN Tryz.underlying107,aM b,goInt,Result.andThen]
theorem Bf (n:Nat):IntKind.u8.wrap (n:Int)=((UInt8.ofNat n).toNat:Int):=by
 simp [IntKind.wrap,IntKind.bits,IntKind.signed]
theorem EJ (w:World) (n:Nat):BytesAt (w.alloc (.cells #[.int .u8 (IntKind.u8.wrap ((n:Int) / 256)),.int .u8 (IntKind.u8.wrap (n:Int))] 5)) (.slice (some ⟨w.heap.size,0,none⟩) 2 2) [UInt8.ofNat (n / 256),UInt8.ofNat n]:=by
 rw [show (n:Int) / 256=((n / 256:Nat):Int) by omega,Bf,Bf]
 refine ⟨rfl,_,2,rfl,ah _,fun i b=>⟨w.heap.size,0,rfl,?_⟩⟩
 rw [bF,lS]
 have d:i<2:=b
 have:i=0∨i=1:=by omega
 rcases this with rfl | rfl <;> rfl
theorem qi {W:World} {base n:Nat} {v:Value} {l:List UInt8} (h:OwnS W base 1 v n (u8s l)) (hl:2≤l.length) {B:Nat} {u:Value} {t:TypeId} (b:W.heap[B]?=some (.cells #[u] t (0,0))):v.ownBlock≠some B:=by
 obtain ⟨hlen,⟨rfl,-⟩ | ⟨g,off,cap,rfl,-,-,-,-,hc,-⟩⟩:=h
 ·simp [Value.ownBlock]
 ·intro e
  obtain rfl:g=B:=by simpa [Value.ownBlock] using e
  have h1:=hc 1 (by rw [iR];omega)
  rw [af _ _ _ _ _ _ b] at h1
  have h2:(#[u]:Array Value)[off+1]?=none:=by simp
  rw [h2] at h1
  cases h1
section
variable {w2 w3:World} {base n:Nat} {bv:Value} {l:List UInt8} {u:Value} {t:TypeId}
theorem DC (h:OwnS w2 base 1 bv n (u8s l)) (hl:2≤l.length) {b:Obj} (d:((w2.alloc (.cells #[u] t (0,0))).alloc b).grownBy w3 bv.ownBlock):w3.heap[w2.heap.size]?=some (.cells #[u] t (0,0)):=by
 have h9:=fQ (w2.alloc (.cells #[u] t (0,0))) b (fL w2 (.cells #[u] t (0,0)))
 have i:Below w2.heap.size w2 ((w2.alloc (.cells #[u] t (0,0))).alloc b):=((Below.refl _ w2).alloc (ah _) _).alloc (by simp) _
 exact (d.block w2.heap.size (fI h9) (qi (h.below i) hl h9).symm).trans h9
theorem Bw (h:OwnS w2 base 1 bv n (u8s l)) (hl:2≤l.length) {b:Obj} (d:((w2.alloc b).alloc (.cells #[u] t (0,0))).grownBy w3 bv.ownBlock):w3.heap[w2.heap.size+1]?=some (.cells #[u] t (0,0)):=by
 have h9:=fL (w2.alloc b) (.cells #[u] t (0,0))
 rw [ax] at h9
 have i:Below w2.heap.size w2 ((w2.alloc b).alloc (.cells #[u] t (0,0))):=((Below.refl _ w2).alloc (ah _) _).alloc (by simp) _
 exact (d.block (w2.heap.size+1) (fI h9) (qi (h.below i) hl h9).symm).trans h9
theorem Dz (h:OwnS w2 base 1 bv n (u8s l)) (hl:2≤l.length) {B:Nat} (d:w2.heap[B]?=some (.cells #[u] t (0,0))) {b:Obj} (i:(w2.alloc b).grownBy w3 bv.ownBlock):w3.heap[B]?=some (.cells #[u] t (0,0)):=by
 have h9:=fQ w2 b d
 have j:Below w2.heap.size w2 (w2.alloc b):=(Below.refl _ w2).alloc (ah _) _
 exact (i.block B (fI h9) (qi (h.below j) hl h9).symm).trans h9
end
theorem xE {S:List E} (h:∀ x∈S,0≤x.1.1∧x.1.1<256∧x.1.2.length≤100∧x.2.length≤100):∀ pre:List {x:E // x∈S},(js (pre.map Subtype.val)).length≤201*pre.length
 | []=>aL _
 | x::pre=>by
  have h1:=xE h pre
  obtain ⟨-,-,h2,h3⟩:=h x.1 x.2
  have e:(js ((x::pre).map Subtype.val)).length=1+x.1.1.2.length+x.1.2.length+(js (pre.map Subtype.val)).length:=by
   simp [js,jz];omega
  rw [e,au]
  omega
theorem DE (k:Int) (b:0≤k) (h1:k<256) (w:World):(Go.convert 3 5 (.int .i64 k)).run Tryz.prog w = .ok (.int .u8 k) w:=by
 simp [go_sem]
 exact IntWalk.u8_in k (by omega)
theorem FD (k:Int) (b:0≤k) (h1:k<256) (w:World):BytesAt (w.alloc (.cells #[.int .u8 k] 5)) (.slice (some ⟨w.heap.size,0,none⟩) 1 1) [UInt8.ofNat k.toNat]:=by
 have h:=pc w (UInt8.ofNat k.toNat)
 have e:((UInt8.ofNat k.toNat).toNat:Int)=k:=by simp;omega
 rw [e] at h
 exact h
def Hh {S:List E} (base b d q off:Nat) (w:World) (l:List UInt8) (pre:List {x:E // x∈S}) (W:World):Prop :=
 (∃ bv,jc base b (l++js (pre.map Subtype.val)) bv W)∧Boxed W d 173 (.pointer (some ⟨q,off,none⟩))∧Below base w W
theorem EG {S:List E} {base i j q off B:Nat} {w:World} {l:List UInt8} (m:base≤B) (hw:base≤w.heap.size):OwnFrom B (Hh (S:=S) base i j q off w l):=by
 rintro pre X Y row ⟨⟨bv,o⟩,h1,h2⟩ b d
 refine ⟨⟨bv,o.kept b fun r e=>(d r e).2⟩,?_,(ownFrom_below (β:=Unit) hw m) () X Y row h2 b d⟩
 exact (Own.from (boxed_own (β:=Unit) _ _ (fun _=>_)) B) () X Y row h1 b d
theorem Ba (q off r v:Nat) (S:List E) (w:World) (he:EntAt w q off r S) (hS:S.length<65536) (hv:v<18446744073709551616) (hb:∀ x∈S,0≤x.1.1∧x.1.1<256∧x.1.2.length≤100∧x.2.length≤100) :
  Calls Tryz.prog 101 #[.int .u64 v,.pointer (some ⟨q,off,none⟩)] w fun e w'=>∃ bv,e = .returned bv∧OwnS w' w.heap.size 1 bv (gH v S).length (u8s (gH v S))∧Below w.heap.size w w':=by
 have hc:=he.cell
 have hlen:=he.tab.len (ty:=3)
 have Q:=ae (fun (W:World) (hW:Below w.heap.size w W)=>(he.below hW).tab.len (ty:=3))
 have hq:=he.lt
 have hr:=he.tab.lt
 refine (callsIn_wide (n:=9)).1 ?_
 refine callsIn_of_wp_marks Tryz.func101 rfl cM ?_ rfl
 try simp only [Tryz.ntmps101,dF,au,aJ,Nat.reduceAdd,Nat.reduceSub,bd,bu,bV,dG,aQ,aX]
 gi_wp2_with fail
 have bo:∀ W,Below w.heap.size w W→W.cell? ⟨q,off,none⟩=some (.map (some r)):=fun W hW=>(hW.cell (p:=⟨q,off,none⟩) hq).trans hc
 have s:=ae bo
 clear bo
 have aE:=fun W=>EJ W S.length
 refine wpIn_wide.2 ?_
 go_upto_region 1 with fail
 go_cut [5] from 8 to 42 (fun b wx=>∃ Bb bv,b = .pointer (some ⟨Bb,0,none⟩)∧jc w.heap.size Bb (j4 v++[UInt8.ofNat (S.length / 256),UInt8.ofNat S.length]) bv wx∧Below w.heap.size w wx)
 case first =>
  go_region_held3 (fun w'=>Below w.heap.size w w'∧w'.cell? ⟨q,off,none⟩=some (.map (some r))∧(Builtin.len_ #[107] 3 #[.map (some r)]).run Tryz.prog w' = .ok (.int .i64 (S.length:Int)) w')
   (first | exact ⟨(Below.refl _ _).drew,s.out _ (Below.refl _ _).drew,Q.out _ (Below.refl _ _).drew⟩ | exact ⟨((Below.refl w.heap.size w).drew.alloc (ah _) _),s.out _ ((Below.refl w.heap.size w).drew.alloc (ah _) _),Q.out _ ((Below.refl w.heap.size w).drew.alloc (ah _) _)⟩ | exact ⟨(((Below.refl w.heap.size w).alloc (ah _) _).drew),s.out _ (((Below.refl w.heap.size w).alloc (ah _) _).drew),Q.out _ (((Below.refl w.heap.size w).alloc (ah _) _).drew)⟩ | exact ⟨d,s.out _ d,Q.out _ d⟩ | exact ⟨(d.alloc d.size _),s.out _ (d.alloc d.size _),Q.out _ (d.alloc d.size _)⟩ | exact ⟨((d.alloc d.size _).alloc (by have:=d.size;simp;omega) _),s.out _ ((d.alloc d.size _).alloc (by have:=d.size;simp;omega) _),Q.out _ ((d.alloc d.size _).alloc (by have:=d.size;simp;omega) _)⟩ | exact ⟨i,s.out _ i,Q.out _ i⟩ | exact ⟨(i.alloc i.size _),s.out _ (i.alloc i.size _),Q.out _ (i.alloc i.size _)⟩ | exact ⟨(i.setCell (p:=⟨w.heap.size,0,none⟩) (ah _) _),s.out _ (i.setCell (p:=⟨w.heap.size,0,none⟩) (ah _) _),Q.out _ (i.setCell (p:=⟨w.heap.size,0,none⟩) (ah _) _)⟩ | exact ⟨(i.setCell (p:=⟨w2.heap.size,0,none⟩) d.size _),s.out _ (i.setCell (p:=⟨w2.heap.size,0,none⟩) d.size _),Q.out _ (i.setCell (p:=⟨w2.heap.size,0,none⟩) d.size _)⟩ | exact ⟨(i.setCell (p:=⟨w2.heap.size+1,0,none⟩) (by have:=d.size;simp;omega) _),s.out _ (i.setCell (p:=⟨w2.heap.size+1,0,none⟩) (by have:=d.size;simp;omega) _),Q.out _ (i.setCell (p:=⟨w2.heap.size+1,0,none⟩) (by have:=d.size;simp;omega) _)⟩)
   ((first
     | (go_at_call 113;refine (tU _ (.slice none 0 0) [] v _ (OwnS.nil _ _ _) (CellsOf.nil _ _) (ah _) (by simp [gx]) hv).mono ?_;rintro e w2 ⟨bv,rfl,a3,a4,ak⟩;have br:=ae a4;clear a4;simp only [aJ,bF,aQ] at a3;
        have d:Below w.heap.size w w2:=(by first | exact (Below.refl w.heap.size w).drew.trans ak | exact (((Below.refl w.heap.size w).alloc (ah _) _).drew).trans (ak.mono (by simp)) | exact ((Below.refl w.heap.size w).drew.alloc (ah _) _).trans (ak.mono (by simp)));
        have u:OwnS w2 w.heap.size 1 bv 8 (u8s (j4 v)):=a3.mono (by simp);
        (first
         | (have U:Below w.drew.heap.size w.drew w2:=by with_reducible exact ak)
         | (have Q2:Hid (w2.heap[w.heap.size]?=some (.cells #[.slice none 0 0] 59 (0,0))):=ae (fK ak (by simp) (by first | exact fL w _ | exact fL w.drew _)))))
     | (refine lp rfl (.tmp 9) (.tmp 23) rfl w.heap.size bv 8 (j4 v) rfl (by first | exact u.below ((Below.refl _ w2).alloc (ah _) _) | exact u.below (((Below.refl _ w2).alloc (ah _) _).alloc (by simp) _)) (by first | exact br.out.alloc _ | exact (br.out.alloc _).alloc _) [UInt8.ofNat (S.length / 256),UInt8.ofNat S.length] (by first | exact aE _ | (have h9:=aE (w2.alloc (.cells #[.slice none 0 0] 59 (0,0)));rw [ax] at h9;exact h9) | exact BytesAt.below (aE w2) ((Below.refl _ _).alloc (ah _) _)) (by simp) (by have h9:=d.size;simp at h9⊢;omega) ?_;intro v3 w3 J B a5 a6;have aa:=ae a5;clear a5;
        have i:Below w.heap.size w w3:=(by first | exact (d.alloc d.size _).trans a6 | exact ((d.alloc d.size _).alloc (by have:=d.size;simp;omega) _).trans a6);
        obtain ⟨va,a7,rfl⟩:=J.shape;
        (first
         | (have M:Hid (w3.heap[w.heap.size]?=some (.cells #[.slice none 0 0] 59 (0,0))):=ae (Dz u (by rw [fY];omega) Q2.out B);have x0:=af _ _ 0 _ _ _ M.out;have y0:=ao _ _ 0 _ _ M.out;have l0:=fI M.out)
         | (have M:Hid (w3.heap[w2.heap.size]?=some (.cells #[.slice none 0 0] 59 (0,0))):=ae (DC u (by rw [fY];omega) B);have x0:=af _ _ 0 _ _ _ M.out;have y0:=ao _ _ 0 _ _ M.out;have l0:=fI M.out)
         | (have M:Hid (w3.heap[w2.heap.size+1]?=some (.cells #[.slice none 0 0] 59 (0,0))):=ae (Bw u (by rw [fY];omega) B);have x0:=af _ _ 0 _ _ _ M.out;have y0:=ao _ _ 0 _ _ M.out;have l0:=fI M.out)
         | skip))))
  all_goals go_wp2_with fail
  all_goals go_meet
  ·exact ⟨w3.heap.size,_,rfl,jc.late J (by simp [fY]) aa.out i.size,i.alloc i.size _⟩
  ·exact ⟨w2.heap.size+1,_,rfl,jc.put M.out J (by simp [fY]) aa.out (by have:=d.size;omega),i.setCell (p:=⟨w2.heap.size+1,0,none⟩) (eM d.size) _⟩
  ·exact ⟨w2.heap.size,_,rfl,jc.put M.out J (by simp [fY]) aa.out d.size,i.setCell (p:=⟨w2.heap.size,0,none⟩) d.size _⟩
  ·exact ⟨w.heap.size,_,rfl,jc.put M.out J (by simp [fY]) aa.out (ah _),i.setCell (p:=⟨w.heap.size,0,none⟩) (ah _) _⟩
 case rest =>
  obtain ⟨Bb,bv,rfl,hI,hB⟩:=hcut
  have b7:=he.below hB
  gi_wp2_with (refine ⟨cM,(callsIn_wide.2 (o8 q off _)).mono ?_⟩;rintro e w5 ⟨rfl,rfl⟩)
  have bM:=Boxed.new wc 173 (.pointer (some ⟨q,off,none⟩))
  have bs:=hI.alloc (.cells #[.pointer (some ⟨q,off,none⟩)] 173)
  have al:=hB.alloc hB.size (.cells #[.pointer (some ⟨q,off,none⟩)] 173)
  have hM:wc.heap.size<(wc.alloc (.cells #[.pointer (some ⟨q,off,none⟩)] 173)).heap.size:=by simp
  have b8:w.heap.size≤wc.heap.size:=hB.size
  obtain ⟨V,bt⟩:∃ V,V=wc.heap.size:=⟨_,rfl⟩
  obtain ⟨W5,bw⟩:∃ W5,W5=wc.alloc (.cells #[.pointer (some ⟨q,off,none⟩)] 173):=⟨_,rfl⟩
  rw [←bw] at bM bs al hM⊢
  rw [←bt] at bM hM b8⊢
  clear bw bt hI hB b7
  have ca:=he.below al
  have hmx:maxLen=9223372036854775807:=rfl
  refine wpIn_rangeFunc_ownH rfl (by omega) (gf:=90) (lb:=#[.pointer (some ⟨V,0,none⟩)]) rfl cM (enters_of Tryz.func90 (by kernel_rfl) rfl)
   (nz (β := {x:E // x∈S}) Subtype.val S.attach (9-1) V q off r S (dY S) W5 hM bM.cell ca (by omega)) (fun h k=>gP.trans h k)
   (fun W l o o' hl ho hc _=>⟨by simp,(fun k hk=>World.putObj_heap_other (by have:=al.size;rcases hk with rfl | rfl | rfl <;> omega)),(fun k cs fz hk=>(World.putObj_heap_other (fun e=>by subst e;rw [hk] at ho;cases ho;cases hc)).trans hk)⟩) (Below.refl _ _) (fun _=>rfl)
   (Hh w.heap.size Bb V q off w (j4 v++[UInt8.ofNat (S.length / 256),UInt8.ofNat S.length]))
   (fun _ _ _=>False)
   (EG (by have:=al.size;omega) (ah _))
   (fun _ _ _ _ _ hs _ _=>hs)
   ⟨⟨bv,by simpa [js] using bs⟩,bM,al⟩
   (fun x a' W=>∃ Bx,V<Bx∧W.heap[Bx]?=some (.cells #[.int .i64 x.1.1.1,.string ⟨x.1.1.2.toArray⟩] 94 (0,0))∧a' = {tmps:=#[.int .u64 v,.pointer (some ⟨q,off,none⟩),undef,undef,.slice none 0 0,.pointer (some ⟨Bb,0,none⟩),.pointer (some ⟨Bx,0,none⟩),.string ⟨x.1.2.toArray⟩,u8,u9,u10,u11,u12,u13,u14,u15,u16,u17,u18,u19,u20,u21,u22,u23,u24,.pointer (some ⟨q,off,none⟩),.func (.func 90) #[] #[.pointer (some ⟨V,0,none⟩)],.agg #[.int .i64 x.1.1.1,.string ⟨x.1.1.2.toArray⟩],.string ⟨x.1.2.toArray⟩,u29,u30,u31,u32,u33,u34,u35,u36,u37,u38,u39,u40,u41,u42],defers:=[]})
   (fun x a' _ X Y row hs hg hr=>by
    obtain ⟨Bx,h1,h2,h3⟩:=hs
    exact ⟨Bx,h1,(hg.block Bx (fI h2) (fun e=>by obtain ⟨-,o,ho,hc⟩:=hr Bx e.symm;rw [h2] at ho;cases ho;cases hc)).trans h2,h3⟩)
   ?assign ?body ?done ?stop
  case assign =>
   rintro l pre x W K ⟨⟨d5,h0⟩,h1,h2⟩ hK
   unfold kV iX
   gi_wp2
   exact hK _ _ ((KeepsOthers.alloc _ _).from _) (gP.gw ((Below.refl _ W).alloc (ah _) _) h1.lt (by have:=h2.size;omega) (by have:=h2.size;omega)) ⟨⟨d5,h0.alloc _⟩,h1.alloc _,h2.alloc h2.size _⟩ ⟨W.heap.size,h1.lt,fL W _,rfl⟩
  case body =>
   rintro l pre ⟨⟨⟨I,m⟩,vb⟩,bx⟩ a' W hl ⟨rr,c7⟩ ⟨⟨d5,h0⟩,h1,h2⟩ ⟨Bx,c8,bX,rfl⟩ c9
   obtain ⟨g0,g1,g2,g3⟩:=hb _ bx
   simp only at g0 g1 g2 g3
   have gl:=xE hb pre
   have HB:=ae hb
   clear hb
   obtain ⟨va,a7,rfl⟩:=h0.own.shape
   obtain ⟨L,hL⟩:∃ L,L=j4 v++[UInt8.ofNat (S.length / 256),UInt8.ofNat S.length]++js (pre.map Subtype.val):=⟨_,rfl⟩
   have da:L.length≤20000000:=by rw [hL];simp only [ar,fY,au,aJ];omega
   have Q:=ae hL
   rw [←hL] at h0
   clear hL gl
   have x0:=af _ _ 0 _ _ _ bX
   have x1:=af _ _ 1 _ _ _ bX
   have hcv:=DE I g0 g1
   have cB:=h0.box.cell
   have sW:=h2.size
   have b0:=FD I g0 g1 W
   have U:=h0.alloc (.cells #[.int .u8 I] 5)
   have bb:w.heap.size≤(W.alloc (.cells #[.int .u8 I] 5)).heap.size:=by simp;omega
   have cb:=fQ W (.cells #[.int .u8 I] 5) bX
   have KA:gP V q r W (W.alloc (.cells #[.int .u8 I] 5)):=gP.gw ((Below.refl _ W).alloc (ah _) _) h1.lt (by omega) (by omega)
   have bz:=h1.alloc (.cells #[.int .u8 I] 5)
   have ce:=h2.alloc h2.size (.cells #[.int .u8 I] 5)
   gi_wp2_with (first
    | (gi_at_builtin;refine qV (fun _=>cM) rfl (.tmp 29) (.tmp 33) rfl w.heap.size (.slice va L.length a7) L.length L rfl U.own U.typ [UInt8.ofNat I.toNat] b0 (by simp only [au,aJ];omega) bb ?_;intro v1 w1 bc N cf dc;simp only [au,aJ,bF] at bc;obtain ⟨Z,j,rfl⟩:=bc.shape;have c1:=(U.still N).cell;have f1:=(U.still N).frozen;have F:=U.stored N bc (by simp) cf;have ci:=U.np (v' := .slice Z (L.length+1) j) N cb (by decide) (by decide);have y1:=af _ _ 1 _ _ _ ci;have dk:=F.box.cell;have a1:w.heap.size≤(w1.setCell ⟨Bb,0,none⟩ (.slice Z (L.length+1) j)).heap.size:=(by rw [size_setCell];have:=N.size;omega))
    | (gi_at_builtin;refine mH (fun _=>cM) rfl (.tmp 35) (.tmp 37) rfl w.heap.size (.slice Z (L.length+1) j) (L.length+1) (L++[UInt8.ofNat I.toNat]) rfl (by have h9:=F.own;rw [ar] at h9;exact h9) F.typ m rfl (by omega) a1 ?_;intro v2 w2 bD R cl dl;obtain ⟨ab,C,rfl⟩:=bD.shape;have c2:=(F.still R).cell;have f2:=(F.still R).frozen;have G:=F.stored R bD (by simp;omega) cl;have dn:=G.box.cell;have a2:w.heap.size≤(w2.setCell ⟨Bb,0,none⟩ (.slice ab (L.length+1+m.length) C)).heap.size:=(by rw [size_setCell];have:=R.size;omega))
    | (gi_at_builtin;refine mH (fun _=>cM) rfl (.tmp 39) (.tmp 40) rfl w.heap.size (.slice ab (L.length+1+m.length) C) (L.length+1+m.length) (L++[UInt8.ofNat I.toNat]++m) rfl (by have h9:=G.own;rw [show (L++[UInt8.ofNat I.toNat]++m).length=L.length+1+m.length by simp;omega] at h9;exact h9) G.typ vb rfl (by omega) a2 ?_;intro v3 w3 bH B aa a6;obtain ⟨av,O,rfl⟩:=bH.shape;have c3:=(G.still B).cell;have f3:=(G.still B).frozen;have co:=G.stored B bH (by simp;omega) aa))
   have bI:=U.np (v' := .slice Z (L.length+1) j) N bz (by decide) (by decide)
   have bL:=F.np (v' := .slice ab (L.length+1+m.length) C) R bI (by decide) (by decide)
   have cp:=G.np (v' := .slice av (L.length+1+m.length+vb.length) O) B bL (by decide) (by decide)
   have e:j4 v++[UInt8.ofNat (S.length / 256),UInt8.ofNat S.length]++js ((pre++[(⟨((I,m),vb),bx⟩ : {x:E // x∈S})]).map Subtype.val)=L++[UInt8.ofNat I.toNat]++m++vb:=by
    rw [bC,List.map_singleton,BQ,Q.out];simp [jz]
   have kO:=((KeepsOthers.alloc W (.cells #[.int .u8 I] 5)).trans (U.others (v' := .slice Z (L.length+1) j) N)).trans ((F.others (v' := .slice ab (L.length+1+m.length) C) R).trans (G.others (v' := .slice av (L.length+1+m.length+vb.length) O) B))
   have kE:=KA.trans ((U.Ck (x:=V) (y:=q) (z:=r) (v' := .slice Z (L.length+1) j) N bb bz (by decide) (by decide) (by omega) (by omega)).trans ((F.Ck (x:=V) (y:=q) (z:=r) (v' := .slice ab (L.length+1+m.length) C) R a1 bI (by decide) (by decide) (by omega) (by omega)).trans (G.Ck (x:=V) (y:=q) (z:=r) (v' := .slice av (L.length+1+m.length+vb.length) O) B a2 bL (by decide) (by decide) (by omega) (by omega))))
   have kB:=ce.trans ((U.lower (v' := .slice Z (L.length+1) j) N bb).trans ((F.lower (v' := .slice ab (L.length+1+m.length) C) R a1).trans (G.lower (v' := .slice av (L.length+1+m.length+vb.length) O) B a2)))
   refine ⟨kO.from _,kE,⟨.slice av (L.length+1+m.length+vb.length) O,?_⟩,cp,kB⟩
   rw [e]
   exact co
  case done =>
   rintro D ys W hD rfl ⟨⟨d5,h0⟩,h1,h2⟩ hK
   have cB:=h0.box.cell
   have dp:=h2.size
   gi_wp2_with fail
   refine ⟨by simp,.inl ⟨_,_,rfl,run_takeDeferred hK,?_⟩⟩
   have hP:=h0.kept (grownBy_putObj' W D (.deferred none)) (fun r e=>by cases e;exact ⟨_,hK,rfl⟩)
   have e:j4 v++[UInt8.ofNat (S.length / 256),UInt8.ofNat S.length]++js (S.attach.map Subtype.val)=gH v S:=by rw [dY];rfl
   rw [e] at hP
   exact ⟨_,results_tmp rfl _ _ _,d5,rfl,hP.own,h2.trans (belowK_b (w:=w) (ah _) W D _ _ (by omega) hK rfl rfl)⟩
  case stop =>
   rintro D c pre W _ _ h _
   exact h.elim
end Go.Proofs.YtkkfmkhbdoeglaaGreatDoor
namespace Go.Proofs.YtkkfmkhbdoeglaaGreatDoor
open Go.RowKit
def uB (w:World) (g off k:Nat) (os:List OpB):Prop:=∀ j (h:j<os.length),k≤j→
 w.cell? ⟨g,off+j*4,none⟩=some (.int .i64 os[j].kind)∧w.cell? ⟨g,off+j*4+1,none⟩=some (.int .i64 os[j].table)∧w.cell? ⟨g,off+j*4+2,none⟩=some (.string ⟨os[j].key.toArray⟩)∧w.cell? ⟨g,off+j*4+3,none⟩=some (.string ⟨os[j].val.toArray⟩)
def lG (w1:World) (g off n:Nat) (os:List OpB) (i:Value) (wr:World):Prop :=
 ∃ k:Nat,k≤n∧i = .int .i64 k∧uB wr g off k os∧(∀ i,i<n*4→wr.frozen? ⟨g,off+i,none⟩=false)∧g<wr.heap.size∧Ext (fun b=>b=g) w1 wr
def qt (w:World) (g o:Nat):World:=(((w.setCell ⟨g,o,none⟩ (.int .i64 0)).setCell ⟨g,o+1,none⟩ (.int .i64 0)).setCell ⟨g,o+2,none⟩ (.string ⟨#[]⟩)).setCell ⟨g,o+3,none⟩ (.string ⟨#[]⟩)
theorem gL {w:World} {b c i:Nat} {x y z v:Value} (d:c≠b) (h:w.cell? ⟨c,i,none⟩=some v):(((w.setCell ⟨b,0,none⟩ x).setCell ⟨b,1,none⟩ y).setCell ⟨b,2,none⟩ z).cell? ⟨c,i,none⟩=some v:=by
 rw [aU (w:=w) (a:=⟨c,i,none⟩) ((Below.heap_setCell _ ⟨b,2,none⟩ z c d).trans ((Below.heap_setCell _ ⟨b,1,none⟩ y c d).trans (Below.heap_setCell w ⟨b,0,none⟩ x c d)))]
 exact h
theorem nY (w:World) (g o i:Nat) (h:i<o∨o+4≤i):(qt w g o).cell? ⟨g,i,none⟩=w.cell? ⟨g,i,none⟩:=by
 unfold qt
 rw [cJ (h:=by simp <;> omega),cJ (h:=by simp <;> omega),cJ (h:=by simp <;> omega),cJ (h:=by simp <;> omega)]
theorem xl (w:World) (g o i:Nat):(qt w g o).frozen? ⟨g,i,none⟩=w.frozen? ⟨g,i,none⟩:=by
 unfold qt
 simp only [eK]
theorem AX (w:World) (g o:Nat):(qt w g o).heap.size=w.heap.size:=by
 unfold qt
 simp only [size_setCell]
theorem CV {S:Nat→Prop} {d w:World} (h:Ext S d w) (g o:Nat) (b:S g):Ext S d (qt w g o) :=
 (((h.setCell _ _ (.inl b)).setCell _ _ (.inl b)).setCell _ _ (.inl b)).setCell _ _ (.inl b)
theorem lG.step {w1 wr:World} {g off n k:Nat} {os:List OpB} (hk:k<n) (h1:uB wr g off k os) (h2:∀ i,i<n*4→wr.frozen? ⟨g,off+i,none⟩=false) (h3:g<wr.heap.size) (h4:Ext (fun b=>b=g) w1 wr) :
  lG w1 g off n os (.int .i64 ((k+1:Nat):Int)) (qt wr g (off+k*4)):=by
 refine ⟨k+1,hk,rfl,fun j d m => ?_,fun i l => ?_,by rw [AX];exact h3,CV h4 g _ rfl⟩
 ·obtain ⟨c0,c1,c2,c3⟩:=h1 j d (by omega)
  exact ⟨(nY wr g _ _ (by omega)).trans c0,(nY wr g _ _ (by omega)).trans c1,(nY wr g _ _ (by omega)).trans c2,(nY wr g _ _ (by omega)).trans c3⟩
 ·rw [xl]
  exact h2 i l
theorem s9 (v:Nat) (sv:Value) (os:List OpB) (w:World) (hs:iu w sv os) (hg:ShapesVar w) (aE:jP os) (hw:gB v os=none) :
  Calls Tryz.prog 42 #[.agg #[.int .u64 v,sv]] w fun e w'=>e = .returned (.tuple #[.string ⟨(jo v os).toArray⟩,ku 0 0 0])∧Below w.heap.size w w':=by
 have a6:os.length≤8∧1≤os.length:=by
  unfold gB at hw
  split at hw
  ·cases hw
  ·split at hw
   ·cases hw
   ·omega
 have HS:=ae hs
 obtain ⟨a,cap,rfl,b1,-⟩:=hs.opened
 clear hs
 have HW:=ae hw
 clear hw
 obtain ⟨h8,h1⟩:=a6
 have ab:iu ((w.alloc (.cells #[.int .u64 (v:Int),.slice a os.length cap] 34)).alloc (.cells #[.int .i64 0,.int .i64 0,.int .i64 0] 38)) (.slice a os.length cap) os:=HS.out.below (((Below.refl _ w).alloc (ah _) _).alloc (by simp) _)
 have a9:=ae ab
 clear ab
 have B0:Hid (((w.alloc (.cells #[.int .u64 (v:Int),.slice a os.length cap] 34)).alloc (.cells #[.int .i64 0,.int .i64 0,.int .i64 0] 38)).heap[w.heap.size]?=some (.cells #[.int .u64 (v:Int),.slice a os.length cap] 34 (0,0))):=ae (fQ _ _ (fL w _))
 have R0:Hid (((w.alloc (.cells #[.int .u64 (v:Int),.slice a os.length cap] 34)).alloc (.cells #[.int .i64 0,.int .i64 0,.int .i64 0] 38)).heap[w.heap.size+1]?=some (.cells #[.int .i64 0,.int .i64 0,.int .i64 0] 38 (0,0))):=ae (by have:=fL (w.alloc (.cells #[.int .u64 (v:Int),.slice a os.length cap] 34)) (.cells #[.int .i64 0,.int .i64 0,.int .i64 0] 38);simpa using this)
 go_enter Tryz.func42,Tryz.ntmps42
 go_wp2_with (at_builtin;refine jC rfl _ (.tmp 10) rfl (w.heap.size+1+1) (.slice none 0 0) [] rfl (OwnS.nil _ _ _) os (by exact a9.out) (by simp;omega) (by simp) ?_;intro v2 w2 d ba N _;simp only [aQ] at d;obtain ⟨sa,a0,rfl⟩:=d.shape;have V:=ae (fK N (by omega) B0.out);have R2:=ae (fK N (by omega) R0.out);have c0:w2.cell? ⟨w.heap.size,0,none⟩=some (.int .u64 v):=af _ _ 0 _ _ _ V.out;have cp:=fI V.out)
 have bS:=ae d
 have O:=d.gZ
 have a1:=ae O
 clear O
 have cq:w.heap.size+1+1≤w2.heap.size:=by simpa using ba.size
 have b2:Below w.heap.size w w2:=(((Below.refl _ w).alloc (ah _) _).alloc (by simp) _).trans (N.mono (by omega))
 refine (zr v (.slice sa os.length a0) os _ (by exact d.ops) (hg.new b2) aE HW.out).mono ?_
 rintro e w3 ⟨bv,rfl,y,G⟩
 obtain ⟨dl,E,rfl⟩:=y.shape
 have B3:=ae (fK G (fI V.out) V.out)
 have R3:=ae (fK G (fI R2.out) R2.out)
 have W:=ae (d.below G)
 have b3:=b2.tn G
 have bl:1≤(jo v os).length:=by unfold jo;simp;omega
 clear d
 go_wp2_with fail
 refine (oH _).mono ?_
 rintro e l ⟨rfl,u⟩
 have B4:=ae (fK u (fI B3.out) B3.out)
 have R4:=ae (fK u (fI R3.out) R3.out)
 have br:=ae (W.out.below u)
 have bs:=ae (y.below u)
 have b4:=b3.tn u
 have cr:=u.size
 clear y
 have b8:(((jo v os).length:Int)==0)=false:=by rw [aD];omega
 generalize hL:(jo v os).length=L at *
 clear bl
 obtain ⟨-,a3 | ⟨g,off,ca,bt,cs,o,ct,cu,B,ag⟩⟩:=br.out
 ·exact absurd a3.2 (by omega)
 cases bt
 have Q:uB l g off 0 os:=fun j X _=>by
  have cv:=jk os
  obtain ⟨I,J,M,Y⟩:=nC os j X
  rw [ay (by omega)] at I J M Y
  refine ⟨?_,?_,?_,?_⟩
  ·rw [B (j*4) (by omega),I]
  ·rw [aW,B (j*4+1) (by omega),J]
  ·rw [aW,B (j*4+2) (by omega),M]
  ·rw [aW,B (j*4+3) (by omega),Y]
 have ak:=ae Q
 have al:=ae (fun i (hi:i<os.length*4)=>(ag i (by omega)).2)
 clear Q B ag
 go_wp2
 generalize R:l.alloc (.cells #[.int .i64 0,.int .i64 0,.int .i64 0] 38)=w5
 have t5:Below l.heap.size l w5:=by rw [←R];exact (Below.refl _ l).alloc (ah _) _
 have F5:Hid (w5.heap[l.heap.size]?=some (.cells #[.int .i64 0,.int .i64 0,.int .i64 0] 38 (0,0))):=ae (by rw [←R];exact fL l _)
 clear R
 have b5:=b4.tn t5
 have B5:=ae (fK t5 (fI B4.out) B4.out)
 have R5:=ae (fK t5 (fI R4.out) R4.out)
 have am:=ae (bs.out.below t5)
 have h0:lG w5 g off os.length os (.int .i64 0) w5:=⟨0,aL _,rfl,fun j X hk=>by
   obtain ⟨I,J,M,Y⟩:=ak.out j X hk
   exact ⟨(t5.cell (p:=⟨g,off+j*4,none⟩) o).trans I,(t5.cell (p:=⟨g,off+j*4+1,none⟩) o).trans J,(t5.cell (p:=⟨g,off+j*4+2,none⟩) o).trans M,(t5.cell (p:=⟨g,off+j*4+3,none⟩) o).trans Y⟩,
  fun i hi=>(t5.frozen (p:=⟨g,off+i,none⟩) o).trans (al.out i hi),aC o t5.size,Ext.refl _ _⟩
 have cB:=t5.size
 have c4:=fI F5.out
 have bH:g≠l.heap.size:=by omega
 clear ak al
 go_loopw [31] (fun i wr=>lG w5 g off os.length os i wr) (fun i _=>os.length-(intOf i).toNat)
 case atStart=>exact h0
 case round =>
  clear h0
  obtain ⟨k,hk,rfl,r,m,bI,C⟩:=hrel
  have c5:=C.size
  have ap:Below w.heap.size w wr:=b5.trans (C.below (by have:=b5.size;omega) (fun j X e=>by omega))
  have BR:=ae (C.at (fun e=>by omega) B5.out)
  have s:=ae (C.at (fun e=>by omega) R5.out)
  have Z:=ae (C.at (fun e=>bH e.symm) F5.out)
  by_cases D:k<os.length
  ·have q1:wr.cell? ⟨w.heap.size,1,none⟩=some (.slice a os.length cap):=af _ _ 1 _ _ _ BR.out
   have c6:=fI BR.out
   obtain ⟨a',cap',he,bM,av⟩:=(HS.out.below ap).opened
   cases he
   obtain ⟨b,cf,rfl,c0,c1,c2,c3⟩:=av k D
   obtain ⟨d0,d1,d2,d3⟩:=r k D (ah _)
   have z0:=m (k*4) (by omega)
   have z1:=m (k*4+1) (by omega)
   have z2:=m (k*4+2) (by omega)
   have z3:=m (k*4+3) (by omega)
   rw [←aW] at z1 z2 z3
   have aa:=ae r
   have a4:=ae m
   have ci:(k:Int)<os.length:=by omega
   have c7:=fP c0
   have cl:=Fw os[k].kind os[k].table os[k].key os[k].val
   clear av bM r m
   go_wp2
   go_quiet (fail)
   go_wp2
   exact ⟨lG.step (wr:=wr.drewN nq) D aa.out a4.out bI (C.drewN _),by simp [intOf];omega⟩
  ·obtain rfl:k=os.length:=by omega
   have c8:¬(os.length:Int)<os.length:=by omega
   have f0:wr.cell? ⟨l.heap.size,0,none⟩=some (.int .i64 0):=af _ _ 0 _ _ _ Z.out
   have f1:wr.cell? ⟨l.heap.size,1,none⟩=some (.int .i64 0):=af _ _ 1 _ _ _ Z.out
   have f2:wr.cell? ⟨l.heap.size,2,none⟩=some (.int .i64 0):=af _ _ 2 _ _ _ Z.out
   have r0:wr.cell? ⟨w.heap.size+1,0,none⟩=some (.int .i64 0):=af _ _ 0 _ _ _ s.out
   have r1:wr.cell? ⟨w.heap.size+1,1,none⟩=some (.int .i64 0):=af _ _ 1 _ _ _ s.out
   have r2:wr.cell? ⟨w.heap.size+1,2,none⟩=some (.int .i64 0):=af _ _ 2 _ _ _ s.out
   have z0:=ao _ _ 0 _ _ s.out
   have z1:=ao _ _ 1 _ _ s.out
   have z2:=ao _ _ 2 _ _ s.out
   have c9:=fI s.out
   have co:=fI Z.out
   have q:l.heap.size≠w.heap.size+1:=by omega
   have bX:g<w2.heap.size:=a1.out g rfl
   have F:=am.out.fU
   have S:BytesAt wr (.slice dl L E) (jo v os) :=
    (am.out.frame C.size (fun bb bP D=>C.block bb D (fun e=>by have:=F bb bP;omega))).bytes
   have x:(Value.slice dl L E).ownBlock≠some (w.heap.size+1):=fun e=>by have:=F _ e;omega
   clear F
   clear r m
   go_wp2
   go_region_held3 (fun w'=>Sem.run Tryz.prog (convert 59 9 (.slice dl L E)) w' = .ok (.string ⟨(jo v os).toArray⟩) w'∧w'.cell? ⟨l.heap.size,0,none⟩=some (.int .i64 0)∧w'.cell? ⟨l.heap.size,1,none⟩=some (.int .i64 0)∧w'.cell? ⟨l.heap.size,2,none⟩=some (.int .i64 0))
    (first
     | exact ⟨BytesAt.convert (w:=wr.drew) S,f0,f1,f2⟩
     | exact ⟨BytesAt.convert (w:=World.drew _) (((S.gh _ _ x).gh _ _ x).gh _ _ x),gL q f0,gL q f1,gL q f2⟩
     | exact ⟨BytesAt.convert (((S.gh _ _ x).gh _ _ x).gh _ _ x),gL q f0,gL q f1,gL q f2⟩)
    (fail)
   go_wp2
   have I:(((wr.setCell ⟨w.heap.size+1,0,none⟩ (.int .i64 0)).setCell ⟨w.heap.size+1,1,none⟩ (.int .i64 0)).setCell ⟨w.heap.size+1,2,none⟩ (.int .i64 0)).cell? ⟨w.heap.size+1,0,none⟩=some (.int .i64 0):=af _ _ 0 _ _ _ (heap_setCell _ _ 2 _ (heap_setCell _ _ 1 _ (heap_setCell _ _ 0 _ s.out)))
   have J:(((wr.setCell ⟨w.heap.size+1,0,none⟩ (.int .i64 0)).setCell ⟨w.heap.size+1,1,none⟩ (.int .i64 0)).setCell ⟨w.heap.size+1,2,none⟩ (.int .i64 0)).cell? ⟨w.heap.size+1,1,none⟩=some (.int .i64 0):=af _ _ 1 _ _ _ (heap_setCell _ _ 2 _ (heap_setCell _ _ 1 _ (heap_setCell _ _ 0 _ s.out)))
   have M:(((wr.setCell ⟨w.heap.size+1,0,none⟩ (.int .i64 0)).setCell ⟨w.heap.size+1,1,none⟩ (.int .i64 0)).setCell ⟨w.heap.size+1,2,none⟩ (.int .i64 0)).cell? ⟨w.heap.size+1,2,none⟩=some (.int .i64 0):=af _ _ 2 _ _ _ (heap_setCell _ _ 2 _ (heap_setCell _ _ 1 _ (heap_setCell _ _ 0 _ s.out)))
   refine aK (v := .tuple #[.string ⟨(jo v os).toArray⟩,.agg #[.int .i64 0,.int .i64 0,.int .i64 0]]) (by simp [results,Tryz.results42,go_sem,I,J,M]) rfl ⟨rfl,?_⟩
   have U:=((ap.setCell (p:=⟨w.heap.size+1,0,none⟩) (by simp) (.int .i64 0)).setCell (p:=⟨w.heap.size+1,1,none⟩) (by simp) (.int .i64 0)).setCell (p:=⟨w.heap.size+1,2,none⟩) (by simp) (.int .i64 0)
   exact ⟨U.os,U.tape,U.output,U.size,U.block⟩
end Go.Proofs.YtkkfmkhbdoeglaaGreatDoor
namespace Go.Proofs.YtkkfmkhbdoeglaaGreatDoor
open Go.RowKit
def Gq (S:List E):Prop:=∀ x∈S,0≤x.1.1∧x.1.1<256∧x.1.2.length≤100∧x.2.length≤100
theorem uO (q r v:Nat) (S:List E) (w:World) (he:EntAt w q 0 r S) (d:S.length<65536) (b:isVersionB v=true) (i:Gq S) :
  Calls Tryz.prog 57 #[.int .u64 v,.pointer (some ⟨q,0,none⟩)] w fun e w'=>∃ bv,e = .returned (.tuple #[bv,.nilIface])∧OwnS w' w.heap.size 1 bv (gH v S).length (u8s (gH v S))∧Below w.heap.size w w':=by
 have hc:=he.cell
 have H:=ae (Ba q 0 r v S w he d (j6 b) i)
 have HV:=ae b
 clear he i b d
 go_enter Tryz.func57,Tryz.ntmps57
 go_wp2_with fail
 refine (jh v _).mono ?_
 rintro e w1 ⟨rfl,rfl⟩
 rw [HV.out]
 go_wp2_with fail
 refine H.out.mono ?_
 rintro e w1 ⟨bv,rfl,l,j⟩
 go_wp2
 go_ret2
 exact ⟨bv,rfl,l,j⟩
def mF (x:E):OpB:=⟨1,x.1.1,x.1.2,x.2⟩
def pF (l:List E):List E:=l.foldl (fun S x=>j8 1 S [mF x]) []
theorem Cn (l:List E) (k:Nat) (h:k<l.length):pF (l.take (k+1))=j8 1 (pF (l.take k)) [mF l[k]]:=by
 unfold pF
 rw [aO h,di]
 rfl
theorem tp (q r:Nat) (S:List E) (v:Nat) (d:Value) (os:List OpB) (w:World) (he:EntAt w q 0 r S) (hs:iu w d os) (j:ShapesVar w) (b:jP os) :
  Calls Tryz.prog 55 #[.pointer (some ⟨q,0,none⟩),.agg #[.int .u64 v,d]] w fun e w'=>(∃ ev,e = .returned ev)∧TabAt w' r (j8 v S os)∧Ext (fun i=>i=r) w w':=by
 unfold j8
 cases hw:gB v os with
 | none=>exact (oL q r S v d os w he hs j b hw).mono fun e w' ⟨h1,h2,h3⟩=>⟨⟨_,h1⟩,h2,h3⟩
 | some f=>exact (pL q r S v d os w he hs j b f hw).mono fun e w' ⟨ev,h1,_,h3⟩=>⟨⟨_,h1⟩,he.tab.fW (h3.block r he.tab.lt),Ext.fM h3⟩
def Gs (w1:World) (_q r:Nat) (l:List E) (i:Value) (wr:World):Prop :=
 ∃ k:Nat,k≤l.length∧i = .int .i64 (k:Int)∧TabAt wr r (pF (l.take k))∧Ext (fun i=>i=r) w1 wr
theorem Fm (v:Value) (l:List E) (w:World) (h:ic w v l) (O:ShapesVar w) (s:∀ x∈l,jP [mF x]) (hl:l.length≤1000000000) :
  Calls Tryz.prog 56 #[v] w fun e w'=>e = .returned (.pointer (some ⟨w.heap.size+1,0,none⟩))∧EntAt w' (w.heap.size+1) 0 w.heap.size (pF l)∧Below w.heap.size w w':=by
 obtain ⟨a,cap,rfl,aa,-⟩:=h.opened
 have U:=ae h
 clear h
 go_enter Tryz.func56,Tryz.ntmps56
 go_wp2_with fail
 refine (kX _).mono ?_
 rintro e w1 ⟨rfl,he,b,G⟩
 have D:=ae he
 have I:=ae G
 have am:=ae (U.out.below b)
 have J:=ae (O.new b)
 have ap:=O.two
 clear he G O
 obtain ⟨r,Q⟩:∃ r,r=w.heap.size:=⟨_,rfl⟩
 have av:r+2≤w1.heap.size:=by have:=I.out;omega
 have aE:2≤r:=by omega
 have F:=ae Q
 rw [←Q] at D⊢
 clear Q
 have HF:=ae s
 clear s I
 go_wp2_with fail
 go_loopw [9] (fun i wr=>Gs w1 (r+1) r l i wr) (fun i _=>l.length-(intOf i).toNat)
 case atStart=>exact ⟨0,aL _,rfl,D.out.tab,Ext.refl _ _⟩
 case round =>
  obtain ⟨k,hk,rfl,m,d⟩:=hrel
  have a0:=d.size
  by_cases u:k<l.length
  ·have ag:(k:Int)<l.length:=by omega
   obtain ⟨a',cap',he,-,q⟩:=U.out.opened
   cases he
   obtain ⟨o,R,rfl,S,V,W⟩:=q k u
   have a1:o<r:=by rw [F.out];exact fP S
   have y:Ext (fun i=>i=r) w wr:=(Ext.fM b).trans d
   have c0:=y.cell (p:=⟨o,R+k*3,none⟩) (by show ¬o=r;omega) S
   have c1:=y.cell (p:=⟨o,R+k*3+1,none⟩) (by show ¬o=r;omega) V
   have c2:=y.cell (p:=⟨o,R+k*3+2,none⟩) (by show ¬o=r;omega) W
   have HT:=ae (Cn l k u)
   have hF:=HF.out l[k] (cF u)
   have al:=fP c0
   have X:ShapesVar wr:=J.out.fW d.size (d.block _ (fP J.out.c0) (fun e=>absurd (show 1<2 by decide) (by omega)))
   clear q S V W
   have B:Below wr.heap.size wr ((wr.alloc (.cells #[.int .i64 l[k].1.1,.string ⟨l[k].1.2.toArray⟩,.string ⟨l[k].2.toArray⟩] 123)).alloc (.cells #[.int .i64 (mF l[k]).kind,.int .i64 (mF l[k]).table,.string ⟨(mF l[k]).key.toArray⟩,.string ⟨(mF l[k]).val.toArray⟩] 96)):=((Below.refl _ wr).alloc (ah _) _).alloc (by simp) _
   have C:=sy (wr.alloc (.cells #[.int .i64 l[k].1.1,.string ⟨l[k].1.2.toArray⟩,.string ⟨l[k].2.toArray⟩] 123)) (mF l[k])
   rw [ax] at C
   have M:=ae (tp (r+1) r (pF (l.take k)) 1 _ _ _ ((D.out.step d m).below B) C (X.new B) hF)
   unfold mF at M
   clear C
   go_wp2_with fail
   refine M.out.mono ?_
   rintro e w2 ⟨⟨ev,rfl⟩,N,Y⟩
   have Z:=ae N
   clear N
   go_wp2
   refine ⟨⟨k+1,by omega,rfl,by rw [HT.out];exact Z.out,(d.qj B).trans Y⟩,?_⟩
   simp [intOf]
   omega
  ·obtain rfl:k=l.length:=by omega
   have a2:¬(l.length:Int)<l.length:=by omega
   rw [be] at m
   go_wp2
   go_ret
   rw [←F.out]
   refine ⟨rfl,D.out.step d m,?_⟩
   rw [F.out]
   exact b.trans (d.below b.size (fun j hj e=>by have:=F.out;omega))
theorem qS (v:Nat) (N:Value) (l:List E) (w:World) (h:ic w N l) (Q:ShapesVar w) (r:∀ x∈l,jP [mF x]) (hl:l.length≤1000000000) (R:(pF l).length<65536) (S:isVersionB v=true) (U:Gq (pF l)) :
  Calls Tryz.prog 25 #[.int .u64 v,N] w fun e w'=>e = .returned (.tuple #[.string ⟨(gH v (pF l)).toArray⟩,ku 0 0 0])∧Below w.heap.size w w':=by
 have s:Below w.heap.size w (w.alloc (.cells #[.int .i64 0,.int .i64 0,.int .i64 0] 38)):=(Below.refl _ w).alloc (ah _) _
 have R0:=ae (fL w (.cells #[.int .i64 0,.int .i64 0,.int .i64 0] 38))
 have V:=ae (Fm N l _ (h.below s) (Q.new s) r hl)
 have HV:=ae S
 have W:=ae U
 clear h Q r hl S U
 go_enter Tryz.func25,Tryz.ntmps25
 go_wp2_with fail
 refine V.out.mono ?_
 rintro e w1 ⟨rfl,u,y⟩
 simp only [ax] at u⊢
 have M:=ae u
 have X:=ae (fK y (by simp) R0.out)
 have b1:Below w.heap.size w w1:=s.tn y
 clear u
 go_wp2_with fail
 refine (uO _ _ v _ _ M.out R HV.out W.out).mono ?_
 rintro e w2 ⟨bv,rfl,o,B⟩
 obtain ⟨Y,C,rfl⟩:=o.shape
 have Z:=ae (fK B (fI X.out) X.out)
 have b2:=b1.tn B
 have aa:1≤(gH v (pF l)).length:=by unfold gH;simp [fY];omega
 go_wp2_with fail
 refine (oH _).mono ?_
 rintro e w3 ⟨rfl,q⟩
 have R3:=ae (fK q (fI Z.out) Z.out)
 have b3:=b2.tn q
 have D:=o.fU
 have F:=(o.below q).bytes
 obtain ⟨L,O⟩:∃ L,L=gH v (pF l):=⟨_,rfl⟩
 have ag:=ae O
 rw [←O] at aa F D⊢
 clear o O V M W R HV
 have a4:=q.size
 have a5:=B.size
 have ak:=y.size
 rw [ax] at ak
 have b:w3.heap.size≠w.heap.size:=by omega
 have aE:((L.length:Int)==0)=false:=by rw [aD];omega
 have j:(Value.slice Y L.length C).ownBlock≠some w.heap.size:=fun e=>by have:=D _ e;omega
 go_wp2_with fail
 generalize G:w3.alloc (.cells #[.int .i64 0,.int .i64 0,.int .i64 0] 38)=d
 have t4:Below w3.heap.size w3 d:=by rw [←G];exact (Below.refl _ w3).alloc (ah _) _
 have J:Hid (d.heap[w3.heap.size]?=some (.cells #[.int .i64 0,.int .i64 0,.int .i64 0] 38 (0,0))):=ae (by rw [←G];exact fL w3 _)
 clear G
 have b4:=b3.tn t4
 have i:=ae (fK t4 (fI R3.out) R3.out)
 have m:=F.below t4
 have f0:d.cell? ⟨w3.heap.size,0,none⟩=some (.int .i64 0):=af _ _ 0 _ _ _ J.out
 have f1:d.cell? ⟨w3.heap.size,1,none⟩=some (.int .i64 0):=af _ _ 1 _ _ _ J.out
 have f2:d.cell? ⟨w3.heap.size,2,none⟩=some (.int .i64 0):=af _ _ 2 _ _ _ J.out
 have r0:d.cell? ⟨w.heap.size,0,none⟩=some (.int .i64 0):=af _ _ 0 _ _ _ i.out
 have r1:d.cell? ⟨w.heap.size,1,none⟩=some (.int .i64 0):=af _ _ 1 _ _ _ i.out
 have r2:d.cell? ⟨w.heap.size,2,none⟩=some (.int .i64 0):=af _ _ 2 _ _ _ i.out
 have z0:=ao _ _ 0 _ _ i.out
 have z1:=ao _ _ 1 _ _ i.out
 have z2:=ao _ _ 2 _ _ i.out
 have a6:=fI i.out
 have a7:=fI J.out
 clear F D
 go_wp2
 go_region_held3 (fun w'=>Sem.run Tryz.prog (convert 59 9 (.slice Y L.length C)) w' = .ok (.string ⟨L.toArray⟩) w'∧w'.cell? ⟨w3.heap.size,0,none⟩=some (.int .i64 0)∧w'.cell? ⟨w3.heap.size,1,none⟩=some (.int .i64 0)∧w'.cell? ⟨w3.heap.size,2,none⟩=some (.int .i64 0))
  (first
   | exact ⟨BytesAt.convert (w:=d.drew) m,f0,f1,f2⟩
   | exact ⟨BytesAt.convert (w:=World.drew _) (((m.gh _ _ j).gh _ _ j).gh _ _ j),gL b f0,gL b f1,gL b f2⟩
   | exact ⟨BytesAt.convert (((m.gh _ _ j).gh _ _ j).gh _ _ j),gL b f0,gL b f1,gL b f2⟩)
  (fail)
 go_wp2
 have x0:(((d.setCell ⟨w.heap.size,0,none⟩ (.int .i64 0)).setCell ⟨w.heap.size,1,none⟩ (.int .i64 0)).setCell ⟨w.heap.size,2,none⟩ (.int .i64 0)).cell? ⟨w.heap.size,0,none⟩=some (.int .i64 0):=af _ _ 0 _ _ _ (heap_setCell _ _ 2 _ (heap_setCell _ _ 1 _ (heap_setCell _ _ 0 _ i.out)))
 have x1:(((d.setCell ⟨w.heap.size,0,none⟩ (.int .i64 0)).setCell ⟨w.heap.size,1,none⟩ (.int .i64 0)).setCell ⟨w.heap.size,2,none⟩ (.int .i64 0)).cell? ⟨w.heap.size,1,none⟩=some (.int .i64 0):=af _ _ 1 _ _ _ (heap_setCell _ _ 2 _ (heap_setCell _ _ 1 _ (heap_setCell _ _ 0 _ i.out)))
 have x2:(((d.setCell ⟨w.heap.size,0,none⟩ (.int .i64 0)).setCell ⟨w.heap.size,1,none⟩ (.int .i64 0)).setCell ⟨w.heap.size,2,none⟩ (.int .i64 0)).cell? ⟨w.heap.size,2,none⟩=some (.int .i64 0):=af _ _ 2 _ _ _ (heap_setCell _ _ 2 _ (heap_setCell _ _ 1 _ (heap_setCell _ _ 0 _ i.out)))
 refine aK (v := .tuple #[.string ⟨L.toArray⟩,.agg #[.int .i64 0,.int .i64 0,.int .i64 0]]) (by simp [results,Tryz.results25,go_sem,x0,x1,x2]) rfl ⟨by rw [ag.out];rfl,?_⟩
 have I:=((b4.setCell (p:=⟨w.heap.size,0,none⟩) (ah _) (.int .i64 0)).setCell (p:=⟨w.heap.size,1,none⟩) (ah _) (.int .i64 0)).setCell (p:=⟨w.heap.size,2,none⟩) (ah _) (.int .i64 0)
 exact ⟨I.os,I.tape,I.output,I.size,I.block⟩
end Go.Proofs.YtkkfmkhbdoeglaaGreatDoor
