/- A part of what is proved here: lemmas and contracts of single functions. No condition but those that each names. -/
import Derived.Test.YtkkfmkhbdoeglabGreatDoorG00
import Derived.Conc.SmallLaws
import Derived.Test.YtkkfmkhbdoeglabGreatDoorG14
import Derived.Test.YtkkfmkhbdoeglabGreatDoorG23
import Derived.Test.YtkkfmkhbdoeglabGreatDoorG35
set_option maxHeartbeats 4000000
set_option maxRecDepth 100000
namespace Go.Proofs.YtkkfmkhbdoeglabGreatDoor
open Go.RowKit
theorem AgAt.ve {w w':World} {G O:Nat→Prop} {a h:Nat} {P:PAg} {x:AV} (ha:AgAt w G O a h P x) (b:Ext (fun j=>j=a) w w'):FltP w' G x.fp P.sec P.a.deg :=
 ha.flt.frame b fun k C fz _ hk e=>by
  subst e
  rcases hk with hk | hk <;> exact iQ ha.row hk (by decide) rfl
theorem AgAt.y4 {w w':World} {G O:Nat→Prop} {a h:Nat} {P:PAg} {x:AV} (ha:AgAt w G O a h P x) (b:Ext (fun j=>j=a) w w'):ComP w' G x.cp P.a.com :=
 ha.com.frame b fun k C fz _ hk e=>by
  subst e
  rcases hk with hk | hk <;> exact iQ ha.row hk (by decide) rfl
theorem AgAt.mT {w w':World} {G G' O:Nat→Prop} {a h:Nat} {P P':PAg} {x x':AV} (ha:AgAt w G O a h P x) (b:Ext (fun j=>j=a) w w') (l:w'.heap[a]?=some (.cells (x'.cells P'.a.V h) 174 (0,0))) (m:x'.r=x.r) (o:x'.lg=x.lg) (q:x'.c=x.c) (y:P'.a.T=P.a.T) (B:P'.lg=P.lg) (C:P'.a.out=P.a.out)
  (d:∀ k,G k→G' k) (i:∀ k,G' k→k<w'.heap.size∧¬O k) (D:FltP w' G' x'.fp P'.sec P'.a.deg) (hc:ComP w' G' x'.cp P'.a.com):AgAt w' G' O a h P' x':=by
 obtain ⟨s,r,vals,h1,-⟩:=ha.out
 have u:x.r≠a:=fun e=>ha.tab.jZ ha.row e.symm
 refine ⟨l,?_,?_,?_,D,hc,⟨d _ ha.gin.1,by rw [m];exact d _ ha.gin.2.1,by rw [o];exact d _ ha.gin.2.2.1,by rw [q];exact d _ ha.gin.2.2.2⟩,fun k hk=>(i k hk).1,fun k hk=>aC (ha.olt k hk) b.size,fun k hk=>(i k hk).2⟩
 ·rw [m,y]
  exact ha.tab.gr (b.block _ ha.tab.lt u)
 ·rw [o,B]
  have hl:=ha.log
  unfold LogAt at hl⊢
  exact b.at (fun e=>iQ ha.row hl (by decide) e.symm) hl
 ·rw [q,C]
  exact ha.out.frame b (fun e=>nl h1 ha.row e.symm) fun k hk e=>ha.sep a ha.gin.1 (e▸hk)
theorem Ef (w:World) (b i:Nat) (v:Value) (o:Obj):Ext (fun j=>j=b) (w.alloc o) ((w.setCell ⟨b,i,none⟩ v).alloc o):=by
 refine ⟨rfl,rfl,rfl,by rw [aw,aw,size_setCell];exact af _,fun j m l => ?_⟩
 rw [aw] at m
 by_cases d:j<w.heap.size
 ·rw [heap_alloc_old _ _ d,heap_alloc_old _ _ (by rw [size_setCell];exact d)]
  exact Below.heap_setCell w ⟨b,i,none⟩ v j l
 ·obtain rfl:j=w.heap.size:=by omega
  have h1:=fR w o
  have h2:=fR (w.setCell ⟨b,i,none⟩ v) o
  rw [size_setCell] at h2
  rw [h1,h2]
def AgA.ia (a:AgA) (body:List UInt8):AgA×Option Nat :=
 if body.length<9 then (a,some 1) else if 9<body.length then (a,some 2)
 else if isVersionB (iP (body.take 8))=false then (a,some 4)
 else if (body.getD 8 0).toNat<1∨16<(body.getD 8 0).toNat then (a,some 5)
 else if iP (body.take 8)≤a.V then (a.lQ,none)
 else (AgA.jM {a with com:=some (iP (body.take 8),(body.getD 8 0).toNat,[])},none)
theorem FD (a:AgA) (body:List UInt8):a.nM body=match (a.ia body).2 with
  | none=>(a.ia body).1
  | some k=>a.bad k:=by
 unfold AgA.nM AgA.ia
 split
 ·rfl
 ·split
  ·rfl
  ·split
   ·rfl
   ·split
    ·rfl
    ·split <;> rfl
theorem vj {w w':World} {G O:Nat→Prop} {a h:Nat} {P:PAg} {x:AV} (ha:AgAt w G O a h P x) (b:Below w.heap.size w w'):pa w G O a h P w':=⟨G,O,x,ha.below b,fun _k hk=>hk.imp id .inl,Ext.fT b⟩
theorem FC (body:List UInt8):(body.length<9→∃ p,((Cu.take ⟨body,0,0,none⟩ 8).1.take 1).1.f=some (1,p))∧
  (9≤body.length→((Cu.take ⟨body,0,0,none⟩ 8).1.take 1).1.f=none∧((Cu.take ⟨body,0,0,none⟩ 8).1.take 1).1.to=9∧(Cu.take ⟨body,0,0,none⟩ 8).2=body.take 8∧((Cu.take ⟨body,0,0,none⟩ 8).1.take 1).2=[body.getD 8 0]):=by
 rw [Cu.ir]
 constructor
 ·intro hl
  by_cases h8:body.length<8
  ·rw [aD (by omega)]
   exact ⟨0,by rw [Cu.jV]⟩
  ·rw [au (by omega)]
   exact ⟨8,by rw [Cu.ir,aD (by omega)]⟩
 ·intro hl
  rw [au (by omega),Cu.ir,au (by omega)]
  refine ⟨rfl,rfl,by simp,?_⟩
  have h8:8<body.length:=by omega
  show (body.drop (0+8)).take 1=_
  rw [bG,b9 h8,bA,cd,aN,ay h8]
  rfl
theorem yU (a h:Nat) (P:PAg) (x:AV) (G O:Nat→Prop) (bv:Value) (body:List UInt8) (w:World) (ha:AgAt w G O a h P x) (hv:P.a.V<18446744073709551616) (hb:BytesAt w bv body) (S:∀ b,bv.ownBlock=some b→b<w.heap.size) (hl:body.length≤gF) :
  Calls Tryz.prog 113 #[.pointer (some ⟨a,0,none⟩),bv] w (qH w G O a h {P with a:=(P.a.ia body).1} (P.a.ia body).2):=by
 obtain ⟨ba,F,rfl,-,-⟩:=hb.opened
 have I:=ab ha
 have bS:gF≤1000000000000000000:=by decide
 have ap:CurAt (w.alloc (.cells #[.slice ba body.length F,.int .i64 0,.int .i64 0,.pointer none] 254)) w.heap.size w.heap.size ⟨body,0,0,none⟩ :=
  ⟨aM _,af _,hl,af _,.slice ba body.length F,none,fR _ _,hb.below ((Below.rf w).alloc (af _) _),fun b e=>S b e,rfl⟩
 have bl:=ab ap
 have U:=ab (FC body)
 have bX:∀ b,(Value.slice ba body.length F).ownBlock=some b→b≠w.heap.size:=fun b e=>by have:=S b e;omega
 clear ap ha hb S
 obtain ⟨D,W⟩:∃ D,D=Cu.take ⟨body,0,0,none⟩ 8:=⟨_,rfl⟩
 obtain ⟨X,Y⟩:∃ X,X=D.1.take 1:=⟨_,rfl⟩
 rw [←W,←Y] at U
 have av:=ab W
 have aE:=ab Y
 clear W Y
 go_enter Tryz.func113,Tryz.ntmps113
 go_wp2_with fail
 refine (mJ w.heap.size w.heap.size ⟨body,0,0,none⟩ _ bl.out (by simp)).mono ?_
 rintro e w1 ⟨rfl,J,u⟩
 rw [←av.out] at J⊢
 have ci:Below w.heap.size w w1:=((Below.rf w).alloc (af _) _).trans (by refine ⟨u.os,u.tape,u.output,u.size,fun k hk=>u.block k (by simp;omega) (fun e=>by cases e;omega)⟩)
 have Z:=ab ci
 have a9:=ab J
 have aa:Hid (iP D.2<18446744073709551616):=ab (by
  have h8:D.2.length=8:=by rw [av.out,Cu.take_length]
  have:=qP 8 D.2 (by omega)
  rw [aQ (by omega)] at this
  simpa using this)
 obtain ⟨V,hV⟩:∃ V,V=iP D.2:=⟨_,rfl⟩
 have HV:=ab hV
 rw [←hV] at aa⊢
 clear J u ci hV
 go_wp2_with fail
 refine (jU w.heap.size w.heap.size D.1 1 w1 a9.out Z.out.size (by omega) (by omega)).mono ?_
 rintro e w2 ⟨tv,rfl,M,-,ag,y⟩
 rw [←aE.out] at M ag
 have d:Hid (Below w.heap.size w w2):=ab (Z.out.trans ⟨y.os,y.tape,y.output,y.size,fun k hk=>y.block k (by have:=Z.out.size;omega) (fun e=>by cases e;omega)⟩)
 obtain ⟨N,hN⟩:∃ N,X.2=[N]:=by
  have:X.2.length=1:=by rw [aE.out,Cu.take_length]
  match X.2,this with
  | [N],_=>exact ⟨N,rfl⟩
 have HN:=ab hN
 rw [hN] at M
 obtain ⟨ta,bO,rfl,b0,a0⟩:=M.opened
 obtain ⟨tb,b1,rfl,t0⟩:=a0 0 (by simp)
 obtain ⟨-,-,-,-,cv,fp,C,-,-,m⟩:=ag
 have c2:=ae _ _ 2 _ _ _ C
 have c3:=ae _ _ 3 _ _ _ C
 have b2:=fO C
 have a1:=ab m
 simp only [cj,cz] at t0
 obtain ⟨l,Q⟩:∃ l,l=N.toNat:=⟨_,rfl⟩
 rw [←Q] at t0
 have b3:l<256:=by rw [Q];exact N.toNat_lt
 have br:=ab Q
 clear Q
 clear m a0 M hN y C
 by_cases h9:body.length<9
 ·obtain ⟨p,hp⟩:=U.out.1 h9
  have m:=a1.out
  rw [hp] at m
  obtain ⟨g,rfl,-⟩:=m
  have r:Hid (P.a.ia body=(P.a,some 1)):=ab (by unfold AgA.ia;rw [aD h9])
  clear hp h9
  go_wp2_with fail
  refine (gI 1 0 _).mono ?_
  rintro e w3 ⟨rfl,rfl⟩
  have s:=ab (d.out.alloc d.out.size (.cells #[.int .i64 1,.int .i64 0,.nilIface] 186))
  go_wp2
  go_ret
  rw [r.out]
  exact ⟨vj I.out s.out,_,0,rfl,ja.new _ _ 1 0 d.out.size⟩
 ·have bt:9≤body.length:=by omega
  obtain ⟨e1,e2,e3,e4⟩:=U.out.2 bt
  have m:=a1.out
  rw [e1] at m
  obtain rfl:fp=none:=m
  rw [e2] at c2
  rw [e4] at HN
  have E:N=body.getD 8 0:=(List.cons.inj HN.out).1.symm
  have E:l=(body.getD 8 0).toNat:=by rw [br.out,E]
  have ak:V=iP (body.take 8):=by rw [HV.out,e3]
  clear e1 e2 e3 e4
  by_cases R:9<body.length
  ·have bc:(9:Int)<(body.length:Int):=by omega
   have r:Hid (P.a.ia body=(P.a,some 2)):=ab (by unfold AgA.ia;rw [au (by omega),aD R])
   clear E ak R
   go_wp2_with fail
   refine (gI 2 0 _).mono ?_
   rintro e w3 ⟨rfl,rfl⟩
   have s:=ab (d.out.alloc d.out.size (.cells #[.int .i64 2,.int .i64 0,.nilIface] 186))
   go_wp2
   go_ret
   rw [r.out]
   exact ⟨vj I.out s.out,_,0,rfl,ja.new _ _ 2 0 d.out.size⟩
  ·have bc:¬(9:Int)<(body.length:Int):=by omega
   have HS:Hid (P.a.ia body=if isVersionB V=false then (P.a,some 4) else if l<1∨16<l then (P.a,some 5) else if V≤P.a.V then (P.a.lQ,none) else (AgA.jM {P.a with com:=some (V,l,[])},none)):=ab (by unfold AgA.ia;rw [au (by omega),au R,←ak,←E])
   clear E ak R h9
   have bM:=aa.out
   go_upto_region 10 with fail
   go_wp2_with fail
   refine (jO V w2).mono ?_
   rintro e b4 ⟨rfl,rfl⟩
   cases o:isVersionB V with
   | false =>
    have r:Hid (P.a.ia body=(P.a,some 4)):=ab (by rw [HS.out,aD o])
    clear o
    go_wp2_with fail
    refine (gI 4 0 _).mono ?_
    rintro e w3 ⟨rfl,rfl⟩
    have s:=ab (d.out.alloc d.out.size (.cells #[.int .i64 4,.int .i64 0,.nilIface] 186))
    go_wp2
    go_ret
    rw [r.out]
    exact ⟨vj I.out s.out,_,0,rfl,ja.new _ _ 4 0 d.out.size⟩
   | true =>
    by_cases B:l<1∨16<l
    ·have r:Hid (P.a.ia body=(P.a,some 5)):=ab (by rw [HS.out,au (by rw [o];decide),aD B])
     have bH:((l:Int)<1)∨(¬(l:Int)<1∧(16:Int)<(l:Int)):=by omega
     clear o B
     rcases bH with g1 | ⟨g1,g2⟩
     all_goals
      go_wp2_with fail
      refine (gI 5 0 _).mono ?_
      rintro e w3 ⟨rfl,rfl⟩
      have s:=ab (d.out.alloc d.out.size (.cells #[.int .i64 5,.int .i64 0,.nilIface] 186))
      go_wp2
      go_ret
      rw [r.out]
      exact ⟨vj I.out s.out,_,0,rfl,ja.new _ _ 5 0 d.out.size⟩
    ·have g1:¬(l:Int)<1:=by omega
     have g2:¬(16:Int)<(l:Int):=by omega
     have q:=ab (I.out.below d.out)
     have r2:=q.out.row
     unfold AV.cells at r2
     have d1:=ae _ _ 1 _ _ _ r2
     have d6:=ae _ _ 6 _ _ _ r2
     have z6:=aj _ _ 6 _ _ r2
     have b5:=fO r2
     clear r2
     by_cases hle:V≤P.a.V
     ·have be:(V:Int)≤(P.a.V:Int):=by omega
      have r:Hid (P.a.ia body=(P.a.lQ,none)):=ab (by rw [HS.out,au (by rw [o];decide),au B,aD hle])
      clear o B hle
      go_wp2_with fail
      refine (pe a h P x G O w2 q.out hv).mono ?_
      rintro e w3 ⟨rfl,a2⟩
      have HP:=ab a2
      clear a2
      go_wp2
      go_ret
      rw [r.out]
      exact ⟨pa.gD d.out (HP.out.go I.out.gin.2.2.2),rfl⟩
     ·have be:¬(V:Int)≤(P.a.V:Int):=by omega
      have r:Hid (P.a.ia body=(AgA.jM {P.a with com:=some (V,l,[])},none)):=ab (by rw [HS.out,au (by rw [o];decide),au B,au hle])
      clear o B hle
      have H3:Hid (AgAt ((w2.setCell ⟨a,6,none⟩ (.pointer (some ⟨w2.heap.size,0,none⟩))).alloc (.cells #[.int .u64 (V:Nat),.int .i64 (l:Nat),.int .i64 0,.slice none 0 0] 257)) (fun k=>G k∨k=w2.heap.size) O a h {P with a := {P.a with com:=some (V,l,[])}} {x with cp := .pointer (some ⟨w2.heap.size,0,none⟩)}∧Ext (fun k=>G k) w2 ((w2.setCell ⟨a,6,none⟩ (.pointer (some ⟨w2.heap.size,0,none⟩))).alloc (.cells #[.int .u64 (V:Nat),.int .i64 (l:Nat),.int .i64 0,.slice none 0 0] 257))):=by
       have a3:Below w2.heap.size w2 (w2.alloc (.cells #[.int .u64 (V:Nat),.int .i64 (l:Nat),.int .i64 0,.slice none 0 0] 257)):=(Below.rf w2).alloc (af _) _
       have a4:=q.out.below a3
       have hx:Ext (fun j=>j=a) (w2.alloc (.cells #[.int .u64 (V:Nat),.int .i64 (l:Nat),.int .i64 0,.slice none 0 0] 257)) ((w2.setCell ⟨a,6,none⟩ (.pointer (some ⟨w2.heap.size,0,none⟩))).alloc (.cells #[.int .u64 (V:Nat),.int .i64 (l:Nat),.int .i64 0,.slice none 0 0] 257)):=Ef w2 a 6 _ _
       have bI:w2.heap.size≠a:=by omega
       refine ab ⟨a4.mT (G':=fun k=>G k∨k=w2.heap.size) hx (fX _ _ (heap_setCell _ _ 6 _ q.out.row)) rfl rfl rfl rfl rfl rfl (fun k => .inl) (fun k hk => ?_) ((a4.ve hx).mono fun k => .inl) ?_,(Ext.fT a3).trans' hx fun i e => .inl (e▸q.out.gin.1)⟩
       ·rw [aw,size_setCell]
        rcases hk with hk | rfl
        ·exact ⟨by have:=q.out.glt k hk;omega,q.out.sep k hk⟩
        ·exact ⟨by omega,fun ho=>by have:=q.out.olt _ ho;omega⟩
       ·exact ⟨w2.heap.size,.slice none 0 0,rfl,.inr rfl,hx.at bI (fR w2 _),OwnS.nil _ _ _,CellsOf.nil _ _,fun k e=>by simp [Value.ownBlock] at e⟩
      go_upto_region 9 with fail
      generalize bL:(w2.setCell ⟨a,6,none⟩ (.pointer (some ⟨w2.heap.size,0,none⟩))).alloc (.cells #[.int .u64 (V:Nat),.int .i64 (l:Nat),.int .i64 0,.slice none 0 0] 257)=w3 at *
      have b6:Hid (w2.heap.size≤w3.heap.size):=ab H3.out.2.size
      clear bL
      go_wp2_with fail
      refine (og a h _ _ _ O w3 H3.out.1 V l [] rfl (by simp)).mono ?_
      rintro e w4 ⟨rfl,a5⟩
      have HP:=ab a5
      clear a5
      go_wp2
      go_ret
      rw [r.out]
      refine ⟨pa.gD d.out (pa.trans (fun k hk => ?_) H3.out.2 (fun k hk => ?_) (HP.out.go (.inl I.out.gin.2.2.2))),rfl⟩
      ·rcases hk with (hk | rfl) | hk
       ·exact .inl hk
       ·exact .inr (.inr (af _))
       ·exact .inr (.inl hk)
      ·rcases hk with hk | rfl
       ·exact .inl hk
       ·exact .inr (af _)
end Go.Proofs.YtkkfmkhbdoeglabGreatDoor
namespace Go.Proofs.YtkkfmkhbdoeglabGreatDoor
open Go.RowKit Go.Shelf
theorem ml.gD {w w1 w':World} {base h:Nat} {x:HV} {d:DpS} (b:Below w.heap.size w w1) (hd:ml w1 base h x d w'):ml w base h x d w':=by
 obtain ⟨⟨lv,h1,h2⟩,h3⟩:=hd
 exact ⟨⟨lv,h1,fun i e=>(h2 i e).imp id (fun e=>aH b.size e)⟩,(Ext.fT b).trans h3⟩
theorem C8 {S:List E} {room:Nat→Int} {t:Nat} (h:overS S room=some t):qp S room=(t:Int)∧t<3:=by
 unfold qp
 rw [h]
 refine ⟨rfl,?_⟩
 unfold overS at h
 split at h
 ·cases h;omega
 ·split at h
  ·cases h;omega
  ·split at h
   ·cases h;omega
   ·cases h
theorem Bi {S:List E} {room:Nat→Int} (h:overS S room=none):qp S room = -1:=by
 unfold qp
 rw [h]
theorem wQ (base q r h:Nat) (x:HV) (d:DpS) (T:List E) (w:World) (he:EntAt w q 0 r T) (hd:DpAt w base h x d) (I:T.length≤100000000) (J:d.S.length≤100000000) (M:d.log.length≤7500000000000) (b:∀ y∈d.S,y.1.2.length≤gF) (i:∀ y∈T,y.1.2.length≤gF∧y.2.length≤gF) (N:base≤w.heap.size) (u:q≠h) (B:x.log.ownBlock≠some q) (C:r≠x.r) (D:overS T x.room=none) :
  Calls Tryz.prog 63 #[rY h,.pointer (some ⟨q,0,none⟩)] w fun e w'=>e = .returned .nilIface∧ml w base h x (d.run (jo d.S T)) w':=by
 have j:=ab (Bj q 0 r h x T w he hd.row (by omega))
 rw [Bi D] at j
 have F:=ab (fun (W:World) (s:Below w.heap.size w W)=>xZ base q 0 r h x d T W (he.below s) (hd.below s) I J M b i (aH N s.size) u B C)
 have O:=he.lt
 clear he hd b i D
 unfold rY at *
 go_enter Tryz.func63,Tryz.ntmps63
 go_wp2_with fail
 refine j.out.mono ?_
 rintro e w1 ⟨rfl,l⟩
 have m:=ab l
 go_wp2_with fail
 refine (F.out w1 m.out).mono ?_
 rintro e w2 ⟨rfl,o⟩
 have G:=ab o
 clear o l
 go_wp2
 go_ret
 exact ⟨rfl,ml.gD m.out G.out⟩
end Go.Proofs.YtkkfmkhbdoeglabGreatDoor
namespace Go.Proofs.YtkkfmkhbdoeglabGreatDoor
open Go.RowKit Go.Shelf
theorem gT.brought {w w':World} {F:Nat→Prop} {h:Nat} {x:HV} {H:fP} {d':DpS} (d:gT w F h x H) (l:ml w 0 h x d' w'):iy w F (fun _=>False) h {H with dp:=d'} w':=by
 obtain ⟨⟨lv,h1,h2⟩,h3⟩:=l
 have i:w.heap[h]?=_:=d.dp.row
 obtain ⟨f1,f2,f3⟩:=d.foot
 have j:∀ (k:Nat) (C:Array Value) (t:TypeId) (fz:Nat×Nat),w.heap[k]?=some (Obj.cells C t fz)→t≠125→t≠9→w'.heap[k]?=w.heap[k]?:=fun k C t fz hk m o=>h3.block k (fO hk) fun e=>by
  rcases e with e | e | e
  ·rw [e,i] at hk
   cases hk
   exact m rfl
  ·exact d.dp.tab.jZ hk e
  ·exact d.dp.ltyp.ne hk o e
 refine ⟨fun k=>F k∨(w.heap.size≤k∧k<w'.heap.size),⟨_,⟨h1,d.fail,d.writes,?_,?_,?_,d.apart,⟨.inl f1,.inl f2,fun k e=>(h2 k e).imp (f3 k) fun hk=>⟨hk,?_⟩⟩,fun k hk=>hk.elim (fun hF=>aC (d.lt k hF) h3.size) fun hk=>hk.2⟩⟩,fun k hk=>hk.imp id fun hk=>hk.1,h3.mono fun k hk => .inl ?_⟩
 ·exact (d.held.gr h3.size fun k C t fz hk b _=>j k C t fz hk (by rcases b with b | b <;> rw [b] <;> decide) (by rcases b with b | b <;> rw [b] <;> decide)).mono fun _ => .inl
 ·exact (d.seen.gr h3.size fun k C t fz hk b _=>j k C t fz hk (by rcases b with b | b <;> rw [b] <;> decide) (by rcases b with b | b <;> rw [b] <;> decide)).mono fun _ => .inl
 ·exact (d.late.gr h3.size fun k C t fz hk b _=>j k C t fz hk (by rcases b with b | b <;> rw [b] <;> decide) (by rcases b with b | b <;> rw [b] <;> decide)).mono fun _ => .inl
 ·obtain ⟨C,fz,q⟩:=h1.ltyp k e
  exact fO q
 ·rcases hk with hk | hk | hk
  ·rw [hk];exact f1
  ·rw [hk];exact f2
  ·exact f3 k hk
structure ic (w:World) (F G O:Nat→Prop) (a h:Nat) (H:fP) (P:PAg) (x:AV):Prop where
 host:HostAt w F h H
 ag:AgAt w G O a h P x
 fg:∀ k,F k→¬G k
 fo:∀ k,F k→¬O k
def Eb (w:World) (M:Nat→Prop) (a h:Nat) (H:fP) (P:PAg):Prop:=∃ F G O x,ic w F G O a h H P x∧∀ k,F k∨G k∨O k→M k
def kv (w:World) (M:Nat→Prop) (a h:Nat) (H:fP) (P:PAg) (w':World):Prop:=∃ b,Eb w' b a h H P∧(∀ k,b k→M k∨w.heap.size≤k)∧Ext M w w'
theorem ic.frame {w w':World} {D F G O:Nat→Prop} {a h:Nat} {H:fP} {P:PAg} {x:AV} (hm:ic w F G O a h H P x) (b:Ext D w w') (hd:∀ k,F k∨G k∨O k→¬D k):ic w' F G O a h H P x :=
 ⟨hm.host.ext b fun k hk=>hd k (.inl hk),hm.ag.frame b (fun k hk=>hd k (.inr (.inl hk))) fun k hk=>hd k (.inr (.inr hk)),hm.fg,hm.fo⟩
theorem ic.below {w w':World} {F G O:Nat→Prop} {a h:Nat} {H:fP} {P:PAg} {x:AV} (hm:ic w F G O a h H P x) (b:Below w.heap.size w w'):ic w' F G O a h H P x:=hm.frame (D:=fun _=>False) (Ext.fT b) fun _ _=>id
theorem Eb.frame {w w':World} {D M:Nat→Prop} {a h:Nat} {H:fP} {P:PAg} (hm:Eb w M a h H P) (b:Ext D w w') (hd:∀ k,M k→¬D k):Eb w' M a h H P:=by
 obtain ⟨F,G,O,x,h1,h2⟩:=hm
 exact ⟨F,G,O,x,h1.frame b fun k hk=>hd k (h2 k hk),h2⟩
theorem Eb.below {w w':World} {M:Nat→Prop} {a h:Nat} {H:fP} {P:PAg} (hm:Eb w M a h H P) (b:Below w.heap.size w w'):Eb w' M a h H P:=hm.frame (D:=fun _=>False) (Ext.fT b) fun _ _=>id
theorem kv.gD {w w1 w':World} {M:Nat→Prop} {a h:Nat} {H:fP} {P:PAg} (b:Below w.heap.size w w1) (d:kv w1 M a h H P w'):kv w M a h H P w':=by
 obtain ⟨i,h1,h2,h3⟩:=d
 exact ⟨i,h1,fun k hk=>(h2 k hk).imp id (aH b.size),(Ext.fT b).trans h3⟩
theorem kv.below {w w1 w':World} {M:Nat→Prop} {a h:Nat} {H:fP} {P:PAg} (d:kv w M a h H P w1) (b:Below w1.heap.size w1 w'):kv w M a h H P w':=by
 obtain ⟨i,h1,h2,h3⟩:=d
 exact ⟨i,h1.below b,h2,h3.trans (Ext.fT b)⟩
theorem kv.trans {w w1 w':World} {M b:Nat→Prop} {a h:Nat} {H:fP} {P:PAg} (h2:∀ k,b k→M k∨w.heap.size≤k) (h3:Ext M w w1) (d:kv w1 b a h H P w'):kv w M a h H P w':=by
 obtain ⟨i,g1,g2,g3⟩:=d
 exact ⟨i,g1,fun k hk=>(g2 k hk).elim (h2 k) fun e => .inr (aH h3.size e),h3.trans' g3 h2⟩
theorem pa.G5 {w w':World} {F G O M:Nat→Prop} {a h:Nat} {H:fP} {P P':PAg} {x:AV} (hm:ic w F G O a h H P x) (b:∀ k,F k∨G k∨O k→M k) (d:pa w G O a h P' w'):kv w M a h H P' w':=by
 obtain ⟨G',O',x',h1,h2,h3⟩:=d
 have hF:=hm.host.lt
 refine ⟨fun k=>M k∨w.heap.size≤k,⟨F,G',O',x',⟨hm.host.ext h3 hm.fg,h1,fun k hk e => ?_,fun k hk e => ?_⟩,fun k hk => ?_⟩,fun k hk=>hk,h3.mono fun k hk=>b k (.inr (.inl hk))⟩
 ·rcases h2 k (.inl e) with e | e | e
  ·exact hm.fg k hk e
  ·exact hm.fo k hk e
  ·have:=hF k hk;omega
 ·rcases h2 k (.inr e) with e | e | e
  ·exact hm.fg k hk e
  ·exact hm.fo k hk e
  ·have:=hF k hk;omega
 ·rcases hk with hk | hk
  ·exact .inl (b k (.inl hk))
  ·exact (h2 k hk).elim (fun e => .inl (b k (.inr (.inl e)))) fun e=>e.imp (fun e=>b k (.inr (.inr e))) id
theorem CL:∃ i,Tryz.prog.info? 112=some i∧i.bytes=24:=by
 have h:(Tryz.prog.info? 112).map (·.bytes)=some 24:=by kernel_rfl
 obtain ⟨i,b,d⟩:=ck.1 h
 exact ⟨i,b,d⟩
theorem Gd (w:World):(Instr.makeChan 170 (.int .i64 6)).run Tryz.prog w = .ok (.chan (some w.heap.size)) (w.alloc (.chan 6 #[] false 0 0 false)):=by
 obtain ⟨i,b,d⟩:=CL
 simpa using Conc.run_makeChan (P:=Tryz.prog) (w:=w) Tryz.underlying170 b .i64 6 (by omega) (by rw [d];omega)
theorem Di (H:fP):(readAll H).1.dp=H.dp∧(readAll H).1.seen=H.seen:=by
 unfold readAll
 split <;> exact ⟨rfl,rfl⟩
theorem Fa (h:Nat) (F:Nat→Prop) (H:fP) (B:Nat) (w:World) (r:HostAt w F h H) (i:HostOk H B) (f:Nat) (E:(readAll H).2=some f) :
  Calls Tryz.prog 133 #[.iface 217 (.agg #[.pointer (some ⟨h,0,none⟩)]),rY h] w fun e w'=>∃ b c,e = .returned (.tuple #[.pointer none,.iface 171 (.pointer (some ⟨b,0,none⟩))])∧w'.heap[b]?=some (.cells #[.int .i64 12,.int .i64 0,.iface 188 (.pointer (some ⟨c,0,none⟩))] 186 (0,0))∧w'.heap[c]?=some (.cells #[.int .i64 ((f:Int)-2)] 191 (0,0))∧HostAt w' F h (readAll H).1∧Ext F w w':=by
 have s:=ab (Gn h F H B w r i f E)
 clear r i
 unfold rY
 go_enter Tryz.func133,Tryz.ntmps133
 go_wp2_with fail
 refine s.out.mono ?_
 rintro e w1 ⟨v,rfl,u,j,l⟩
 obtain ⟨c,rfl,I,m⟩:=u
 have x:=ab j
 have y:=ab l
 have o:=ab m
 clear j l m
 go_wp2_with fail
 refine (vX c w1).mono ?_
 rintro e w2 ⟨rfl,d⟩
 have C:Below w1.heap.size w1 w2:=by rw [d];exact (Below.rf w1).alloc (af _) _
 have D:w2.heap[w1.heap.size]?=some (.cells #[.int .i64 12,.int .i64 0,.iface 188 (.pointer (some ⟨c,0,none⟩))] 186 (0,0)):=by rw [d];exact fR w1 _
 have q:=ab C
 have G:=ab D
 clear C D d
 go_wp2
 refine aI (v := .tuple #[.pointer none,.iface 171 (.pointer (some ⟨w1.heap.size,0,none⟩))]) (by simp [results,Tryz.results133,go_sem]) rfl ?_
 exact ⟨_,_,rfl,G.out,fQ q.out (fO o.out) o.out,x.out.below q.out,y.out.trans (Ext.fT q.out)⟩
theorem Dt (h:Nat) (F:Nat→Prop) (H:fP) (B:Nat) (w:World) (hh:HostAt w F h H) (U:HostOk H B) (hg:ShapesVar w) (a4:∀ k,F k→2≤k) (slot v next:Nat) (T:List E) (hinv:DiskInv decSB decDB foldS [] (H.seen.map parseSec) (placeOf H.seen.length) slot v T next) (hf:(readAll H).2=none)
  (hv:v<18446744073709551616) (hT:T.length≤100000000) (hS:H.dp.S.length≤100000000) (hL:H.dp.log.length≤7500000000000) (V:∀ y∈H.dp.S,y.1.2.length≤gF) (a7:∀ y∈T,y.1.2.length≤gF∧y.2.length≤gF) (ho:overS T H.dp.room=none) :
  Calls Tryz.prog 133 #[.iface 217 (.agg #[.pointer (some ⟨h,0,none⟩)]),rY h] w fun e w'=>∃ a,e = .returned (.tuple #[.pointer (some ⟨a,0,none⟩),.nilIface])∧w.heap.size≤a∧kv w F a h ((readAll H).1.nf T) ⟨begunA v T,0,⟨gO H.seen,slot,next⟩⟩ w':=by
 have ba:=ab (EW h F H B w hh U hg a4 slot v next T hinv hf)
 have d:=ab hh.lt
 obtain ⟨e1,e2⟩:=Di H
 rw [←e1] at hS hL V ho
 have bP:=Gd
 generalize bc:(readAll H).1=H1 at *
 clear hh U hg bc e1 e2
 unfold rY
 go_enter Tryz.func133,Tryz.ntmps133
 go_wp2_with fail
 refine ba.out.mono ?_
 rintro e w1 ⟨lg,q,r,rfl,I,s,bS,bX,b0,b1,be,W⟩
 obtain ⟨x,m⟩:=be
 have bi:=ab m
 have X:=ab I
 have u:=ab s
 have J:=ab W
 obtain ⟨f1,f2,f3⟩:=m.foot
 have Y:=ab (wQ 0 q r h x H1.dp T w1 s m.dp hT hS hL V a7 (aM _) (fun e=>by have:=d.out h f1;omega) (fun e=>by have:=d.out q (f3 q e);omega) (fun e=>by have:=d.out _ f2;omega) (by rw [m.dp.room];exact ho))
 have bk:=ab (show ∀ k,(k=h∨k=x.r∨x.log.ownBlock=some k)→F k from fun k e=>by
  rcases e with e | e | e
  ·rw [e];exact f1
  ·rw [e];exact f2
  ·exact f3 k e)
 clear m I s W f1 f2 f3 hinv
 unfold rY at Y
 go_wp2_with fail
 refine Y.out.mono ?_
 rintro e w2 ⟨rfl,M⟩
 have bl:=ab (bi.out.brought M)
 have o:Ext (fun k=>F k) w1 w2:=M.2.mono bk.out
 have Z:LogAt w2 lg h _:=o.at (fun e=>by have:=d.out lg e;omega) X.out
 have bn:=o.cell (p:=⟨q,0,none⟩) (fun e=>by have:=d.out q e;omega) u.out.cell
 have aa:=u.out.tab.gr (o.block r u.out.tab.lt (fun e=>by have:=d.out r e;omega))
 have ag:=ab o
 have ak:=ab Z
 have am:=ab aa
 have bH:=fU bn
 clear M o Z aa
 go_wp2
 go_region
 have j:Below w2.heap.size w2 ((w2.alloc (.chan 6 #[] false 0 0 false)).alloc (.cells #[.map (some r),.int .u64 (v:Nat),.pointer (some ⟨lg,0,none⟩),rY h,.chan (some w2.heap.size),.pointer none,.pointer none] 174)).drew:=(Below.al (Below.al (Below.rf w2) _) _).drew
 have C:=fR (w2.alloc (.chan 6 #[] false 0 0 false)) (.cells #[.map (some r),.int .u64 (v:Nat),.pointer (some ⟨lg,0,none⟩),rY h,.chan (some w2.heap.size),.pointer none,.pointer none] 174)
 have N:=fX (w2.alloc (.chan 6 #[] false 0 0 false)) (.cells #[.map (some r),.int .u64 (v:Nat),.pointer (some ⟨lg,0,none⟩),rY h,.chan (some w2.heap.size),.pointer none,.pointer none] 174) (fR w2 (.chan 6 #[] false 0 0 false))
 rw [aw] at C
 unfold rY at j C N
 have bo:((w2.alloc (.chan 6 #[] false 0 0 false)).alloc (.cells #[.map (some r),.int .u64 (v:Nat),.pointer (some ⟨lg,0,none⟩),.iface 116 (.agg #[.pointer (some ⟨h,0,none⟩)]),.chan (some w2.heap.size),.pointer none,.pointer none] 174)).drew.heap.size=w2.heap.size+2:=by
  show ((w2.alloc _).alloc _).heap.size=_
  rw [aw,aw]
 generalize O:((w2.alloc (.chan 6 #[] false 0 0 false)).alloc (.cells #[.map (some r),.int .u64 (v:Nat),.pointer (some ⟨lg,0,none⟩),.iface 116 (.agg #[.pointer (some ⟨h,0,none⟩)]),.chan (some w2.heap.size),.pointer none,.pointer none] 174)).drew=G at j bo⊢
 have ap:G.heap[w2.heap.size+1]?=some (.cells #[.map (some r),.int .u64 (v:Nat),.pointer (some ⟨lg,0,none⟩),.iface 116 (.agg #[.pointer (some ⟨h,0,none⟩)]),.chan (some w2.heap.size),.pointer none,.pointer none] 174 (0,0)):=by rw [←O];exact C
 have av:G.heap[w2.heap.size]?=some (.chan 6 #[] false 0 0 false):=by rw [←O];exact N
 obtain ⟨F',Q,l,a2⟩:=bl.out
 have D:=Q.lt
 have bv:lg<w1.heap.size:=fO X.out
 have bI:r<w1.heap.size:=u.out.tab.lt
 have b2:=ag.out.size
 have R:AgAt G (fun k=>k=w2.heap.size+1∨k=r∨k=lg∨k=w2.heap.size) (fun _=>False) (w2.heap.size+1) h ⟨⟨v,T,[],none,none⟩,0,⟨gO H.seen,slot,next⟩⟩ ⟨r,lg,w2.heap.size,.pointer none,.pointer none⟩:=by
  refine ⟨ap,am.out.gr (j.block _ am.out.lt),fQ j (fO ak.out) ak.out,⟨0,0,[],av,rfl,fun i b hi=>(by simp at hi),List.Pairwise.nil⟩,rfl,rfl,⟨.inl rfl,.inr (.inl rfl),.inr (.inr (.inl rfl)),.inr (.inr (.inr rfl))⟩,fun k hk => ?_,fun k hk=>hk.elim,fun k _=>id⟩
  rcases hk with e | e | e | e <;> rw [e] <;> omega
 have aE:ic G F' (fun k=>k=w2.heap.size+1∨k=r∨k=lg∨k=w2.heap.size) (fun _=>False) (w2.heap.size+1) h (H1.nf T) ⟨⟨v,T,[],none,none⟩,0,⟨gO H.seen,slot,next⟩⟩ ⟨r,lg,w2.heap.size,.pointer none,.pointer none⟩:=by
  refine ⟨Q.below j,R,fun k hk e => ?_,fun k _=>id⟩
  have h1:=D k hk
  rcases e with e | e | e | e
  ·omega
  ·rcases l k hk with h2 | h2
   ·have:=d.out k h2;omega
   ·omega
  ·rcases l k hk with h2 | h2
   ·have:=d.out k h2;omega
   ·omega
  ·omega
 have br:=ab aE
 have a0:=ab ((J.out.trans ag.out).trans (Ext.fT j):Ext F w G)
 have HM:=ab (show ∀ k,F' k∨(k=w2.heap.size+1∨k=r∨k=lg∨k=w2.heap.size)∨False→F k∨w.heap.size≤k from fun k hk=>by
  have h1:=J.out.size
  rcases hk with hk | (e | e | e | e) | hk
  ·exact (l k hk).imp id fun e=>by omega
  ·exact .inr (by omega)
  ·exact .inr (by omega)
  ·exact .inr (by omega)
  ·exact .inr (by omega)
  ·exact hk.elim)
 have bs:=ab (show w.heap.size≤w2.heap.size+1 by have:=J.out.size;omega)
 clear aE O ap av C N j l a2 D Q
 go_wp2_with fail
 refine (jY (w2.heap.size+1) h _ _ _ _ G R hv).mono ?_
 rintro e w4 ⟨rfl,hp⟩
 have HG:=ab (pa.G5 br.out HM.out (hp.go (.inr (.inr (.inr rfl)))))
 clear hp R
 go_wp2
 refine aI (v := .tuple #[.pointer (some ⟨w2.heap.size+1,0,none⟩),.nilIface]) (by simp [results,Tryz.results133,go_sem]) rfl ?_
 obtain ⟨M',g1,g2,g3⟩:=HG.out
 exact ⟨_,rfl,bs.out,M',g1,fun k hk=>(g2 k hk).elim id fun e => .inr (aH a0.out.size e),a0.out.trans' g3 fun k hk=>hk⟩
end Go.Proofs.YtkkfmkhbdoeglabGreatDoor
namespace Go.Proofs.YtkkfmkhbdoeglabGreatDoor
open Go.RowKit Go.Shelf
theorem gT.drop {w:World} {F:Nat→Prop} {h c:Nat} {x:HV} {H:fP} {C:Array Value} {fz:Nat×Nat} (d:gT w F h x H) (hc:w.heap[c]?=some (.cells C 191 fz)):gT w (fun k=>F k∧k≠c) h x H:=by
 have ne:∀ (v:Value) (e:TypeId),CellsOf w v e→e≠191→∀ k,v.ownBlock=some k→k≠c:=fun v e o he k hk q=>by
  obtain ⟨D,s,m⟩:=o k hk
  rw [q,hc] at m
  cases m
  exact he rfl
 have sec:∀ v b,jn w F v b→jn w (fun k=>F k∧k≠c) v b:=fun v b h=>⟨h.1,h.2.1,fun k e=>⟨h.2.2 k e,ne v _ h.2.1 (by decide) k e⟩⟩
 have rows:∀ v rows,RowsAt w F v rows→RowsAt w (fun k=>F k∧k≠c) v rows:=fun v rows h=>by
  obtain ⟨vals,h1,h2,h3,h4⟩:=h
  refine ⟨vals,h1,h2,fun k e=>⟨h3 k e,ne v _ h2 (by decide) k e⟩,fun i b l => ?_⟩
  obtain ⟨u,hu,hs⟩:=h4 i b l
  exact ⟨u,hu,sec u b hs⟩
 have j:w.heap[h]?=_:=d.dp.row
 obtain ⟨f1,f2,f3⟩:=d.foot
 refine ⟨d.dp,d.fail,d.writes,rows _ _ d.held,rows _ _ d.seen,?_,d.apart,⟨⟨f1,fun e => ?_⟩,⟨f2,fun e=>d.dp.tab.jZ hc e.symm⟩,fun k e=>⟨f3 k e,ne _ _ d.dp.ltyp (by decide) k e⟩⟩,fun k hk=>d.lt k hk.1⟩
 ·obtain ⟨vals,r,h1,h2,h3,h4⟩:=d.late
  refine ⟨vals,r,h1,h2,fun k e=>⟨h3 k e,ne _ _ h2 (by decide) k e⟩,fun i b l => ?_⟩
  obtain ⟨u,hu,hs⟩:=h4 i b l
  exact ⟨u,hu,sec u _ hs⟩
 ·rw [e,hc] at j
  cases j
theorem AgAt.Jn {w w':World} {D G O:Nat→Prop} {a h:Nat} {P:PAg} {x:AV} {g:LogS} (ha:AgAt w G O a h P x) (i:Ext D w w') (m:∀ k,G k→D k→k=x.lg) (hO:∀ k,O k→¬D k) (hl:LogAt w' x.lg h g):AgAt w' G O a h {P with lg:=g} x:=by
 have j:=ha.log
 unfold LogAt at j
 obtain ⟨s,r,vals,h1,-⟩:=ha.out
 have d:∀ k C T fz,G k→w.heap[k]?=some (.cells C T fz)→T≠305→¬D k:=fun k C T fz hk b q l=>iQ b j q (m k hk l)
 have hd:∀ k,G k→k≠x.lg→¬D k:=fun k hk o l=>o (m k hk l)
 exact ⟨i.at (d a _ _ _ ha.gin.1 ha.row (by decide)) ha.row,ha.tab.gr (i.block _ ha.tab.lt (hd _ ha.gin.2.1 fun e=>ha.tab.jZ j e.symm)),hl,ha.out.frame i (hd _ ha.gin.2.2.2 fun e=>nl h1 j e.symm) hO,
  ha.flt.frame i fun k C fz hk b=>b.elim (fun b=>d k _ _ _ hk b (by decide)) fun b=>d k _ _ _ hk b (by decide),ha.com.frame i fun k C fz hk b=>b.elim (fun b=>d k _ _ _ hk b (by decide)) fun b=>d k _ _ _ hk b (by decide),
  ha.gin,fun k hk=>aC (ha.glt k hk) i.size,fun k hk=>aC (ha.olt k hk) i.size,ha.sep⟩
theorem AgAt.Jo {w w':World} {G O:Nat→Prop} {a h r v:Nat} {P:PAg} {x:AV} {T:List E} (ha:AgAt w G O a h P x) (b:Ext (fun j=>j=a) w w') (l:w'.heap[a]?=some (.cells (AV.cells {x with r:=r} v h) 174 (0,0))) (i:TabAt w r T) (m:¬O r) :
  AgAt w' (fun k=>G k∨k=r) O a h {P with a := {P.a with V:=v,T:=T}} {x with r:=r} := by
 obtain ⟨s,o,vals,h1,-⟩:=ha.out
 have d:=ha.log
 unfold LogAt at d
 refine ⟨l,i.gr (b.block _ i.lt fun e=>i.jZ ha.row e.symm),b.at (fun e=>iQ ha.row d (by decide) e.symm) d,ha.out.frame b (fun e=>nl h1 ha.row e.symm) fun k hk e=>ha.sep a ha.gin.1 (e▸hk),(ha.ve b).mono fun _ => .inl,(ha.y4 b).mono fun _ => .inl,⟨.inl ha.gin.1,.inr rfl,.inl ha.gin.2.2.1,.inl ha.gin.2.2.2⟩,fun k hk => ?_,fun k hk=>aC (ha.olt k hk) b.size,fun k hk => ?_⟩
 ·rcases hk with hk | hk
  ·exact aC (ha.glt k hk) b.size
  ·rw [hk];exact aC i.lt b.size
 ·rcases hk with hk | hk
  ·exact ha.sep k hk
  ·rw [hk];exact m
def uU (gf:Nat) (lb:Array Value) (w:World) (x:AV) (F:Nat→Prop) (h:Nat) (L:fP×LogS×Option Nat):Prop :=
 ∀ W,Below w.heap.size w W→Calls Tryz.prog gf lb W fun e W'=>∃ b,e = .returned b∧xU W W' b L.2.2∧LogAt W' x.lg h L.2.1∧iy W F (fun k=>k=x.lg) h L.1 W'
def qI (w:World) (F G O:Nat→Prop) (a h:Nat) (H:fP) (P:PAg) (x:AV) (r v:Nat) (T:List E) (L:fP×LogS×Option Nat) (e:Ending) (w':World):Prop :=
 match iw T H.dp.room H.seen.length,L with
 | some f,_=>∃ b,e = .returned (.pointer (some ⟨b,0,none⟩))∧w.heap.size≤b∧w'.heap[b]?=some (.cells #[.int .i64 (f.1:Nat),.int .i64 (f.2:Nat),.nilIface] 186 (0,0))∧Below w.heap.size w w'
 | none,(H1,g1,some s)=>∃ b c F',e = .returned (.pointer (some ⟨b,0,none⟩))∧w.heap.size≤b∧w.heap.size≤c∧w'.heap[b]?=some (.cells #[.int .i64 12,.int .i64 0,.iface 188 (.pointer (some ⟨c,0,none⟩))] 186 (0,0))∧w'.heap[c]?=some (.cells #[.int .i64 ((s:Int)-2)] 191 (0,0))∧
   ic w' F' G O a h H1 {P with lg:=g1} x∧(∀ k,F' k→(F k∨w.heap.size≤k)∧k≠b∧k≠c)∧Ext (fun k=>F k∨k=x.lg) w w'
 | none,(H1,g1,none)=>∃ F',e = .returned (.pointer none)∧ic w' F' (fun k=>G k∨k=r) O a h (H1.nf T) ⟨{P.a with V:=v,T:=T},P.sec,g1⟩ {x with r:=r}∧(∀ k,F' k→F k∨w.heap.size≤k)∧Ext (fun k=>F k∨k=x.lg∨k=a) w w'
theorem Fk (a h:Nat) (F G O:Nat→Prop) (H:fP) (P:PAg) (x:AV) (q r v:Nat) (T:List E) (gf:Nat) (lb:Array Value) (e5:∀ args w,(callFunc gf args).run Tryz.prog w = .ok (.enter gf args) w) (L:fP×LogS×Option Nat) (w:World)
  (hm:ic w F G O a h H P x) (he:EntAt w q 0 r T) (hq:¬F q∧¬G q) (hr:¬F r∧¬G r∧¬O r) (bo:iw T H.dp.room H.seen.length=none→uU gf lb w x F h L) (hn:8≤H.seen.length∧H.seen.length≤1000) (hT:T.length≤100000000) (ca:sizeS T≤4611686018427387904) (br:L.1.dp.S.length≤100000000∧L.1.dp.log.length≤7500000000000∧L.1.dp.room=H.dp.room) (cb:∀ y∈L.1.dp.S,y.1.2.length≤gF) (dT:∀ y∈T,y.1.2.length≤gF∧y.2.length≤gF) :
  Calls Tryz.prog 189 #[.pointer (some ⟨a,0,none⟩),.int .u64 (v:Nat),.pointer (some ⟨q,0,none⟩),.func (.func gf) #[] lb] w (qI w F G O a h H P x r v T L):=by
 obtain ⟨hx,a4⟩:=hm.host
 have ce:=ab (fun (W:World) (hW:Below w.heap.size w W)=>Bj q 0 r h hx T W (he.below hW) (a4.dp.row.gr (hW.block h (fO a4.dp.row))) (by omega))
 have ci:=ab (fun (W:World) (hW:Below w.heap.size w W)=>GG q 0 r T W (he.below hW) ca)
 have cl:=ab (fun (W:World) (hW:Below w.heap.size w W)=>oy h F H W (hm.host.below hW))
 have R:=hm.ag.row
 unfold AV.cells rY at R
 have c3:=ae _ _ 3 _ _ _ R
 have co:=fO R
 have bs:=he.cell
 have c9:=fU bs
 have cp:=ab a4.dp.room
 have u:=ab hm
 have HE:=ab he
 have d1:=ab bo
 have eT:=nu h
 have eV:=lz h
 clear hm he bo R a4
 unfold rY at ce
 go_enter Tryz.func189,Tryz.ntmps189
 go_wp2
 go_region_held3 (fun w'=>w'.cell? ⟨a,3,none⟩=some (.iface 116 (.agg #[.pointer (some ⟨h,0,none⟩)])))
  (first | exact c3 | exact (i.out.cell (p:=⟨a,3,none⟩) co).trans c3)
  (first | (go_at_call 106;refine (ce.out _ (by first | exact (Below.rf w).drew | exact Below.rf w)).mono ?_;rintro e w1 ⟨rfl,bv⟩;have i:Hid (Below w.heap.size w w1):=ab (by first | exact bv | exact (Below.rf w).drew.tn bv);clear bv))
 cases J:overS T H.dp.room with
 | some t =>
  obtain ⟨o1,-⟩:=C8 (S:=T) (room:=hx.room) (t:=t) (by rw [cp.out];exact J)
  rw [o1]
  have D:Hid (iw T H.dp.room H.seen.length=some (10,t)):=ab (by unfold iw;rw [J])
  clear J o1
  go_wp2_with fail
  refine (gI 10 t w1).mono ?_
  rintro e w2 ⟨rfl,bw⟩
  have hb:Below w1.heap.size w1 w2:=by rw [bw];exact (Below.rf w1).alloc (af _) _
  have hn:w2.heap[w1.heap.size]?=some (.cells #[.int .i64 10,.int .i64 (t:Nat),.nilIface] 186 (0,0)):=by rw [bw];exact fR w1 _
  have HB:=ab (i.out.tn hb)
  have HN:=ab hn
  clear hb hn bw
  go_wp2
  go_ret
  unfold qI
  rw [D.out]
  exact ⟨_,rfl,i.out.size,HN.out,HB.out⟩
 | none =>
  rw [Bi (S:=T) (room:=hx.room) (by rw [cp.out];exact J)]
  have a5:=u.out.below i.out
  have C:=a5.ag.row
  unfold AV.cells rY at C
  have c2:=ae _ _ 2 _ _ _ C
  have U:=a5.ag.log
  unfold LogAt at U
  have l0:=ae _ _ 0 _ _ _ U
  have bz:=fO U
  have bD:=fO C
  have e0:=ab a5
  obtain ⟨n,bH⟩:∃ n,n=H.seen.length:=⟨_,rfl⟩
  have cq:=ab bH
  rw [←bH] at cl hn
  obtain ⟨z,hz⟩:∃ z,z=sizeS T:=⟨_,rfl⟩
  have HZ:=ab hz
  rw [←hz] at ci ca
  have bI:=ab J
  have dk:=(i.out.cell (p:=⟨q,0,none⟩) c9).trans bs
  have el:=fU dk
  clear a5 C U bH hz J c3 bs co
  go_wp2
  go_region_held3 (fun w'=>w'.cell? ⟨a,2,none⟩=some (.pointer (some ⟨x.lg,0,none⟩))∧w'.cell? ⟨x.lg,0,none⟩=some (.iface 217 (.agg #[.pointer (some ⟨h,0,none⟩)])))
   (first | exact ⟨c2,l0⟩ | exact ⟨(o.out.cell (p:=⟨a,2,none⟩) bD).trans c2,(o.out.cell (p:=⟨x.lg,0,none⟩) bz).trans l0⟩)
   (first
    | (go_at_call 205;refine (ci.out _ (by first | exact i.out.tn (Below.rf w1).drew | exact i.out.tn o.out)).mono ?_;rintro e w2 ⟨rfl,I⟩;have o:Hid (Below w1.heap.size w1 w2):=ab (by first | exact (Below.rf w1).drew.tn I | exact o.out.tn I);clear I)
    | (go_at_call 251;refine (cl.out _ (by first | exact i.out.tn (Below.rf w1).drew | exact i.out.tn o.out)).mono ?_;rintro e w2 ⟨rfl,I⟩;have o:Hid (Below w1.heap.size w1 w2):=ab (by first | exact (Below.rf w1).drew.tn I | exact o.out.tn I);clear I))
  all_goals
   rw [show IntKind.i64.wrap ((n:Int)-8)=((n-8:Nat):Int) by rw [show (n:Int)-8=((n-8:Nat):Int) by omega];exact IntWalk.i64_in _ (by omega),show IntKind.i64.wrap (16*((n-8:Nat):Int))=((16*(n-8):Nat):Int) by rw [show 16*((n-8:Nat):Int)=((16*(n-8):Nat):Int) by omega];exact IntWalk.i64_in _ (by omega)]
   obtain ⟨m,bL⟩:∃ m,m=16*(n-8):=⟨_,rfl⟩
   have cr:=ab bL
   rw [←bL]
   have j:=ab (i.out.tn o.out)
   clear bL c2 l0 bz bD
   by_cases a6:m<z
   ·have dl:(m:Int)<(z:Int):=by omega
    have D:Hid (iw T H.dp.room H.seen.length=some (11,0)):=ab (by unfold iw;rw [bI.out];simp only;rw [aD (by rw [←cq.out,←cr.out,←HZ.out];exact a6)])
    clear a6
    go_wp2_with fail
    refine (gI 11 0 w2).mono ?_
    rintro e w3 ⟨rfl,bM⟩
    have hb:Below w2.heap.size w2 w3:=by rw [bM];exact (Below.rf w2).alloc (af _) _
    have ak:w3.heap[w2.heap.size]?=some (.cells #[.int .i64 11,.int .i64 0,.nilIface] 186 (0,0)):=by rw [bM];exact fR w2 _
    have HB:=ab (j.out.tn hb)
    have HN:=ab ak
    clear hb ak bM
    go_wp2
    go_ret
    unfold qI
    rw [D.out]
    exact ⟨_,rfl,j.out.size,HN.out,HB.out⟩
   ·have dl:¬(m:Int)<(z:Int):=by omega
    have D:Hid (iw T H.dp.room H.seen.length=none):=ab (by unfold iw;rw [bI.out];simp only;rw [au (by rw [←cq.out,←cr.out,←HZ.out];exact a6)])
    clear a6
    go_wp2_with fail
    refine (d1.out D.out w2 j.out).mono ?_
    rintro e w3 ⟨rv,rfl,bN,a7,d5⟩
    obtain ⟨H1,g1,rf⟩:=L
    obtain ⟨X,M,al,N⟩:=d5
    have bO:=u.out.below j.out
    have e1:=j.out.size
    have am:AgAt w3 G O a h {P with lg:=g1} x:=bO.ag.Jn N (fun k hk hD=>hD.elim (fun e=>absurd hk (u.out.fg k e)) id) (fun k hk hD=>hD.elim (fun e=>u.out.fo k e hk) fun e=>u.out.ag.sep x.lg u.out.ag.gin.2.2.1 (e▸hk)) a7
    have Y:Ext (fun k=>F k∨k=x.lg) w w3:=(Ext.fT j.out).trans N
    have a9:∀ k,X k→¬G k:=fun k hk B=>(al k hk).elim (fun e=>u.out.fg k e B) fun e=>by have:=u.out.ag.glt k B;omega
    have ba:∀ k,X k→¬O k:=fun k hk B=>(al k hk).elim (fun e=>u.out.fo k e B) fun e=>by have:=u.out.ag.olt k B;omega
    have bb:∀ k,X k→F k∨w.heap.size≤k:=fun k hk=>(al k hk).imp id fun e=>by omega
    simp only at bN a7 M br cb
    cases rf with
    | some s =>
     obtain ⟨c,rfl,e2,bP⟩:=bN
     have Z:=M.lt
     have cs:ic w3 (fun k=>X k∧k≠c) G O a h H1 {P with lg:=g1} x:=by
      obtain ⟨e3,ds⟩:=M
      exact ⟨⟨_,ds.drop bP⟩,am,fun k hk=>a9 k hk.1,fun k hk=>ba k hk.1⟩
     have d6:=ab cs
     have ap:=ab Y
     have av:=ab (show ∀ k,X k∧k≠c→(F k∨w.heap.size≤k)∧k≠w3.heap.size∧k≠c from fun k hk=>⟨bb k hk.1,fun e=>by have:=Z k hk.1;omega,hk.2⟩)
     have HC:=ab bP
     have d8:=ab (show w.heap.size≤c by omega)
     clear N al bO am Y a9 ba bb M cs Z bP a7
     go_wp2_with fail
     refine (vX c w3).mono ?_
     rintro e w4 ⟨rfl,bS⟩
     have hb:Below w3.heap.size w3 w4:=by rw [bS];exact (Below.rf w3).alloc (af _) _
     have ak:w4.heap[w3.heap.size]?=some (.cells #[.int .i64 12,.int .i64 0,.iface 188 (.pointer (some ⟨c,0,none⟩))] 186 (0,0)):=by rw [bS];exact fR w3 _
     have HB:=ab hb
     have HN:=ab ak
     clear hb ak bS
     go_wp2
     go_ret
     unfold qI
     rw [D.out]
     exact ⟨_,c,_,rfl,ap.out.size,d8.out,HN.out,fQ HB.out (fO HC.out) HC.out,d6.out.below HB.out,av.out,ap.out.trans (Ext.fT HB.out)⟩
    | none =>
     obtain rfl:rv = .nilIface:=bN
     have bX:=N.cell (p:=⟨q,0,none⟩) (show ¬(F q∨q=x.lg) from fun e=>e.elim hq.1 fun e=>hq.2 (e▸u.out.ag.gin.2.2.1)) ((j.out.cell (p:=⟨q,0,none⟩) HE.out.lt).trans HE.out.cell)
     have b8:=fU bX
     have ct:=(HE.out.below j.out).tab.gr (N.block r ((HE.out.below j.out).tab.lt) (fun e=>e.elim hr.1 fun e=>hr.2.1 (e▸u.out.ag.gin.2.2.1)))
     have b:=am.row
     unfold AV.cells rY at b
     have c0:=ae _ _ 0 _ _ _ b
     have c1:=ae _ _ 1 _ _ _ b
     have z0:=aj _ _ 0 _ _ b
     have z1:=aj _ _ 1 _ _ b
     have Z:=fO b
     have bc:=ab am
     have be:=ab ct
     have ea:=ab M
     have ap:=ab Y
     have av:=ab bb
     have b0:=ab a9
     have cu:=ab ba
     clear N al bO am Y a9 ba bb M a7 b ct
     go_wp2
     have Q:Ext (fun k=>k=a) w3 ((w3.setCell ⟨a,0,none⟩ (.map (some r))).setCell ⟨a,1,none⟩ (.int .u64 (v:Nat))):=((Ext.refl (fun k=>k=a) w3).setCell ⟨a,0,none⟩ _ (.inl rfl)).setCell ⟨a,1,none⟩ _ (.inl rfl)
     have bi:((w3.setCell ⟨a,0,none⟩ (.map (some r))).setCell ⟨a,1,none⟩ (.int .u64 (v:Nat))).heap[a]?=some (.cells (AV.cells {x with r:=r} v h) 174 (0,0)):=heap_setCell _ _ 1 _ (heap_setCell _ _ 0 _ bc.out.row)
     generalize (w3.setCell ⟨a,0,none⟩ (.map (some r))).setCell ⟨a,1,none⟩ (.int .u64 (v:Nat))=W1 at Q bi⊢
     have aE:=bc.out.Jo (v:=v) (T:=T) Q bi be.out hr.2.2
     have a1:¬X a:=fun e=>b0.out a e bc.out.gin.1
     have cv:=ea.out.ext Q (fun k hk e=>a1 (e▸hk))
     have eD:=cv.lt
     obtain ⟨bk,d⟩:=cv
     have em:r<w.heap.size:=HE.out.tab.lt
     have a2:¬X r:=fun e=>(av.out r e).elim hr.1 fun e=>by omega
     obtain ⟨f1,f2,f3⟩:=d.foot
     have l:=bi
     unfold AV.cells rY at l
     have d0:=ae _ _ 0 _ _ _ l
     have d3:=ae _ _ 3 _ _ _ l
     have eS:=fO l
     have cB:=ab (xZ 0 a 0 r h bk H1.dp T W1.drew ⟨d0,(be.out.gr (Q.block _ be.out.lt fun e=>be.out.jZ bc.out.row e.symm)).gr rfl⟩ ⟨d.dp.row,d.dp.left,d.dp.dead,d.dp.room,d.dp.tab.gr rfl,d.dp.own.below ((Below.rf W1).drew),d.dp.ltyp,d.dp.lo,d.dp.lb⟩ hT br.1 br.2.1 cb dT (aM _) (fun e=>a1 (e▸f1)) (fun e=>a1 (f3 a e)) (fun e=>a2 (e▸f2)))
     have eb:=ab d
     have c4:=ab Q
     have b2:=ab aE
     have dv:=ab (show ∀ k,(k=h∨k=bk.r∨bk.log.ownBlock=some k)→X k from fun k e=>by
      rcases e with e | e | e
      ·rw [e];exact f1
      ·rw [e];exact f2
      ·exact f3 k e)
     clear Q bi aE d f1 f2 f3 l c0 c1 z0 z1 Z bX b8
     unfold rY at cB
     go_still_tail 7,(by kernel_rfl)
     go_wp2_with fail
     refine cB.out.mono ?_
     rintro e w5 ⟨rfl,c5⟩
     have a3:ml W1 0 h bk (H1.dp.run (jo H1.dp.S T)) w5:=ml.gD ((Below.rf W1).drew) c5
     obtain ⟨F5,c6,bl,-⟩:=eb.out.brought a3
     have b3:Ext (fun k=>X k) W1 w5:=a3.2.mono dv.out
     have b4:=b2.out.olt
     have b5:=b2.out.glt
     have c7:ic w5 F5 (fun k=>G k∨k=r) O a h (H1.nf T) ⟨{P.a with V:=v,T:=T},P.sec,g1⟩ {x with r:=r} := by
      refine ⟨c6,b2.out.frame b3 (fun k hk e => ?_) (fun k hk e=>cu.out k e hk),fun k hk B => ?_,fun k hk hO => ?_⟩
      ·rcases hk with hk | hk
       ·exact b0.out k e hk
       ·exact a2 (hk▸e)
      ·rcases bl k hk with e | e
       ·rcases B with B | B
        ·exact b0.out k e B
        ·exact a2 (B▸e)
       ·have:=b5 k B;omega
      ·rcases bl k hk with e | e
       ·exact cu.out k e hO
       ·have:=b4 k hO;omega
     have ed:=ab c7
     have eg:=ab (show ∀ k,F5 k→F k∨w.heap.size≤k from fun k hk=>(bl k hk).elim (av.out k) fun e => .inr (by have:=ap.out.size;have:=c4.out.size;omega))
     have ej:=ab (show Ext (fun k=>F k∨k=x.lg∨k=a) w w5 from ((ap.out.mono fun k e=>e.imp id .inl).trans (c4.out.mono fun k e => .inr (.inr e))).trans' b3 fun k e=>(av.out k e).imp .inl id)
     clear c5 a3 c6 bl b3 b4 b5 c7
     go_wp2
     go_ret
     unfold qI
     rw [D.out]
     exact ⟨_,rfl,ed.out,eg.out,ej.out⟩
theorem ic.sA {w w':World} {F G O:Nat→Prop} {a h:Nat} {H:fP} {P:PAg} {x:AV} (hm:ic w F G O a h H P x) (B b:Nat) (f:Nat×Nat) (s:Nat) (d:Ext (fun k=>k=a) w w') (j:w'.heap[a]?=some (.cells (AV.cells {x with fp := .pointer (some ⟨b,0,none⟩)} P.a.V h) 174 (0,0)))
  (i:B≤b∧¬F b∧¬O b) (o:(f.1≠12∧w.heap[b]?=some (.cells #[.int .i64 (f.1:Nat),.int .i64 (f.2:Nat),.nilIface] 186 (0,0)))∨(f.1=12∧∃ c,(B≤c∧¬F c∧¬O c)∧w.heap[b]?=some (.cells #[.int .i64 (f.1:Nat),.int .i64 (f.2:Nat),.iface 188 (.pointer (some ⟨c,0,none⟩))] 186 (0,0))∧w.heap[c]?=some (.cells #[.int .i64 ((s:Int)-2)] 191 (0,0)))) :
  ic w' F (fun k=>G k∨(B≤k∧k<w.heap.size∧¬F k∧¬O k)) O a h H ⟨{P.a with deg:=some f},s,P.lg⟩ {x with fp := .pointer (some ⟨b,0,none⟩)} := by
 have l:=hm.ag.row
 have m:∀ k,F k→k≠a:=fun k hk e=>hm.fg k hk (e▸hm.ag.gin.1)
 refine ⟨hm.host.ext d fun k hk e=>m k hk e,hm.ag.mT d j rfl rfl rfl rfl rfl rfl (fun k => .inl) (fun k hk => ?_) ?_ ((hm.ag.y4 d).mono fun _ => .inl),fun k hk q=>q.elim (hm.fg k hk) fun e=>e.2.2.1 hk,hm.fo⟩
 ·rcases hk with hk | hk
  ·exact ⟨aC (hm.ag.glt k hk) d.size,hm.ag.sep k hk⟩
  ·exact ⟨aC hk.2.1 d.size,hk.2.2.2⟩
 ·have ha:∀ (k:Nat) (C:Array Value) (T:TypeId) (fz:Nat×Nat),w.heap[k]?=some (Obj.cells C T fz)→T≠174→w'.heap[k]?=some (Obj.cells C T fz):=fun k C T fz hk r=>d.at (fun e=>iQ hk l r e) hk
  rcases o with ⟨h1,h2⟩ | ⟨h1,c,hc,h2,h3⟩
  ·exact ⟨b,rfl,.inr ⟨i.1,fO h2,i.2⟩,.inl ⟨h1,ha _ _ _ _ h2 (by decide)⟩⟩
  ·exact ⟨b,rfl,.inr ⟨i.1,fO h2,i.2⟩,.inr ⟨h1,c,.inr ⟨hc.1,fO h3,hc.2⟩,ha _ _ _ _ h2 (by decide),ha _ _ _ _ h3 (by decide)⟩⟩
theorem CU {T:List E} {room:Nat→Int} {n:Nat} {f:Nat×Nat} (h:iw T room n=some f):f.1≠12∧f.1<256:=by
 unfold iw at h
 split at h
 ·cases h;simp
 ·split at h
  ·cases h;simp
  ·cases h
def oC (H:fP) (P:PAg) (v:Nat) (T:List E) (L:fP×LogS×Option Nat):fP×PAg :=
 match iw T H.dp.room H.seen.length,L with
 | some f,_=>(H,{P with a:=P.a.stops f,sec:=0})
 | none,(H1,g1,some s)=>(H1,⟨P.a.stops (12,0),s,g1⟩)
 | none,(H1,g1,none)=>(H1.nf T,⟨AgA.lQ {P.a with V:=v,T:=T},P.sec,g1⟩)
theorem ic.oX {w w1 w':World} {j d i M:Nat→Prop} {a h:Nat} {H1:fP} {o P':PAg} {l:AV} (b:ic w1 j d i a h H1 o l) (q:∀ k,j k∨d k∨i k→M k∨w.heap.size≤k) (m:Ext M w w1) (r:ku w1 d i a h P' l w'):kv w M a h H1 P' w':=by
 obtain ⟨s,h1,h2,h3⟩:=pa.G5 (M:=fun k=>M k∨w.heap.size≤k) b q (r.go b.ag.gin.2.2.2)
 exact ⟨s,h1,fun k hk=>(h2 k hk).elim id fun e => .inr (aH m.size e),m.trans' h3 fun k hk=>hk⟩
theorem vD (a h:Nat) (F G O M:Nat→Prop) (H:fP) (P:PAg) (x:AV) (q r v:Nat) (T:List E) (gf:Nat) (lb:Array Value) (eg:∀ args w,(callFunc gf args).run Tryz.prog w = .ok (.enter gf args) w) (L:fP×LogS×Option Nat) (w:World)
  (hm:ic w F G O a h H P x) (hM:∀ k,F k∨G k∨O k→M k) (he:EntAt w q 0 r T) (hq:¬F q∧¬G q) (hr:¬F r∧¬G r∧¬O r) (ak:iw T H.dp.room H.seen.length=none→uU gf lb w x F h L) (hn:8≤H.seen.length∧H.seen.length≤1000) (hT:T.length≤100000000) (bi:sizeS T≤4611686018427387904) (bk:L.1.dp.S.length≤100000000∧L.1.dp.log.length≤7500000000000∧L.1.dp.room=H.dp.room) (bl:∀ y∈L.1.dp.S,y.1.2.length≤gF) (bn:∀ y∈T,y.1.2.length≤gF∧y.2.length≤gF)
  (a5:P.a.deg=none) (hv:v<18446744073709551616) :
  Calls Tryz.prog 153 #[.pointer (some ⟨a,0,none⟩),.int .u64 (v:Nat),.pointer (some ⟨q,0,none⟩),.func (.func gf) #[] lb] w fun e w'=>e = .returned (.tuple #[])∧kv w (fun k=>M k∨k=r) a h (oC H P v T L).1 (oC H P v T L).2 w':=by
 have bo:=ab (Fk a h F G O H P x q r v T gf lb eg L w hm he hq hr ak hn hT bi bk bl bn)
 have HM:=ab hm
 have l:=ab hM
 have al:x.fp = .pointer none:=by
  have:=hm.ag.flt
  rw [a5] at this
  exact this
 obtain ⟨R,hR⟩:∃ R,R=oC H P v T L:=⟨_,rfl⟩
 have HR:=ab hR
 rw [←hR]
 clear hm hM he ak hR
 go_enter Tryz.func153,Tryz.ntmps153
 go_wp2_with fail
 refine bo.out.mono ?_
 rintro e w1 Q
 unfold qI at Q
 cases B:iw T H.dp.room H.seen.length with
 | some f =>
  rw [B] at Q
  have U:=ab B
  obtain ⟨b,rfl,am,u,ap⟩:=Q
  have i:=HM.out.below ap
  have d:=i.ag.row
  have a9:=u
  obtain ⟨br,ba⟩:=CU B
  unfold AV.cells at d
  have c5:=ae _ _ 5 _ _ _ d
  have z5:=aj _ _ 5 _ _ d
  have a3:=fO d
  have m:Ext (fun k=>k=a) w1 (w1.setCell ⟨a,5,none⟩ (.pointer (some ⟨b,0,none⟩))):=(Ext.refl (fun k=>k=a) w1).setCell ⟨a,5,none⟩ _ (.inl rfl)
  have o:(w1.setCell ⟨a,5,none⟩ (.pointer (some ⟨b,0,none⟩))).heap[a]?=some (.cells (AV.cells {x with fp := .pointer (some ⟨b,0,none⟩)} P.a.V h) 174 (0,0)):=heap_setCell _ _ 5 _ i.ag.row
  have C:=i.sA w.heap.size b f 0 m o ⟨am,fun e=>by have:=HM.out.host.lt b e;omega,fun e=>by have:=HM.out.ag.olt b e;omega⟩ (.inl ⟨br,u⟩)
  have av:b≠a:=iQ u i.ag.row (by decide)
  have I:=m.at (fun e=>av e) u
  have f0:=ae _ _ 0 _ _ _ I
  have j:=o
  unfold AV.cells at j
  have e5:=ae _ _ 5 _ _ _ j
  have bc:=fO I
  have aE:=fO j
  have D:=ab C
  have W:=ab ((Ext.fT ap).trans (m.mono fun k e=>(.inl (l.out k (.inr (.inl (e▸HM.out.ag.gin.1)))):M k∨k=r)):Ext (fun k=>M k∨k=r) w _)
  clear i d u a9 ap m o C j I
  go_wp2_with fail
  refine (lM a h f.1 _ _ _ _ _ D.out.ag ba).mono ?_
  rintro e w3 ⟨rfl,X⟩
  have HG:=ab (ic.oX (M:=fun k=>M k∨k=r) D.out (fun k hk=>by
   rcases hk with hk | (hk | hk) | hk
   ·exact .inl (.inl (l.out k (.inl hk)))
   ·exact .inl (.inl (l.out k (.inr (.inl hk))))
   ·exact .inr hk.1
   ·exact .inl (.inl (l.out k (.inr (.inr hk))))) W.out X)
  have Y:Hid (R=(H,{P with a:=P.a.stops f,sec:=0})):=ab (by rw [HR.out];unfold oC;rw [U.out])
  clear X
  go_wp2
  refine aI (dF rfl _ _ _) rfl ?_
  refine ⟨rfl,?_⟩
  rw [Y.out]
  exact HG.out
 | none =>
  rw [B] at Q
  have U:=ab B
  clear B
  obtain ⟨H1,g1,rf⟩:=L
  cases rf with
  | some s =>
   obtain ⟨b,c,F',rfl,am,bs,u,a4,i,J,Z⟩:=Q
   have d:=i.ag.row
   unfold AV.cells at d
   have c5:=ae _ _ 5 _ _ _ d
   have z5:=aj _ _ 5 _ _ d
   have a3:=fO d
   have m:Ext (fun k=>k=a) w1 (w1.setCell ⟨a,5,none⟩ (.pointer (some ⟨b,0,none⟩))):=(Ext.refl (fun k=>k=a) w1).setCell ⟨a,5,none⟩ _ (.inl rfl)
   have o:(w1.setCell ⟨a,5,none⟩ (.pointer (some ⟨b,0,none⟩))).heap[a]?=some (.cells (AV.cells {x with fp := .pointer (some ⟨b,0,none⟩)} P.a.V h) 174 (0,0)):=heap_setCell _ _ 5 _ i.ag.row
   have a1:=HM.out.ag.olt
   have C:=i.sA w.heap.size b (12,0) s m o ⟨am,fun e=>(J b e).2.1 rfl,fun e=>by have:=a1 b e;omega⟩ (.inr ⟨rfl,c,⟨bs,fun e=>(J c e).2.2 rfl,fun e=>by have:=a1 c e;omega⟩,u,a4⟩)
   have av:b≠a:=iQ u i.ag.row (by decide)
   have I:=m.at (fun e=>av e) u
   have f0:=ae _ _ 0 _ _ _ I
   have j:=o
   unfold AV.cells at j
   have e5:=ae _ _ 5 _ _ _ j
   have bc:=fO I
   have aE:=fO j
   have D:=ab C
   have N:=HM.out.ag.gin
   have W:=ab (((Z.mono fun k e=>by
    rcases e with e | e
    ·exact .inl (l.out k (.inl e))
    ·exact .inl (l.out k (.inr (.inl (e▸N.2.2.1))))).trans (m.mono fun k e=>(.inl (l.out k (.inr (.inl (e▸N.1)))):M k∨k=r))):Ext (fun k=>M k∨k=r) w _)
   have a2:=ab J
   clear i d u a4 Z m o C j I J
   go_wp2_with fail
   refine (lM a h 12 _ _ _ _ _ D.out.ag (by omega)).mono ?_
   rintro e w3 ⟨rfl,X⟩
   have HG:=ab (ic.oX (M:=fun k=>M k∨k=r) D.out (fun k hk=>by
    rcases hk with hk | (hk | hk) | hk
    ·exact (a2.out k hk).1.imp (fun e => .inl (l.out k (.inl e))) id
    ·exact .inl (.inl (l.out k (.inr (.inl hk))))
    ·exact .inr hk.1
    ·exact .inl (.inl (l.out k (.inr (.inr hk))))) W.out X)
   have Y:Hid (R=(H1,⟨P.a.stops (12,0),s,g1⟩)):=ab (by rw [HR.out];unfold oC;rw [U.out])
   clear X
   go_wp2
   refine aI (dF rfl _ _ _) rfl ?_
   refine ⟨rfl,?_⟩
   rw [Y.out]
   exact HG.out
  | none =>
   obtain ⟨F',rfl,i,J,Z⟩:=Q
   have d:=i.ag.row
   unfold AV.cells at d
   have c5:=ae _ _ 5 _ _ _ d
   have z5:=aj _ _ 5 _ _ d
   have a3:=fO d
   have m:Ext (fun k=>k=a) w1 (w1.setCell ⟨a,5,none⟩ (.pointer none)):=(Ext.refl (fun k=>k=a) w1).setCell ⟨a,5,none⟩ _ (.inl rfl)
   have o:(w1.setCell ⟨a,5,none⟩ (.pointer none)).heap[a]?=some (.cells (AV.cells {x with r:=r} v h) 174 (0,0)):=by
    have h1:=heap_setCell _ _ 5 (.pointer none) i.ag.row
    have e:(AV.cells {x with r:=r} v h).setIfInBounds 5 (.pointer none)=AV.cells {x with r:=r} v h:=by
     unfold AV.cells
     simp only [al]
     rfl
    exact h1.trans (aZ (fun z=>some (Obj.cells z 174 (0,0))) e)
   have N:=HM.out.ag.gin
   have C:ic (w1.setCell ⟨a,5,none⟩ (.pointer none)) F' (fun k=>G k∨k=r) O a h (H1.nf T) ⟨{P.a with V:=v,T:=T},P.sec,g1⟩ {x with r:=r} := by
    refine ⟨i.host.ext m fun k hk e=>i.fg k hk (.inl (e▸N.1)),i.ag.mT m o rfl rfl rfl rfl rfl rfl (fun _=>id) (fun k hk=>⟨aC (i.ag.glt k hk) m.size,i.ag.sep k hk⟩) (i.ag.ve m) (i.ag.y4 m),i.fg,i.fo⟩
   have j:=o
   unfold AV.cells at j
   have e5:=ae _ _ 5 _ _ _ j
   rw [al] at e5
   have aE:=fO j
   have D:=ab C
   have W:=ab (((Z.mono fun k e=>by
    rcases e with e | e | e
    ·exact .inl (l.out k (.inl e))
    ·exact .inl (l.out k (.inr (.inl (e▸N.2.2.1))))
    ·exact .inl (l.out k (.inr (.inl (e▸N.1))))).trans (m.mono fun k e=>(.inl (l.out k (.inr (.inl (e▸N.1)))):M k∨k=r))):Ext (fun k=>M k∨k=r) w _)
   have a2:=ab J
   clear i d Z m o C j J
   go_wp2_with fail
   refine (pe a h _ _ _ _ _ D.out.ag hv).mono ?_
   rintro e w3 ⟨rfl,X⟩
   have HG:=ab (ic.oX (M:=fun k=>M k∨k=r) D.out (fun k hk=>by
    rcases hk with hk | (hk | hk) | hk
    ·exact (a2.out k hk).imp (fun e => .inl (l.out k (.inl e))) id
    ·exact .inl (.inl (l.out k (.inr (.inl hk))))
    ·exact .inl (.inr hk)
    ·exact .inl (.inl (l.out k (.inr (.inr hk))))) W.out X)
   have Y:Hid (R=(H1.nf T,⟨AgA.lQ {P.a with V:=v,T:=T},P.sec,g1⟩)):=ab (by rw [HR.out];unfold oC;rw [U.out])
   clear X
   go_wp2
   go_end0
   refine ⟨rfl,?_⟩
   rw [Y.out]
   exact HG.out
end Go.Proofs.YtkkfmkhbdoeglabGreatDoor
