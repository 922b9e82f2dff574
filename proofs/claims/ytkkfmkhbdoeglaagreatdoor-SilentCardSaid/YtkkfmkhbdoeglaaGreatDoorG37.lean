/- A part of what is proved here: lemmas and contracts of single functions. No condition but those that each names. -/
import Derived.Test.YtkkfmkhbdoeglaaGreatDoorG00
import Derived.Conc.LoneCalls
import Derived.Conc.LoneSelect
import Derived.Conc.SmallLaws
import Derived.Test.YtkkfmkhbdoeglaaGreatDoorG02
import Derived.Test.YtkkfmkhbdoeglaaGreatDoorG09
import Derived.Test.YtkkfmkhbdoeglaaGreatDoorG17
import Derived.Test.YtkkfmkhbdoeglaaGreatDoorG23
import Derived.Test.YtkkfmkhbdoeglaaGreatDoorG25
import Derived.Test.YtkkfmkhbdoeglaaGreatDoorG32
import Derived.Test.YtkkfmkhbdoeglaaGreatDoorG33
import Derived.Test.YtkkfmkhbdoeglaaGreatDoorG35
import Derived.Test.YtkkfmkhbdoeglaaGreatDoorG36
set_option maxHeartbeats 4000000
set_option maxRecDepth 100000
namespace Go.Proofs.YtkkfmkhbdoeglaaGreatDoor
open Go.RowKit Go.Conc
theorem CN {P:Program} {Q:Goroutine→World→Prop} {ops:Array Oper} {i:Nat} {rest:List Nat} {o:Oper} {b:Frame} {a:Act} {k:List Item} {cs:List Frame} {f:FuncId} {fn:Func} {args:Array Operand} {q:Array TypeId} {w:World} {R:Ending→World→Prop}
  (x:ops[i]?=some o) (hw:Region.wanted o (yielded ops a.tmps)=true) (hk:b.kind≠.early) (r:o.op = .call {callee := .value (.func f),args,argTypes:=q})
  (y : P.funcs[f]? = some fn) (j : (fn.name == "runtime.NumGoroutine") = false) (B : fn.body.isNone = false) (d : Array Value) (l : args.map a.eval = d) (C : Calls P f d w R)
  (m:∀ e w',R e w'→∃ v,e = .returned v∧LoneTo P Q (G (b.at (a.put ((ops[i]?).bind (·.dst)) v) (.inRegion ops rest::k)) cs) w'):LoneTo P Q (G (b.at a (.inRegion ops (i::rest)::k)) cs) w:=by
 subst l
 refine LoneTo.step (step_solo_go rfl (stepG_enter x hw hk (run_call_body r y j B))) ?_
 obtain ⟨e,w',I,D,E,F,hl⟩:=C (b.at a (.inRegion ops (i::rest)::k)::cs)
 obtain ⟨v,rfl,hq⟩:=m e w' D
 have h1:=step_leave_returned (c:=b.at a (.inRegion ops (i::rest)::k)) (cs:=cs) hl
 rw [eU] at h1
 obtain ⟨g2,w2,s,u⟩:=hq
 exact ⟨g2,w2,Steps.trans E (Steps.head h1 s),u⟩
def oC (w:World) (G:Nat→Prop) (u:Value) (b:List UInt8):Prop:=OwnS w 0 1 u b.length (u8s b)∧0<b.length∧∀ k,u.ownBlock=some k→G k
def OutAt (w:World) (G:Nat→Prop) (c:Nat) (out:List (List UInt8)):Prop :=
 ∃ (s r:Nat) (vals:List Value),w.heap[c]?=some (.chan 6 vals.toArray false s r false)∧vals.length=out.length∧(∀ (i:Nat) (b:List UInt8),out[i]?=some b→∃ u,vals[i]?=some u∧oC w G u b)∧vals.Pairwise fun u v=>u.ownBlock≠v.ownBlock
def rL (out:List (List UInt8)) (k:UInt8) (body:List UInt8):List (List UInt8):=if out.length<6 then out++[sealB k body] else out
theorem OutAt.below {w w':World} {G:Nat→Prop} {c:Nat} {out:List (List UInt8)} (h:OutAt w G c out) (d:Below w.heap.size w w'):OutAt w' G c out:=by
 obtain ⟨s,r,vals,h1,h2,h3,h4⟩:=h
 refine ⟨s,r,vals,fy d (fw h1) h1,h2,fun i b j => ?_,h4⟩
 obtain ⟨u,hu,f1,f2,f3⟩:=h3 i b j
 exact ⟨u,hu,f1.below d,f2,f3⟩
theorem OutAt.mono {w:World} {G G':Nat→Prop} {c:Nat} {out:List (List UInt8)} (h:OutAt w G c out) (d:∀ j,G j→G' j):OutAt w G' c out:=by
 obtain ⟨s,r,vals,h1,h2,h3,h4⟩:=h
 refine ⟨s,r,vals,h1,h2,fun i b l => ?_,h4⟩
 obtain ⟨u,hu,f1,f2,f3⟩:=h3 i b l
 exact ⟨u,hu,f1,f2,fun k e=>d k (f3 k e)⟩
theorem OutAt.push {w w1 w':World} {G:Nat→Prop} {c:Nat} {out:List (List UInt8)} {u:Value} {b:List UInt8} {s r:Nat} {vals:List Value} (m:Below w.heap.size w w1) (h1:w.heap[c]?=some (.chan 6 vals.toArray false s r false)) (h2:vals.length=out.length)
  (h3:∀ (i:Nat) (b:List UInt8),out[i]?=some b→∃ u,vals[i]?=some u∧oC w G u b) (h4:vals.Pairwise fun u v=>u.ownBlock≠v.ownBlock) (S:∀ k,G k→k<w.heap.size) (hu:OwnS w1 w.heap.size 1 u b.length (u8s b)) (E:0<b.length) (he:w'=w1.setChan c 6 (vals.toArray.push u) false (s+1) r false) :
  OutAt w' (fun j=>G j∨(w.heap.size≤j∧j<w'.heap.size)) c (out++[b])∧Ext (fun j=>j=c) w w':=by
 have W:=fw h1
 have X:=m.size
 have Y:w'.heap.size=w1.heap.size:=by rw [he,size_setChan]
 have l:∀ j,j≠c→w'.heap[j]?=w1.heap[j]?:=fun j o=>by
  rw [he]
  simp [World.setChan,bV (ea o)]
 have F:w'.heap[c]?=some (.chan 6 (vals++[u]).toArray false (s+1) r false):=by
  rw [he,heap_setChan w1 c 6 _ false (s+1) r false (by omega)]
  simp
 have q:=hu.fL
 obtain ⟨hl,I⟩:=hu
 have J:∃ g,u.ownBlock=some g:=by
  rcases I with ⟨e,e2⟩ | ⟨g,off,cap,e,-⟩
  ·omega
  ·exact ⟨g,by rw [e];rfl⟩
 have B:OwnS w' 0 1 u b.length (u8s b):=(OwnS.mono ⟨hl,I⟩ (aK _)).frame (by omega) fun j e _=>l j (by have:=q j e;omega)
 refine ⟨⟨s+1,r,vals++[u],F,by rw [aq,aq,h2];rfl,fun i x d => ?_,?_⟩,⟨?_,?_,?_,by omega,fun j o M=>(l j M).trans (m.block j o)⟩⟩
 ·by_cases N:i<out.length
  ·rw [cE N] at d
   obtain ⟨v,D,f1,f2,f3⟩:=h3 i x d
   refine ⟨v,by rw [cE (by omega)];exact D,f1.frame (by omega) fun j e o=>(l j fun U => ?_).trans (m.block j o),f2,fun j e => .inl (f3 j e)⟩
   obtain ⟨-,⟨e0,e1⟩ | ⟨g,off,cap,e0,-,-,-,-,C,-⟩⟩:=f1
   ·omega
   ·rw [e0] at e
    cases e
    have hc:=C 0 (by rw [iA];exact f2)
    unfold World.cell? at hc
    rw [U,h1] at hc
    cases hc
  ·have O:i=out.length:=by
    have:=(aF.1 d).1
    simp at this
    omega
   subst O
   rw [cC (af _),dU] at d
   cases d
   refine ⟨u,by rw [cC (by omega),h2,dU];rfl,B,E,fun j e => .inr ⟨q j e,?_⟩⟩
   exact OwnS.gQ B j e
 ·rw [ek]
  refine ⟨h4,List.pairwise_singleton _ _,fun x V y Q => ?_⟩
  rw [aA] at Q
  subst Q
  intro e
  obtain ⟨g,R⟩:=J
  obtain ⟨i,d⟩:=List.mem_iff_getElem?.1 V
  have Z:=(aF.1 d).1
  obtain ⟨v,D,f1,f2,f3⟩:=h3 i out[i] (aw (by omega))
  rw [D] at d
  cases d
  have h5:=S g (f3 g (e.trans R))
  have h6:=q g R
  omega
 ·rw [he];exact m.os
 ·rw [he];exact m.tape
 ·rw [he];exact m.output
theorem pG (a c:Nat) (G:Nat→Prop) (out:List (List UInt8)) (kind:UInt8) (v:Value) (l:List UInt8) (w:World) (hc:w.cell? ⟨a,4,none⟩=some (.chan (some c))) (q:OutAt w G c out) (y:∀ k,G k→k<w.heap.size) (B:BytesAt w v l) (hl:l.length≤1000) :
  Calls Tryz.prog 114 #[.pointer (some ⟨a,0,none⟩),.int .u8 (kind.toNat:Int),v] w fun e w'=>e = .returned (.tuple #[])∧OutAt w' (fun j=>G j∨(w.heap.size≤j∧j<w'.heap.size)) c (rL out kind l)∧Ext (fun j=>j=c) w w':=by
 have D:=fE hc
 refine calls_of_loneTo (fun cs => ?_)
 have e:Frame.enter Tryz.prog 114 #[.pointer (some ⟨a,0,none⟩),.int .u8 (kind.toNat:Int),v] .normal=(base 114).at ⟨#[.pointer (some ⟨a,0,none⟩),.int .u8 (kind.toNat:Int),v,undef,undef,undef,undef,undef,undef,undef,undef,undef,undef,undef,undef,undef],[]⟩ [.code (Tryz.f114.body.getD .skip)]:=by
  simp [Frame.enter,Frame.at,Tryz.func114,base,Tryz.f114]
 rw [e]
 refine LoneTo.goes (n:=40) ?_
 simp only [Tryz.f114,bF]
 s_c stepG_seq
 s_c stepG_seq
 s_reg
 s_op
 s_op
 s_op
 s_op
 s_c stepG_region_end
 s_reg
 s_op
 s_op
 s_stop
 refine CN (fn:=Tryz.f58) rfl rfl (by decide) rfl Tryz.func58 (by kernel_rfl) (by kernel_rfl) #[.int .u8 (kind.toNat:Int),v] (by simp [Act.eval]) (yo kind v l w B (by unfold fX;omega)) ?_
 rintro e w1 ⟨d,rfl,i,m⟩
 refine ⟨d,rfl,?_⟩
 walk_nrm
 refine LoneTo.goes (n:=40) ?_
 s_c stepG_region_end
 s_c stepG_seq
 s_reg
 s_stop
 have u:=q
 obtain ⟨s,r,vals,h1,h2,h3,h4⟩:=u
 have x:(sealB kind l).length=l.length+5:=by simp [sealB,xX]
 rw [←x] at i
 by_cases b:out.length<6
 ·refine LoneTo.step (step_lone_select_send_room (c:=c) (v:=d) (z' := .slice none 0 0) (cap:=6) (buf:=vals.toArray) (s:=s) (r:=r) (tm:=false)
   (stepG_comm (cases:=#[scase c d (.slice none 0 0)]) (blocking:=false) (shape := .select) (w':=w1) rfl rfl (by decide) (by simp [go_sem,execOp,scase,Act.eval])) (fy m (fw h1) h1) (by simp;omega)) ?_
  have o:=OutAt.push m h1 h2 h3 h4 y i (by omega) rfl
  rw [eU]
  walk_nrm
  refine LoneTo.goes (n:=40) ?_
  s_op
  s_op
  s_c stepG_region_end
  s_c stepG_block
  s_cond true
  s_c stepG_skip
  s_c stepG_inBlock
  s_c stepG_end
  s_stop
  refine LoneTo.done ⟨.returned (.tuple #[]),_,rfl,⟨rfl,?_⟩,rfl,rfl,rfl,rfl,_,Tryz.func114,by simp [results,Tryz.f114,Frame.at]⟩
  unfold rL
  rw [aB b]
  simpa using o
 ·refine LoneTo.step (step_lone_select_send_full (c:=c) (v:=d) (z' := .slice none 0 0) (cap:=6) (buf:=vals.toArray) (s:=s) (r:=r) (tm:=false)
   (stepG_comm (cases:=#[scase c d (.slice none 0 0)]) (blocking:=false) (shape := .select) (w':=w1) rfl rfl (by decide) (by simp [go_sem,execOp,scase,Act.eval])) (fy m (fw h1) h1) (by simp;omega)) ?_
  rw [eU]
  walk_nrm
  refine LoneTo.goes (n:=40) ?_
  s_op
  s_op
  s_c stepG_region_end
  s_c stepG_block
  s_cond false
  s_c stepG_skip
  s_c stepG_inBlock
  s_c stepG_end
  s_stop
  refine LoneTo.done ⟨.returned (.tuple #[]),_,rfl,⟨rfl,?_⟩,rfl,rfl,rfl,rfl,_,Tryz.func114,by simp [results,Tryz.f114,Frame.at]⟩
  unfold rL
  rw [au b]
  exact ⟨(q.below m).mono fun j C => .inl C,Ext.fD m⟩
def Fc (w:World) (G:Nat→Prop) (c:Nat) (e:Ending) (w':World):List (List UInt8)→Prop
 | []=>e = .returned (.tuple #[.slice none 0 0,.bool false])∧w'=w
 | b::out=>∃ u,e = .returned (.tuple #[u,.bool true])∧oC w' G u b∧OutAt w' (fun j=>G j∧u.ownBlock≠some j) c out∧Ext (fun j=>j=c) w w'
theorem OutAt.pop {w w':World} {G:Nat→Prop} {c:Nat} {b:List UInt8} {out:List (List UInt8)} {u:Value} {vals:List Value} {s r:Nat} (h1:w.heap[c]?=some (.chan 6 (u::vals).toArray false s r false)) (h2:(u::vals).length=(b::out).length)
  (h3:∀ (i:Nat) (x:List UInt8),(b::out)[i]?=some x→∃ v,(u::vals)[i]?=some v∧oC w G v x) (h4:(u::vals).Pairwise fun u v=>u.ownBlock≠v.ownBlock) (he:w'=w.setChan c 6 vals.toArray false s (r+1) false) :
  oC w' G u b∧OutAt w' (fun j=>G j∧u.ownBlock≠some j) c out∧Ext (fun j=>j=c) w w':=by
 have D:=fw h1
 have I:w'.heap.size=w.heap.size:=by rw [he,size_setChan]
 have d:∀ j,j≠c→w'.heap[j]?=w.heap[j]?:=fun j q=>by
  rw [he]
  simp [World.setChan,bV (ea q)]
 have m:∀ v x,oC w G v x→oC w' G v x:=fun v x ⟨f1,f2,f3⟩=>⟨f1.frame (by omega) fun j e q=>d j fun y=>by
  obtain ⟨-,⟨e0,J⟩ | ⟨g,off,cap,e0,-,-,-,-,l,-⟩⟩:=f1
  ·omega
  ·rw [e0] at e
   cases e
   have hc:=l 0 (by rw [iA];exact f2)
   unfold World.cell? at hc
   rw [y,h1] at hc
   exact absurd hc (by simp),f2,f3⟩
 rw [eX] at h4
 refine ⟨?_,⟨s,r+1,vals,?_,by simpa using h2,fun i x F => ?_,h4.2⟩,⟨by rw [he];rfl,by rw [he];rfl,by rw [he];rfl,by omega,fun j q E=>d j E⟩⟩
 ·obtain ⟨v,B,C⟩:=h3 0 b rfl
  cases B
  exact m _ _ C
 ·rw [he,heap_setChan w c 6 _ false s (r+1) false D]
 ·obtain ⟨v,B,C⟩:=h3 (i+1) x (by simpa using F)
  obtain ⟨f1,f2,f3⟩:=m _ _ C
  have o:vals[i]?=some v:=by simpa using B
  exact ⟨v,o,f1,f2,fun k e=>⟨f3 k e,fun y=>h4.1 v (aU o) (y.trans e.symm)⟩⟩
theorem uH (a c:Nat) (G:Nat→Prop) (out:List (List UInt8)) (w:World) (hc:w.cell? ⟨a,4,none⟩=some (.chan (some c))) (j:OutAt w G c out) :
  Calls Tryz.prog 51 #[.pointer (some ⟨a,0,none⟩)] w fun e w'=>Fc w G c e w' out:=by
 have l:=fE hc
 refine calls_of_loneTo (fun cs => ?_) ?_
 rotate_left 1
 ·intro w' h
  cases out with
  | nil=>cases h.1
  | cons b out=>obtain ⟨u,h,-⟩:=h;cases h
 have e:Frame.enter Tryz.prog 51 #[.pointer (some ⟨a,0,none⟩)] .normal=(base 51).at ⟨#[.pointer (some ⟨a,0,none⟩),undef,undef,undef,undef,undef,undef,undef,undef,undef,undef,undef,undef,undef],[]⟩ [.code (Tryz.f51.body.getD .skip)]:=by
  simp [Frame.enter,Frame.at,Tryz.func51,base,Tryz.f51]
 rw [e]
 refine LoneTo.goes (n:=40) ?_
 simp only [Tryz.f51,bF]
 s_c stepG_seq
 s_reg
 s_op
 s_op
 s_c stepG_region_end
 s_c stepG_seq
 s_reg
 s_op
 s_op
 s_op
 s_op
 s_c stepG_region_end
 s_c stepG_seq
 s_reg
 s_stop
 have i:=j
 obtain ⟨s,r,vals,h1,h2,h3,h4⟩:=i
 cases out with
 | nil =>
  obtain rfl:vals=[]:=bT (by simpa using h2)
  refine LoneTo.step (step_lone_select_default (c:=c) (z := .slice none 0 0) (cap:=6) (s:=s) (r:=r) (tm:=false)
   (stepG_comm (cases:=#[rcase c (.slice none 0 0)]) (blocking:=false) (shape := .select) (w':=w) rfl rfl (by decide) (by simp [go_sem,execOp,rcase,Act.eval])) h1) ?_
  rw [eU]
  walk_nrm
  refine LoneTo.goes (n:=40) ?_
  s_op
  s_op
  s_c stepG_region_end
  s_c stepG_block
  s_cond false
  s_c stepG_seq
  s_reg
  s_op
  s_op
  s_c stepG_region_end
  s_c stepG_ret'
  s_stop
  exact LoneTo.done ⟨.returned (.tuple #[.slice none 0 0,.bool false]),_,rfl,⟨rfl,rfl⟩,rfl,rfl,rfl,rfl,_,Tryz.func51,by simp [results,Tryz.f51,Frame.at]⟩
 | cons b out =>
  cases vals with
  | nil=>simp at h2
  | cons u vals =>
   refine LoneTo.step (step_lone_select_recv_buf (c:=c) (z := .slice none 0 0) (cap:=6) (buf:=(u::vals).toArray) (closed:=false) (s:=s) (r:=r) (tm:=false)
    (stepG_comm (cases:=#[rcase c (.slice none 0 0)]) (blocking:=false) (shape := .select) (w':=w) rfl rfl (by decide) (by simp [go_sem,execOp,rcase,Act.eval])) h1 (by simp)) ?_
   have d:=OutAt.pop h1 h2 h3 h4 rfl
   rw [show (u::vals).toArray.extract 1 (u::vals).toArray.size=vals.toArray by simp]
   rw [eU]
   walk_nrm
   refine LoneTo.goes (n:=40) ?_
   s_op
   s_op
   s_c stepG_region_end
   s_c stepG_block
   s_cond true
   s_c stepG_seq
   s_reg
   s_op
   s_op
   s_c stepG_region_end
   s_c stepG_seq
   s_reg
   s_op
   s_op
   s_op
   s_c stepG_region_end
   s_c stepG_ret'
   s_stop
   exact LoneTo.done ⟨.returned (.tuple #[u,.bool true]),_,rfl,⟨u,rfl,d⟩,rfl,rfl,rfl,rfl,_,Tryz.func51,by simp [results,Tryz.f51,Frame.at]⟩
end Go.Proofs.YtkkfmkhbdoeglaaGreatDoor
namespace Go.Proofs.YtkkfmkhbdoeglaaGreatDoor
open Go.RowKit
theorem OutAt.frame {w w':World} {D O:Nat→Prop} {c:Nat} {out:List (List UInt8)} (h:OutAt w O c out) (d:Ext D w w') (hc:¬D c) (hO:∀ k,O k→¬D k):OutAt w' O c out:=by
 obtain ⟨s,r,vals,h1,h2,h3,h4⟩:=h
 refine ⟨s,r,vals,d.at hc h1,h2,fun i b j => ?_,h4⟩
 obtain ⟨u,hu,f1,f2,f3⟩:=h3 i b j
 exact ⟨u,hu,f1.frame d.size fun k e hk=>d.block k hk (hO k (f3 k e)),f2,f3⟩
def FltP (w:World) (G:Nat→Prop) (v:Value) (sec:Nat):Option (Nat×Nat)→Prop
 | none=>v = .pointer none
 | some f=>∃ b,v = .pointer (some ⟨b,0,none⟩)∧G b∧
  ((f.1≠12∧w.heap[b]?=some (.cells #[.int .i64 (f.1:Nat),.int .i64 (f.2:Nat),.nilIface] 166 (0,0)))∨
   (f.1=12∧∃ c,G c∧w.heap[b]?=some (.cells #[.int .i64 (f.1:Nat),.int .i64 (f.2:Nat),.iface 168 (.pointer (some ⟨c,0,none⟩))] 166 (0,0))∧w.heap[c]?=some (.cells #[.int .i64 ((sec:Int)-2)] 171 (0,0))))
theorem FltP.frame {w w':World} {D G:Nat→Prop} {v:Value} {sec:Nat} {f:Option (Nat×Nat)} (h:FltP w G v sec f) (d:Ext D w w') (i:∀ k C fz,G k→(w.heap[k]?=some (.cells C 166 fz)∨w.heap[k]?=some (.cells C 171 fz))→¬D k):FltP w' G v sec f:=by
 cases f with
 | none=>exact h
 | some f =>
  obtain ⟨b,h1,h2,h3⟩:=h
  refine ⟨b,h1,h2,?_⟩
  rcases h3 with ⟨h3,h4⟩ | ⟨h3,c,h4,h5,h6⟩
  ·exact .inl ⟨h3,d.at (i b _ _ h2 (.inl h4)) h4⟩
  ·exact .inr ⟨h3,c,h4,d.at (i b _ _ h2 (.inl h5)) h5,d.at (i c _ _ h4 (.inr h6)) h6⟩
theorem FltP.mono {w:World} {G G':Nat→Prop} {v:Value} {sec:Nat} {f:Option (Nat×Nat)} (h:FltP w G v sec f) (d:∀ k,G k→G' k):FltP w G' v sec f:=by
 cases f with
 | none=>exact h
 | some f =>
  obtain ⟨b,h1,h2,h3⟩:=h
  exact ⟨b,h1,d b h2,h3.imp id fun ⟨h3,c,h4,h5⟩=>⟨h3,c,d c h4,h5⟩⟩
def ComP (w:World) (G:Nat→Prop) (v:Value):Option (Nat×Nat×List (List UInt8))→Prop
 | none=>v = .pointer none
 | some (tv,of,got)=>∃ b bv,v = .pointer (some ⟨b,0,none⟩)∧G b∧w.heap[b]?=some (.cells #[.int .u64 (tv:Nat),.int .i64 (of:Nat),.int .i64 (got.length:Nat),bv] 214 (0,0))∧OwnS w 0 1 bv got.flatten.length (u8s got.flatten)∧CellsOf w bv 5∧∀ k,bv.ownBlock=some k→G k
theorem ComP.frame {w w':World} {D G:Nat→Prop} {v:Value} {m:Option (Nat×Nat×List (List UInt8))} (h:ComP w G v m) (d:Ext D w w') (i:∀ k C fz,G k→(w.heap[k]?=some (.cells C 214 fz)∨w.heap[k]?=some (.cells C 5 fz))→¬D k):ComP w' G v m:=by
 cases m with
 | none=>exact h
 | some m =>
  obtain ⟨tv,of,got⟩:=m
  obtain ⟨b,bv,h1,h2,h3,h4,h5,h6⟩:=h
  have hk:∀ k,bv.ownBlock=some k→k<w.heap.size→w'.heap[k]?=w.heap[k]?:=fun k e hk=>by
   obtain ⟨C,fz,j⟩:=h5 k e
   exact d.block k hk (i k _ _ (h6 k e) (.inr j))
  exact ⟨b,bv,h1,h2,d.at (i b _ _ h2 (.inl h3)) h3,h4.frame d.size hk,h5.frame hk,h6⟩
theorem ComP.mono {w:World} {G G':Nat→Prop} {v:Value} {m:Option (Nat×Nat×List (List UInt8))} (h:ComP w G v m) (d:∀ k,G k→G' k):ComP w G' v m:=by
 cases m with
 | none=>exact h
 | some m =>
  obtain ⟨tv,of,got⟩:=m
  obtain ⟨b,bv,h1,h2,h3,h4,h5,h6⟩:=h
  exact ⟨b,bv,h1,d b h2,h3,h4,h5,fun k e=>d k (h6 k e)⟩
structure AV where
 r:Nat
 lg:Nat
 c:Nat
 fp:Value
 cp:Value
def AV.cells (x:AV) (v h:Nat):Array Value:=#[.map (some x.r),.int .u64 (v:Nat),.pointer (some ⟨x.lg,0,none⟩),qE h,.chan (some x.c),x.fp,x.cp]
structure AgAt (w:World) (G O:Nat→Prop) (a h:Nat) (P:PAg) (x:AV):Prop where
 row:w.heap[a]?=some (.cells (x.cells P.a.V h) 117 (0,0))
 tab:TabAt w x.r P.a.T
 log:LogAt w x.lg h P.lg
 out:OutAt w O x.c P.a.out
 flt:FltP w G x.fp P.sec P.a.deg
 com:ComP w G x.cp P.a.com
 gin:G a∧G x.r∧G x.lg∧G x.c
 glt:∀ k,G k→k<w.heap.size
 olt:∀ k,O k→k<w.heap.size
 sep:∀ k,G k→¬O k
theorem AgAt.frame {w w':World} {D G O:Nat→Prop} {a h:Nat} {P:PAg} {x:AV} (ha:AgAt w G O a h P x) (b:Ext D w w') (d:∀ k,G k→¬D k) (hO:∀ k,O k→¬D k):AgAt w' G O a h P x :=
 ⟨b.at (d _ ha.gin.1) ha.row,ha.tab.fP (b.block _ ha.tab.lt (d _ ha.gin.2.1)),b.at (d _ ha.gin.2.2.1) ha.log,ha.out.frame b (d _ ha.gin.2.2.2) hO,ha.flt.frame b fun k _ _ hk _=>d k hk,ha.com.frame b fun k _ _ hk _=>d k hk,ha.gin,fun k hk=>ay (ha.glt k hk) b.size,fun k hk=>ay (ha.olt k hk) b.size,ha.sep⟩
theorem AgAt.below {w w':World} {G O:Nat→Prop} {a h:Nat} {P:PAg} {x:AV} (ha:AgAt w G O a h P x) (b:Below w.heap.size w w'):AgAt w' G O a h P x :=
 ha.frame (D:=fun _=>False) (Ext.fD b) (fun _ _=>id) (fun _ _=>id)
theorem mi {w:World} {c b cap s r:Nat} {vals C:Array Value} {t u:Bool} {T:TypeId} {fz:Nat×Nat} (h:w.heap[c]?=some (.chan cap vals t s r u)) (k:w.heap[b]?=some (.cells C T fz)):b≠c:=fun e=>by
 rw [e,h] at k
 cases k
theorem ij {w:World} {b d:Nat} {C D:Array Value} {T U:TypeId} {fz i:Nat×Nat} (h:w.heap[b]?=some (.cells C T fz)) (k:w.heap[d]?=some (.cells D U i)) (j:T≠U):b≠d:=fun e=>by
 rw [e,k] at h
 injection h with h
 injection h with _ h
 exact j h.symm
theorem AgAt.outs {w w':World} {G O O':Nat→Prop} {a h:Nat} {P:PAg} {x:AV} {out:List (List UInt8)} (ha:AgAt w G O a h P x) (d:OutAt w' O' x.c out) (b:Ext (fun j=>j=x.c) w w') (hl:∀ k,O' k→k<w'.heap.size) (hs:∀ k,O' k→O k∨w.heap.size≤k):AgAt w' G O' a h {P with a := {P.a with out:=out}} x:=by
 obtain ⟨s,r,vals,h1,-⟩:=ha.out
 refine ⟨b.at (mi h1 ha.row) ha.row,ha.tab.fP (b.block _ ha.tab.lt fun e => ?_),b.at (mi h1 ha.log) ha.log,d,ha.flt.frame b fun k C fz _ hk e => ?_,ha.com.frame b fun k C fz _ hk e => ?_,ha.gin,fun k hk=>ay (ha.glt k hk) b.size,hl,fun k hk d => ?_⟩
 ·obtain ⟨-,L,hm,-⟩:=ha.tab
  obtain ⟨es,q,hq,-⟩:=hm
  rw [e,h1] at hq
  cases hq
 ·subst e
  rcases hk with hk | hk <;> exact mi h1 hk rfl
 ·subst e
  rcases hk with hk | hk <;> exact mi h1 hk rfl
 ·rcases hs k d with h | h
  ·exact ha.sep k hk h
  ·have:=ha.glt k hk
   omega
def oz (w:World) (G O:Nat→Prop) (a h:Nat) (P:PAg) (w':World):Prop:=∃ G' O' x,AgAt w' G' O' a h P x∧(∀ k,G' k∨O' k→G k∨O k∨w.heap.size≤k)∧Ext (fun k=>G k) w w'
theorem oz.fS {w w1 w':World} {G O:Nat→Prop} {a h:Nat} {P:PAg} (b:Below w.heap.size w w1) (d:oz w1 G O a h P w'):oz w G O a h P w':=by
 obtain ⟨G',O',x,h1,h2,h3⟩:=d
 exact ⟨G',O',x,h1,fun k hk=>(h2 k hk).imp id fun h=>h.imp id fun h=>aH b.size h,(Ext.fD b).trans h3⟩
theorem oz.below {w w1 w':World} {G O:Nat→Prop} {a h:Nat} {P:PAg} (d:oz w G O a h P w1) (b:Below w1.heap.size w1 w'):oz w G O a h P w':=by
 obtain ⟨G',O',x,h1,h2,h3⟩:=d
 exact ⟨G',O',x,h1.below b,h2,h3.trans (Ext.fD b)⟩
theorem oz.trans {w w1 w':World} {G O b d:Nat→Prop} {a h:Nat} {P:PAg} (h1:∀ k,b k∨d k→G k∨O k∨w.heap.size≤k) (h2:Ext (fun k=>G k) w w1) (h3:∀ k,b k→G k∨w.heap.size≤k) (i:oz w1 b d a h P w'):oz w G O a h P w':=by
 obtain ⟨G',O',x,g1,g2,g3⟩:=i
 refine ⟨G',O',x,g1,fun k hk => ?_,h2.trans' g3 h3⟩
 rcases g2 k hk with h | h | h
 ·exact h1 k (.inl h)
 ·exact h1 k (.inr h)
 ·exact .inr (.inr (aH h2.size h))
end Go.Proofs.YtkkfmkhbdoeglaaGreatDoor
namespace Go.Proofs.YtkkfmkhbdoeglaaGreatDoor
open Go.RowKit
theorem Gd (a:AgA) (k:UInt8) (b:List UInt8):a.put k b = {a with out:=rL a.out k b} := by
 unfold AgA.put rL
 split <;> rfl
def jK (w:World) (G O:Nat→Prop) (a h:Nat) (P:PAg) (x:AV) (w':World):Prop:=∃ O',AgAt w' G O' a h P x∧(∀ k,O' k→O k∨w.heap.size≤k)∧Ext (fun j=>j=x.c) w w'
theorem jK.fS {w w1 w':World} {G O:Nat→Prop} {a h:Nat} {P:PAg} {x:AV} (b:Below w.heap.size w w1) (d:jK w1 G O a h P x w'):jK w G O a h P x w':=by
 obtain ⟨O',h1,h2,h3⟩:=d
 exact ⟨O',h1,fun k hk=>(h2 k hk).imp id fun h=>aH b.size h,(Ext.fD b).trans h3⟩
theorem jK.trans {w w1 w':World} {G O b:Nat→Prop} {a h:Nat} {P:PAg} {x:AV} (h1:∀ k,b k→O k∨w.heap.size≤k) (h2:Ext (fun j=>j=x.c) w w1) (d:jK w1 G b a h P x w'):jK w G O a h P x w':=by
 obtain ⟨O',g1,g2,g3⟩:=d
 exact ⟨O',g1,fun k hk=>(g2 k hk).elim (h1 k) fun h => .inr (aH h2.size h),h2.trans g3⟩
theorem jK.go {w w':World} {G O:Nat→Prop} {a h:Nat} {P:PAg} {x:AV} (b:jK w G O a h P x w') (hc:G x.c):oz w G O a h P w':=by
 obtain ⟨O',h1,h2,h3⟩:=b
 exact ⟨G,O',x,h1,fun k hk=>hk.elim .inl fun h => .inr (h2 k h),h3.mono fun k e=>e▸hc⟩
theorem AgAt.put {w w':World} {G O:Nat→Prop} {a h:Nat} {P:PAg} {x:AV} (ha:AgAt w G O a h P x) {k:UInt8} {l:List UInt8} (i:OutAt w' (fun j=>O j∨(w.heap.size≤j∧j<w'.heap.size)) x.c (rL P.a.out k l)) (d:Ext (fun j=>j=x.c) w w'):jK w G O a h {P with a:=P.a.put k l} x w':=by
 rw [Gd]
 exact ⟨fun j=>O j∨(w.heap.size≤j∧j<w'.heap.size),ha.outs i d (fun j b=>b.elim (fun h=>ay (ha.olt j h) d.size) fun h=>h.2) (fun j b=>b.imp id fun h=>h.1),fun j b=>b.imp id fun h=>h.1,d⟩
theorem jy (a h:Nat) (P:PAg) (x:AV) (G O:Nat→Prop) (w:World) (ha:AgAt w G O a h P x) (r:P.a.V<18446744073709551616) :
  Calls Tryz.prog 87 #[.pointer (some ⟨a,0,none⟩)] w fun e w'=>e = .returned (.tuple #[])∧jK w G O a h {P with a:=P.a.iM} x w':=by
 have s:=ab ha
 have r0:=ha.row
 unfold AV.cells at r0
 have c1:=ae _ _ 1 _ _ _ r0
 have c4:=ae _ _ 4 _ _ _ r0
 have j:=fw r0
 clear ha r0
 go_enter Tryz.func87,Tryz.ntmps87
 go_wp2_with fail
 refine (qu w.heap.size (.slice none 0 0) [] P.a.V w (OwnS.nil _ _ _) (af _) (by simp [fX]) r).mono ?_
 rintro e w2 ⟨bv,rfl,b,d⟩
 simp only [aM,bE,aO] at b
 have i:=ab (s.out.below d)
 have d4:=(d.cell (p:=⟨a,4,none⟩) j).trans c4
 have l:=ab d
 have m:=ab b
 clear d c1 c4 b
 go_wp2_with fail
 refine (pG a x.c O P.a.out 16 bv (j4 P.a.V) w2 d4 i.out.out i.out.olt (by have:=m.out.bytes;simpa [fQ] using this) (by rw [fQ];omega)).mono ?_
 rintro e w3 ⟨rfl,o,q⟩
 have u:=ab (jK.fS l.out (i.out.put o q))
 clear o q d4
 go_wp2
 go_end0
 exact ⟨rfl,u.out⟩
theorem om (a h:Nat) (P:PAg) (x:AV) (G O:Nat→Prop) (w:World) (ha:AgAt w G O a h P x) (r:P.a.V<18446744073709551616) :
  Calls Tryz.prog 116 #[.pointer (some ⟨a,0,none⟩)] w fun e w'=>e = .returned (.tuple #[])∧jK w G O a h {P with a:=P.a.lu} x w':=by
 have s:=ab ha
 have r0:=ha.row
 unfold AV.cells at r0
 have c1:=ae _ _ 1 _ _ _ r0
 have c4:=ae _ _ 4 _ _ _ r0
 have j:=fw r0
 clear ha r0
 go_enter Tryz.func116,Tryz.ntmps116
 go_wp2_with fail
 refine (qu w.heap.size (.slice none 0 0) [] P.a.V w (OwnS.nil _ _ _) (af _) (by simp [fX]) r).mono ?_
 rintro e w2 ⟨bv,rfl,b,d⟩
 simp only [aM,bE,aO] at b
 have i:=ab (s.out.below d)
 have d4:=(d.cell (p:=⟨a,4,none⟩) j).trans c4
 have l:=ab d
 have m:=ab b
 clear d c1 c4 b
 go_wp2_with fail
 refine (pG a x.c O P.a.out 17 bv (j4 P.a.V) w2 d4 i.out.out i.out.olt (by have:=m.out.bytes;simpa [fQ] using this) (by rw [fQ];omega)).mono ?_
 rintro e w3 ⟨rfl,o,q⟩
 have u:=ab (jK.fS l.out (i.out.put o q))
 clear o q d4
 go_wp2
 go_end0
 exact ⟨rfl,u.out⟩
theorem kK (a h k:Nat) (P:PAg) (x:AV) (G O:Nat→Prop) (w:World) (ha:AgAt w G O a h P x) (hk:k<256) :
  Calls Tryz.prog 80 #[.pointer (some ⟨a,0,none⟩),.int .i64 (k:Nat)] w fun e w'=>e = .returned (.tuple #[])∧jK w G O a h {P with a:=P.a.gy k} x w':=by
 have s:=ab ha
 have r0:=ha.row
 unfold AV.cells at r0
 have c4:=ae _ _ 4 _ _ _ r0
 have i:=fw r0
 have j:Hid (((k:Nat):Int)%256=((UInt8.ofNat k).toNat:Int)):=ab (by simp)
 have l:Hid (((k:Nat):Int)=((UInt8.ofNat k).toNat:Int)):=ab (by simp;omega)
 have b:Below w.heap.size w (w.alloc (.cells #[.int .u8 ((UInt8.ofNat k).toNat:Int)] 5)):=(Below.rf w).alloc (af _) _
 have d:=ab (s.out.below b)
 have m:=ab (o5 w (UInt8.ofNat k))
 have d4:=(b.cell (p:=⟨a,4,none⟩) i).trans c4
 have o:=ab b
 clear ha r0 b c4
 go_enter Tryz.func80,Tryz.ntmps80
 go_wp2_with fail
 first | rw [j.out] | rw [l.out]
 refine (pG a x.c O P.a.out 18 _ [UInt8.ofNat k] _ d4 d.out.out d.out.olt m.out (by simp)).mono ?_
 rintro e w3 ⟨rfl,q,r⟩
 have u:=ab (jK.fS o.out (d.out.put q r))
 clear q r d4
 go_wp2
 go_end0
 exact ⟨rfl,u.out⟩
theorem mW (a h:Nat) (P:PAg) (x:AV) (G O:Nat→Prop) (w:World) (ha:AgAt w G O a h P x) (tv of:Nat) (got:List (List UInt8)) (hc:P.a.com=some (tv,of,got)) (E:got.length<256) :
  Calls Tryz.prog 94 #[.pointer (some ⟨a,0,none⟩)] w fun e w'=>e = .returned (.tuple #[])∧jK w G O a h {P with a:=P.a.km} x w':=by
 have B:=ab ha
 have r0:=ha.row
 have d:=ha.com
 rw [hc] at d
 obtain ⟨F,bv,l,-,i,-⟩:=d
 unfold AV.cells at r0
 rw [l] at r0
 have c4:=ae _ _ 4 _ _ _ r0
 have I:=ae _ _ 6 _ _ _ r0
 have g2:=ae _ _ 2 _ _ _ i
 have m:=fw r0
 have o:Hid (((got.length:Nat):Int)%256=((UInt8.ofNat got.length).toNat:Int)):=ab (by simp)
 have q:Hid (((got.length:Nat):Int)=((UInt8.ofNat got.length).toNat:Int)):=ab (by simp;omega)
 have b:Below w.heap.size w (w.alloc (.cells #[.int .u8 ((UInt8.ofNat got.length).toNat:Int)] 5)):=(Below.rf w).alloc (af _) _
 have j:=ab (B.out.below b)
 have r:=ab (o5 w (UInt8.ofNat got.length))
 have d4:=(b.cell (p:=⟨a,4,none⟩) m).trans c4
 have s:=ab b
 have C:Hid (P.a.km=P.a.put 19 [UInt8.ofNat got.length]):=ab (by unfold AgA.km AgA.CX;rw [hc])
 clear ha r0 b c4 i l hc
 go_enter Tryz.func94,Tryz.ntmps94
 go_wp2_with fail
 first | rw [o.out] | rw [q.out]
 refine (pG a x.c O P.a.out 19 _ [UInt8.ofNat got.length] _ d4 j.out.out j.out.olt r.out (by simp)).mono ?_
 rintro e w3 ⟨rfl,u,y⟩
 have D:=ab (jK.fS s.out (j.out.put u y))
 clear u y d4
 go_wp2
 go_end0
 exact ⟨rfl,by rw [C.out];exact D.out⟩
theorem AgAt.ER {w:World} {G O:Nat→Prop} {a h:Nat} {P:PAg} {x:AV} (ha:AgAt w G O a h P x):(P.a.deg=none∧x.fp = .pointer none)∨(∃ f b,P.a.deg=some f∧x.fp = .pointer (some ⟨b,0,none⟩)):=by
 have d:=ha.flt
 cases hd:P.a.deg with
 | none=>rw [hd] at d;exact .inl ⟨rfl,d⟩
 | some f=>rw [hd] at d;obtain ⟨b,i,-⟩:=d;exact .inr ⟨f,b,rfl,i⟩
theorem AgAt.Ge {w:World} {G O:Nat→Prop} {a h:Nat} {P:PAg} {x:AV} (ha:AgAt w G O a h P x):(P.a.com=none∧x.cp = .pointer none)∨(∃ tv of got b,P.a.com=some (tv,of,got)∧x.cp = .pointer (some ⟨b,0,none⟩)):=by
 have d:=ha.com
 cases hd:P.a.com with
 | none=>rw [hd] at d;exact .inl ⟨rfl,d⟩
 | some m=>obtain ⟨tv,of,got⟩:=m;rw [hd] at d;obtain ⟨b,bv,i,-⟩:=d;exact .inr ⟨tv,of,got,b,rfl,i⟩
theorem Bh (a h:Nat) (P:PAg) (x:AV) (G O:Nat→Prop) (w:World) (ha:AgAt w G O a h P x) (y:P.a.V<18446744073709551616) (q:P.a.CX<256) :
  Calls Tryz.prog 50 #[.pointer (some ⟨a,0,none⟩)] w fun e w'=>e = .returned (.tuple #[])∧jK w G O a h {P with a:=P.a.tick} x w':=by
 have r:=ab ha
 have r0:=ha.row
 unfold AV.cells at r0
 have D:=fw r0
 have s:=ha.ER
 have o:=ha.Ge
 clear ha
 rcases s with ⟨hd,i⟩ | ⟨f,b,hd,i⟩
 ·rw [i] at r0
  have c5:=ae _ _ 5 _ _ _ r0
  rcases o with ⟨hc,j⟩ | ⟨tv,of,got,E,hc,j⟩
  ·rw [j] at r0
   have B:=ae _ _ 6 _ _ _ r0
   have l:Hid (P.a.tick=P.a.iM):=ab (by unfold AgA.tick;rw [hd,hc];rfl)
   clear hd hc i j r0
   go_enter Tryz.func50,Tryz.ntmps50
   go_wp2_with fail
   refine (jy a h P x G O w r.out y).mono ?_
   rintro e w1 ⟨rfl,d⟩
   have m:=ab d
   clear d
   go_wp2
   go_end0
   exact ⟨rfl,by rw [l.out];exact m.out⟩
  ·rw [j] at r0
   have B:=ae _ _ 6 _ _ _ r0
   have l:Hid (P.a.tick=P.a.km):=ab (by unfold AgA.tick;rw [hd,hc];rfl)
   have u:got.length<256:=by unfold AgA.CX at q;rw [hc] at q;exact q
   have C:=ab (mW a h P x G O w r.out tv of got hc u)
   clear hd hc i j r0
   go_enter Tryz.func50,Tryz.ntmps50
   go_wp2_with fail
   refine C.out.mono ?_
   rintro e w1 ⟨rfl,d⟩
   have m:=ab d
   clear d
   go_wp2
   refine aI (dA rfl _ _ _) rfl ?_
   exact ⟨rfl,by rw [l.out];exact m.out⟩
 ·rw [i] at r0
  have c5:=ae _ _ 5 _ _ _ r0
  have l:Hid (P.a.tick=P.a.gy 13):=ab (by unfold AgA.tick;rw [hd];rfl)
  clear hd i r0 o
  go_enter Tryz.func50,Tryz.ntmps50
  go_wp2_with fail
  refine (kK a h 13 P x G O w r.out (by omega)).mono ?_
  rintro e w1 ⟨rfl,d⟩
  have m:=ab d
  clear d
  go_wp2
  refine aI (dA rfl _ _ _) rfl ?_
  exact ⟨rfl,by rw [l.out];exact m.out⟩
end Go.Proofs.YtkkfmkhbdoeglaaGreatDoor
namespace Go.Proofs.YtkkfmkhbdoeglaaGreatDoor
open Go.RowKit
theorem vd (a h:Nat) (P:PAg) (x:AV) (G O:Nat→Prop) (w:World) (ha:AgAt w G O a h P x) :
  Calls Tryz.prog 47 #[.pointer (some ⟨a,0,none⟩)] w fun e w'=>e = .returned (.int .u64 (P.a.V:Nat))∧w'=w:=by
 have r0:=ha.row
 unfold AV.cells at r0
 have c1:=ae _ _ 1 _ _ _ r0
 have b:=fw r0
 clear ha r0
 go_enter Tryz.func47,Tryz.ntmps47
 go_wp2
 go_ret
 exact ⟨rfl,rfl⟩
def GS (w:World) (ev:Value) (sec:Nat) (f:Nat×Nat):Prop:=∃ b,ev = .iface 114 (.pointer (some ⟨b,0,none⟩))∧
  ((f.1≠12∧w.heap[b]?=some (.cells #[.int .i64 (f.1:Nat),.int .i64 (f.2:Nat),.nilIface] 166 (0,0)))∨
   (f.1=12∧∃ c,w.heap[b]?=some (.cells #[.int .i64 (f.1:Nat),.int .i64 (f.2:Nat),.iface 168 (.pointer (some ⟨c,0,none⟩))] 166 (0,0))∧w.heap[c]?=some (.cells #[.int .i64 ((sec:Int)-2)] 171 (0,0))))
theorem tj (a h:Nat) (P:PAg) (x:AV) (G O:Nat→Prop) (w:World) (ha:AgAt w G O a h P x) :
  Calls Tryz.prog 46 #[.pointer (some ⟨a,0,none⟩)] w fun e w'=>Below w.heap.size w w'∧match P.a.deg with
   | none=>e = .returned .nilIface
   | some f=>∃ ev,e = .returned ev∧GS w' ev P.sec f:=by
 have r0:=ha.row
 have i:=ha.flt
 unfold AV.cells at r0
 have y:=fw r0
 clear ha
 cases hd:P.a.deg with
 | none =>
  rw [hd] at i
  have i:x.fp = .pointer none:=i
  rw [i] at r0
  have c5:=ae _ _ 5 _ _ _ r0
  clear r0 i hd
  go_enter Tryz.func46,Tryz.ntmps46
  go_wp2
  go_ret
  exact ⟨Below.rf w,rfl⟩
 | some f =>
  rw [hd] at i
  obtain ⟨b,q,-,i⟩:=i
  rw [q] at r0
  have c5:=ae _ _ 5 _ _ _ r0
  clear r0 q hd
  rcases i with ⟨j,d⟩ | ⟨j,c,-,d,l⟩
  ·have f0:=ae _ _ 0 _ _ _ d
   have f1:=ae _ _ 1 _ _ _ d
   have f2:=ae _ _ 2 _ _ _ d
   have r:=fw d
   have o:=ab (fA w (.cells #[.int .i64 (f.1:Nat),.int .i64 (f.2:Nat),.nilIface] 166))
   have m:=ab ((Below.rf w).alloc (af _) (.cells #[.int .i64 (f.1:Nat),.int .i64 (f.2:Nat),.nilIface] 166))
   clear d
   go_enter Tryz.func46,Tryz.ntmps46
   go_wp2
   go_ret
   exact ⟨m.out,_,rfl,_,rfl,.inl ⟨j,o.out⟩⟩
  ·have f0:=ae _ _ 0 _ _ _ d
   have f1:=ae _ _ 1 _ _ _ d
   have f2:=ae _ _ 2 _ _ _ d
   have r:=fw d
   have o:=ab (fA w (.cells #[.int .i64 (f.1:Nat),.int .i64 (f.2:Nat),.iface 168 (.pointer (some ⟨c,0,none⟩))] 166))
   have m:=ab ((Below.rf w).alloc (af _) (.cells #[.int .i64 (f.1:Nat),.int .i64 (f.2:Nat),.iface 168 (.pointer (some ⟨c,0,none⟩))] 166))
   have s:=ab (fy m.out (fw l) l)
   have u:=ab j
   clear d l j
   go_enter Tryz.func46,Tryz.ntmps46
   go_wp2
   go_ret
   exact ⟨m.out,_,rfl,_,rfl,.inr ⟨u.out,c,o.out,s.out⟩⟩
def pS (w:World) (G O:Nat→Prop) (a h:Nat) (b:PAg) (r:Option Nat) (e:Ending) (w':World):Prop :=
 oz w G O a h b w'∧match r with
  | none=>e = .returned .nilIface
  | some k=>∃ ev p,e = .returned ev∧iJ w' w.heap.size ev (k:Nat) p
theorem yM (a h:Nat) (P:PAg) (x:AV) (G O:Nat→Prop) (bv:Value) (body:List UInt8) (w:World) (ha:AgAt w G O a h P x) (j:P.a.V<18446744073709551616) (d:BytesAt w bv body) (hl:body.length≤fX) :
  Calls Tryz.prog 82 #[.pointer (some ⟨a,0,none⟩),bv] w (pS w G O a h (if body=[] then {P with a:=P.a.iM} else P) (if body=[] then none else some 2)):=by
 obtain ⟨s,m,rfl,-,-⟩:=d.opened
 have i:=ab ha
 have r:fX≤1000000000000000000:=by decide
 cases body with
 | nil =>
  rw [aB rfl,aB rfl]
  clear ha d
  go_enter Tryz.func82,Tryz.ntmps82
  go_wp2_with fail
  refine (jy a h P x G O w i.out j).mono ?_
  rintro e w1 ⟨rfl,b⟩
  have o:=ab b
  clear b
  go_wp2
  go_ret
  exact ⟨o.out.go i.out.gin.2.2.2,rfl⟩
 | cons y l =>
  rw [au (by simp),au (by simp)]
  have q:(0:Int)<((y::l).length:Int):=by rw [ar];omega
  generalize (y::l).length=n at *
  clear ha d
  go_enter Tryz.func82,Tryz.ntmps82
  go_wp2_with fail
  refine (gd 2 0 w).mono ?_
  rintro e w1 ⟨rfl,rfl⟩
  go_wp2
  go_ret
  exact ⟨⟨G,O,x,i.out.below ((Below.rf w).alloc (af _) _),fun k hk=>hk.imp id .inl,Ext.fD ((Below.rf w).alloc (af _) _)⟩,_,0,rfl,iJ.new w _ 2 0 (af _)⟩
end Go.Proofs.YtkkfmkhbdoeglaaGreatDoor
namespace Go.Proofs.YtkkfmkhbdoeglaaGreatDoor
open Go.RowKit
theorem AgAt.td {w w':World} {G O:Nat→Prop} {a h:Nat} {P:PAg} {x:AV} (ha:AgAt w G O a h P x) (b:Ext (fun j=>j=a) w w'):FltP w' G x.fp P.sec P.a.deg :=
 ha.flt.frame b fun k C fz _ hk e=>by
  subst e
  rcases hk with hk | hk <;> exact ij ha.row hk (by decide) rfl
theorem AgAt.wN {w w':World} {G O:Nat→Prop} {a h:Nat} {P:PAg} {x:AV} (ha:AgAt w G O a h P x) (b:Ext (fun j=>j=a) w w'):ComP w' G x.cp P.a.com :=
 ha.com.frame b fun k C fz _ hk e=>by
  subst e
  rcases hk with hk | hk <;> exact ij ha.row hk (by decide) rfl
theorem AgAt.nE {w w':World} {G G' O:Nat→Prop} {a h:Nat} {P P':PAg} {x x':AV} (ha:AgAt w G O a h P x) (b:Ext (fun j=>j=a) w w') (l:w'.heap[a]?=some (.cells (x'.cells P'.a.V h) 117 (0,0))) (m:x'.r=x.r) (o:x'.lg=x.lg) (q:x'.c=x.c) (y:P'.a.T=P.a.T) (B:P'.lg=P.lg) (C:P'.a.out=P.a.out)
  (d:∀ k,G k→G' k) (i:∀ k,G' k→k<w'.heap.size∧¬O k) (D:FltP w' G' x'.fp P'.sec P'.a.deg) (hc:ComP w' G' x'.cp P'.a.com):AgAt w' G' O a h P' x':=by
 obtain ⟨s,r,vals,h1,-⟩:=ha.out
 have u:x.r≠a:=fun e=>ha.tab.jC ha.row e.symm
 refine ⟨l,?_,?_,?_,D,hc,⟨d _ ha.gin.1,by rw [m];exact d _ ha.gin.2.1,by rw [o];exact d _ ha.gin.2.2.1,by rw [q];exact d _ ha.gin.2.2.2⟩,fun k hk=>(i k hk).1,fun k hk=>ay (ha.olt k hk) b.size,fun k hk=>(i k hk).2⟩
 ·rw [m,y]
  exact ha.tab.fP (b.block _ ha.tab.lt u)
 ·rw [o,B]
  have hl:=ha.log
  unfold LogAt at hl⊢
  exact b.at (fun e=>ij ha.row hl (by decide) e.symm) hl
 ·rw [q,C]
  exact ha.out.frame b (fun e=>mi h1 ha.row e.symm) fun k hk e=>ha.sep a ha.gin.1 (e▸hk)
theorem Dh (w:World) (b i:Nat) (v:Value) (o:Obj):Ext (fun j=>j=b) (w.alloc o) ((w.setCell ⟨b,i,none⟩ v).alloc o):=by
 refine ⟨rfl,rfl,rfl,by rw [ax,ax,size_setCell];exact af _,fun j m l => ?_⟩
 rw [ax] at m
 by_cases d:j<w.heap.size
 ·rw [heap_alloc_old _ _ d,heap_alloc_old _ _ (by rw [size_setCell];exact d)]
  exact Below.heap_setCell w ⟨b,i,none⟩ v j l
 ·obtain rfl:j=w.heap.size:=by omega
  have h1:=fA w o
  have h2:=fA (w.setCell ⟨b,i,none⟩ v) o
  rw [size_setCell] at h2
  rw [h1,h2]
def AgA.gG (a:AgA) (body:List UInt8):AgA×Option Nat :=
 if body.length<9 then (a,some 1) else if 9<body.length then (a,some 2)
 else if isVersionB (iw (body.take 8))=false then (a,some 4)
 else if (body.getD 8 0).toNat<1∨16<(body.getD 8 0).toNat then (a,some 5)
 else if iw (body.take 8)≤a.V then (a.lu,none)
 else (AgA.km {a with com:=some (iw (body.take 8),(body.getD 8 0).toNat,[])},none)
theorem En (a:AgA) (body:List UInt8):a.pa body=match (a.gG body).2 with
  | none=>(a.gG body).1
  | some k=>a.bad k:=by
 unfold AgA.pa AgA.gG
 split
 ·rfl
 ·split
  ·rfl
  ·split
   ·rfl
   ·split
    ·rfl
    ·split <;> rfl
theorem s8 {w w':World} {G O:Nat→Prop} {a h:Nat} {P:PAg} {x:AV} (ha:AgAt w G O a h P x) (b:Below w.heap.size w w'):oz w G O a h P w':=⟨G,O,x,ha.below b,fun _k hk=>hk.imp id .inl,Ext.fD b⟩
theorem DY (body:List UInt8):(body.length<9→∃ p,((Cu.take ⟨body,0,0,none⟩ 8).1.take 1).1.f=some (1,p))∧
  (9≤body.length→((Cu.take ⟨body,0,0,none⟩ 8).1.take 1).1.f=none∧((Cu.take ⟨body,0,0,none⟩ 8).1.take 1).1.to=9∧(Cu.take ⟨body,0,0,none⟩ 8).2=body.take 8∧((Cu.take ⟨body,0,0,none⟩ 8).1.take 1).2=[body.getD 8 0]):=by
 rw [Cu.gM]
 constructor
 ·intro hl
  by_cases h8:body.length<8
  ·rw [aB (by omega)]
   exact ⟨0,by rw [Cu.jt]⟩
  ·rw [au (by omega)]
   exact ⟨8,by rw [Cu.gM,aB (by omega)]⟩
 ·intro hl
  rw [au (by omega),Cu.gM,au (by omega)]
  refine ⟨rfl,rfl,by simp,?_⟩
  have h8:8<body.length:=by omega
  show (body.drop (0+8)).take 1=_
  rw [bE,cn h8,bj,bY,aN,aw h8]
  rfl
theorem wY (a h:Nat) (P:PAg) (x:AV) (G O:Nat→Prop) (bv:Value) (body:List UInt8) (w:World) (ha:AgAt w G O a h P x) (hv:P.a.V<18446744073709551616) (hb:BytesAt w bv body) (S:∀ b,bv.ownBlock=some b→b<w.heap.size) (hl:body.length≤fX) :
  Calls Tryz.prog 83 #[.pointer (some ⟨a,0,none⟩),bv] w (pS w G O a h {P with a:=(P.a.gG body).1} (P.a.gG body).2):=by
 obtain ⟨ba,F,rfl,-,-⟩:=hb.opened
 have I:=ab ha
 have bS:fX≤1000000000000000000:=by decide
 have ap:CurAt (w.alloc (.cells #[.slice ba body.length F,.int .i64 0,.int .i64 0,.pointer none] 211)) w.heap.size w.heap.size ⟨body,0,0,none⟩ :=
  ⟨aK _,af _,hl,af _,.slice ba body.length F,none,fA _ _,hb.below ((Below.rf w).alloc (af _) _),fun b e=>S b e,rfl⟩
 have bl:=ab ap
 have U:=ab (DY body)
 have bX:∀ b,(Value.slice ba body.length F).ownBlock=some b→b≠w.heap.size:=fun b e=>by have:=S b e;omega
 clear ap ha hb S
 obtain ⟨D,W⟩:∃ D,D=Cu.take ⟨body,0,0,none⟩ 8:=⟨_,rfl⟩
 obtain ⟨X,Y⟩:∃ X,X=D.1.take 1:=⟨_,rfl⟩
 rw [←W,←Y] at U
 have av:=ab W
 have aE:=ab Y
 clear W Y
 go_enter Tryz.func83,Tryz.ntmps83
 go_wp2_with fail
 refine (lL w.heap.size w.heap.size ⟨body,0,0,none⟩ _ bl.out (by simp)).mono ?_
 rintro e w1 ⟨rfl,J,u⟩
 rw [←av.out] at J⊢
 have ci:Below w.heap.size w w1:=((Below.rf w).alloc (af _) _).trans (by refine ⟨u.os,u.tape,u.output,u.size,fun k hk=>u.block k (by simp;omega) (fun e=>by cases e;omega)⟩)
 have Z:=ab ci
 have a9:=ab J
 have aa:Hid (iw D.2<18446744073709551616):=ab (by
  have h8:D.2.length=8:=by rw [av.out,Cu.take_length]
  have:=pV 8 D.2 (by omega)
  rw [aS (by omega)] at this
  simpa using this)
 obtain ⟨V,hV⟩:∃ V,V=iw D.2:=⟨_,rfl⟩
 have HV:=ab hV
 rw [←hV] at aa⊢
 clear J u ci hV
 go_wp2_with fail
 refine (js w.heap.size w.heap.size D.1 1 w1 a9.out Z.out.size (by omega) (by omega)).mono ?_
 rintro e w2 ⟨tv,rfl,M,-,ag,y⟩
 rw [←aE.out] at M ag
 have d:Hid (Below w.heap.size w w2):=ab (Z.out.trans ⟨y.os,y.tape,y.output,y.size,fun k hk=>y.block k (by have:=Z.out.size;omega) (fun e=>by cases e;omega)⟩)
 obtain ⟨N,hN⟩:∃ N,X.2=[N]:=by
  have:X.2.length=1:=by rw [aE.out,Cu.take_length]
  match X.2,this with
  | [N],_=>exact ⟨N,rfl⟩
 have HN:=ab hN
 rw [hN] at M
 obtain ⟨ta,bO,rfl,b0,a0⟩:=M.opened
 obtain ⟨tb,b1,rfl,t0⟩:=a0 0 (by simp)
 obtain ⟨-,-,-,-,cv,fp,C,-,-,m⟩:=ag
 have c2:=ae _ _ 2 _ _ _ C
 have c3:=ae _ _ 3 _ _ _ C
 have b2:=fw C
 have a1:=ab m
 simp only [cg,cx] at t0
 obtain ⟨l,Q⟩:∃ l,l=N.toNat:=⟨_,rfl⟩
 rw [←Q] at t0
 have b3:l<256:=by rw [Q];exact N.toNat_lt
 have br:=ab Q
 clear Q
 clear m a0 M hN y C
 by_cases h9:body.length<9
 ·obtain ⟨p,hp⟩:=U.out.1 h9
  have m:=a1.out
  rw [hp] at m
  obtain ⟨g,rfl,-⟩:=m
  have r:Hid (P.a.gG body=(P.a,some 1)):=ab (by unfold AgA.gG;rw [aB h9])
  clear hp h9
  go_wp2_with fail
  refine (gd 1 0 _).mono ?_
  rintro e w3 ⟨rfl,rfl⟩
  have s:=ab (d.out.alloc d.out.size (.cells #[.int .i64 1,.int .i64 0,.nilIface] 166))
  go_wp2
  go_ret
  rw [r.out]
  exact ⟨s8 I.out s.out,_,0,rfl,iJ.new _ _ 1 0 d.out.size⟩
 ·have bt:9≤body.length:=by omega
  obtain ⟨e1,e2,e3,e4⟩:=U.out.2 bt
  have m:=a1.out
  rw [e1] at m
  obtain rfl:fp=none:=m
  rw [e2] at c2
  rw [e4] at HN
  have E:N=body.getD 8 0:=(List.cons.inj HN.out).1.symm
  have E:l=(body.getD 8 0).toNat:=by rw [br.out,E]
  have ak:V=iw (body.take 8):=by rw [HV.out,e3]
  clear e1 e2 e3 e4
  by_cases R:9<body.length
  ·have bc:(9:Int)<(body.length:Int):=by omega
   have r:Hid (P.a.gG body=(P.a,some 2)):=ab (by unfold AgA.gG;rw [au (by omega),aB R])
   clear E ak R
   go_wp2_with fail
   refine (gd 2 0 _).mono ?_
   rintro e w3 ⟨rfl,rfl⟩
   have s:=ab (d.out.alloc d.out.size (.cells #[.int .i64 2,.int .i64 0,.nilIface] 166))
   go_wp2
   go_ret
   rw [r.out]
   exact ⟨s8 I.out s.out,_,0,rfl,iJ.new _ _ 2 0 d.out.size⟩
  ·have bc:¬(9:Int)<(body.length:Int):=by omega
   have HS:Hid (P.a.gG body=if isVersionB V=false then (P.a,some 4) else if l<1∨16<l then (P.a,some 5) else if V≤P.a.V then (P.a.lu,none) else (AgA.km {P.a with com:=some (V,l,[])},none)):=ab (by unfold AgA.gG;rw [au (by omega),au R,←ak,←E])
   clear E ak R h9
   have bM:=aa.out
   go_upto_region 10 with fail
   go_wp2_with fail
   refine (jn V w2).mono ?_
   rintro e b4 ⟨rfl,rfl⟩
   cases o:isVersionB V with
   | false =>
    have r:Hid (P.a.gG body=(P.a,some 4)):=ab (by rw [HS.out,aB o])
    clear o
    go_wp2_with fail
    refine (gd 4 0 _).mono ?_
    rintro e w3 ⟨rfl,rfl⟩
    have s:=ab (d.out.alloc d.out.size (.cells #[.int .i64 4,.int .i64 0,.nilIface] 166))
    go_wp2
    go_ret
    rw [r.out]
    exact ⟨s8 I.out s.out,_,0,rfl,iJ.new _ _ 4 0 d.out.size⟩
   | true =>
    by_cases B:l<1∨16<l
    ·have r:Hid (P.a.gG body=(P.a,some 5)):=ab (by rw [HS.out,au (by rw [o];decide),aB B])
     have bH:((l:Int)<1)∨(¬(l:Int)<1∧(16:Int)<(l:Int)):=by omega
     clear o B
     rcases bH with g1 | ⟨g1,g2⟩
     all_goals
      go_wp2_with fail
      refine (gd 5 0 _).mono ?_
      rintro e w3 ⟨rfl,rfl⟩
      have s:=ab (d.out.alloc d.out.size (.cells #[.int .i64 5,.int .i64 0,.nilIface] 166))
      go_wp2
      go_ret
      rw [r.out]
      exact ⟨s8 I.out s.out,_,0,rfl,iJ.new _ _ 5 0 d.out.size⟩
    ·have g1:¬(l:Int)<1:=by omega
     have g2:¬(16:Int)<(l:Int):=by omega
     have q:=ab (I.out.below d.out)
     have r2:=q.out.row
     unfold AV.cells at r2
     have d1:=ae _ _ 1 _ _ _ r2
     have d6:=ae _ _ 6 _ _ _ r2
     have z6:=aj _ _ 6 _ _ r2
     have b5:=fw r2
     clear r2
     by_cases hle:V≤P.a.V
     ·have bd:(V:Int)≤(P.a.V:Int):=by omega
      have r:Hid (P.a.gG body=(P.a.lu,none)):=ab (by rw [HS.out,au (by rw [o];decide),au B,aB hle])
      clear o B hle
      go_wp2_with fail
      refine (om a h P x G O w2 q.out hv).mono ?_
      rintro e w3 ⟨rfl,a2⟩
      have HP:=ab a2
      clear a2
      go_wp2
      go_ret
      rw [r.out]
      exact ⟨oz.fS d.out (HP.out.go I.out.gin.2.2.2),rfl⟩
     ·have bd:¬(V:Int)≤(P.a.V:Int):=by omega
      have r:Hid (P.a.gG body=(AgA.km {P.a with com:=some (V,l,[])},none)):=ab (by rw [HS.out,au (by rw [o];decide),au B,au hle])
      clear o B hle
      have H3:Hid (AgAt ((w2.setCell ⟨a,6,none⟩ (.pointer (some ⟨w2.heap.size,0,none⟩))).alloc (.cells #[.int .u64 (V:Nat),.int .i64 (l:Nat),.int .i64 0,.slice none 0 0] 214)) (fun k=>G k∨k=w2.heap.size) O a h {P with a := {P.a with com:=some (V,l,[])}} {x with cp := .pointer (some ⟨w2.heap.size,0,none⟩)}∧Ext (fun k=>G k) w2 ((w2.setCell ⟨a,6,none⟩ (.pointer (some ⟨w2.heap.size,0,none⟩))).alloc (.cells #[.int .u64 (V:Nat),.int .i64 (l:Nat),.int .i64 0,.slice none 0 0] 214))):=by
       have a3:Below w2.heap.size w2 (w2.alloc (.cells #[.int .u64 (V:Nat),.int .i64 (l:Nat),.int .i64 0,.slice none 0 0] 214)):=(Below.rf w2).alloc (af _) _
       have a4:=q.out.below a3
       have hx:Ext (fun j=>j=a) (w2.alloc (.cells #[.int .u64 (V:Nat),.int .i64 (l:Nat),.int .i64 0,.slice none 0 0] 214)) ((w2.setCell ⟨a,6,none⟩ (.pointer (some ⟨w2.heap.size,0,none⟩))).alloc (.cells #[.int .u64 (V:Nat),.int .i64 (l:Nat),.int .i64 0,.slice none 0 0] 214)):=Dh w2 a 6 _ _
       have bI:w2.heap.size≠a:=by omega
       refine ab ⟨a4.nE (G':=fun k=>G k∨k=w2.heap.size) hx (fG _ _ (heap_setCell _ _ 6 _ q.out.row)) rfl rfl rfl rfl rfl rfl (fun k => .inl) (fun k hk => ?_) ((a4.td hx).mono fun k => .inl) ?_,(Ext.fD a3).trans' hx fun i e => .inl (e▸q.out.gin.1)⟩
       ·rw [ax,size_setCell]
        rcases hk with hk | rfl
        ·exact ⟨by have:=q.out.glt k hk;omega,q.out.sep k hk⟩
        ·exact ⟨by omega,fun ho=>by have:=q.out.olt _ ho;omega⟩
       ·exact ⟨w2.heap.size,.slice none 0 0,rfl,.inr rfl,hx.at bI (fA w2 _),OwnS.nil _ _ _,CellsOf.nil _ _,fun k e=>by simp [Value.ownBlock] at e⟩
      go_upto_region 9 with fail
      generalize bL:(w2.setCell ⟨a,6,none⟩ (.pointer (some ⟨w2.heap.size,0,none⟩))).alloc (.cells #[.int .u64 (V:Nat),.int .i64 (l:Nat),.int .i64 0,.slice none 0 0] 214)=w3 at *
      have b6:Hid (w2.heap.size≤w3.heap.size):=ab H3.out.2.size
      clear bL
      go_wp2_with fail
      refine (mW a h _ _ _ O w3 H3.out.1 V l [] rfl (by simp)).mono ?_
      rintro e w4 ⟨rfl,a5⟩
      have HP:=ab a5
      clear a5
      go_wp2
      go_ret
      rw [r.out]
      refine ⟨oz.fS d.out (oz.trans (fun k hk => ?_) H3.out.2 (fun k hk => ?_) (HP.out.go (.inl I.out.gin.2.2.2))),rfl⟩
      ·rcases hk with (hk | rfl) | hk
       ·exact .inl hk
       ·exact .inr (.inr (af _))
       ·exact .inr (.inl hk)
      ·rcases hk with hk | rfl
       ·exact .inl hk
       ·exact .inr (af _)
end Go.Proofs.YtkkfmkhbdoeglaaGreatDoor
namespace Go.Proofs.YtkkfmkhbdoeglaaGreatDoor
open Go.RowKit Go.Shelf
theorem lB.fS {w w1 w':World} {base h:Nat} {x:HV} {d:DpS} (b:Below w.heap.size w w1) (hd:lB w1 base h x d w'):lB w base h x d w':=by
 obtain ⟨⟨lv,h1,h2⟩,h3⟩:=hd
 exact ⟨⟨lv,h1,fun i e=>(h2 i e).imp id (fun e=>aH b.size e)⟩,(Ext.fD b).trans h3⟩
theorem AF {S:List E} {room:Nat→Int} {t:Nat} (h:overS S room=some t):o7 S room=(t:Int)∧t<3:=by
 unfold o7
 rw [h]
 refine ⟨rfl,?_⟩
 unfold overS at h
 split at h
 ·cases h;omega
 ·split at h
  ·cases h;omega
  ·split at h
   ·cases h;omega
   ·cases h
theorem yg {S:List E} {room:Nat→Int} (h:overS S room=none):o7 S room = -1:=by
 unfold o7
 rw [h]
theorem uB (base q r h:Nat) (x:HV) (d:DpS) (T:List E) (w:World) (he:EntAt w q 0 r T) (hd:DpAt w base h x d) (I:T.length≤100000000) (J:d.S.length≤100000000) (M:d.log.length≤7500000000000) (b:∀ y∈d.S,y.1.2.length≤fX) (i:∀ y∈T,y.1.2.length≤fX∧y.2.length≤fX) (N:base≤w.heap.size) (u:q≠h) (B:x.log.ownBlock≠some q) (C:r≠x.r) (D:overS T x.room=none) :
  Calls Tryz.prog 138 #[qE h,.pointer (some ⟨q,0,none⟩)] w fun e w'=>e = .returned .nilIface∧lB w base h x (d.run (iQ d.S T)) w':=by
 have j:=ab (yU q 0 r h x T w he hd.row (by omega))
 rw [yg D] at j
 have F:=ab (fun (W:World) (s:Below w.heap.size w W)=>wI base q 0 r h x d T W (he.below s) (hd.below s) I J M b i (aH N s.size) u B C)
 have O:=he.lt
 clear he hd b i D
 unfold qE at *
 go_enter Tryz.func138,Tryz.ntmps138
 go_wp2_with fail
 refine j.out.mono ?_
 rintro e w1 ⟨rfl,l⟩
 have m:=ab l
 go_wp2_with fail
 refine (F.out w1 m.out).mono ?_
 rintro e w2 ⟨rfl,o⟩
 have G:=ab o
 clear o l
 go_wp2
 go_ret
 exact ⟨rfl,lB.fS m.out G.out⟩
end Go.Proofs.YtkkfmkhbdoeglaaGreatDoor
namespace Go.Proofs.YtkkfmkhbdoeglaaGreatDoor
open Go.RowKit Go.Shelf
theorem gB.brought {w w':World} {F:Nat→Prop} {h:Nat} {x:HV} {H:fx} {d':DpS} (d:gB w F h x H) (l:lB w 0 h x d' w'):gV w F (fun _=>False) h {H with dp:=d'} w':=by
 obtain ⟨⟨lv,h1,h2⟩,h3⟩:=l
 have i:w.heap[h]?=_:=d.dp.row
 obtain ⟨f1,f2,f3⟩:=d.foot
 have j:∀ (k:Nat) (C:Array Value) (t:TypeId) (fz:Nat×Nat),w.heap[k]?=some (Obj.cells C t fz)→t≠87→t≠9→w'.heap[k]?=w.heap[k]?:=fun k C t fz hk m o=>h3.block k (fw hk) fun e=>by
  rcases e with e | e | e
  ·rw [e,i] at hk
   cases hk
   exact m rfl
  ·exact d.dp.tab.jC hk e
  ·exact d.dp.ltyp.ne hk o e
 refine ⟨fun k=>F k∨(w.heap.size≤k∧k<w'.heap.size),⟨_,⟨h1,d.fail,d.writes,?_,?_,?_,d.apart,⟨.inl f1,.inl f2,fun k e=>(h2 k e).imp (f3 k) fun hk=>⟨hk,?_⟩⟩,fun k hk=>hk.elim (fun hF=>ay (d.lt k hF) h3.size) fun hk=>hk.2⟩⟩,fun k hk=>hk.imp id fun hk=>hk.1,h3.mono fun k hk => .inl ?_⟩
 ·exact (d.held.fP h3.size fun k C t fz hk b _=>j k C t fz hk (by rcases b with b | b <;> rw [b] <;> decide) (by rcases b with b | b <;> rw [b] <;> decide)).mono fun _ => .inl
 ·exact (d.seen.fP h3.size fun k C t fz hk b _=>j k C t fz hk (by rcases b with b | b <;> rw [b] <;> decide) (by rcases b with b | b <;> rw [b] <;> decide)).mono fun _ => .inl
 ·exact (d.late.fP h3.size fun k C t fz hk b _=>j k C t fz hk (by rcases b with b | b <;> rw [b] <;> decide) (by rcases b with b | b <;> rw [b] <;> decide)).mono fun _ => .inl
 ·obtain ⟨C,fz,q⟩:=h1.ltyp k e
  exact fw q
 ·rcases hk with hk | hk | hk
  ·rw [hk];exact f1
  ·rw [hk];exact f2
  ·exact f3 k hk
structure gI (w:World) (F G O:Nat→Prop) (a h:Nat) (H:fx) (P:PAg) (x:AV):Prop where
 host:HostAt w F h H
 ag:AgAt w G O a h P x
 fg:∀ k,F k→¬G k
 fo:∀ k,F k→¬O k
def Cx (w:World) (M:Nat→Prop) (a h:Nat) (H:fx) (P:PAg):Prop:=∃ F G O x,gI w F G O a h H P x∧∀ k,F k∨G k∨O k→M k
def jM (w:World) (M:Nat→Prop) (a h:Nat) (H:fx) (P:PAg) (w':World):Prop:=∃ b,Cx w' b a h H P∧(∀ k,b k→M k∨w.heap.size≤k)∧Ext M w w'
theorem gI.frame {w w':World} {D F G O:Nat→Prop} {a h:Nat} {H:fx} {P:PAg} {x:AV} (hm:gI w F G O a h H P x) (b:Ext D w w') (hd:∀ k,F k∨G k∨O k→¬D k):gI w' F G O a h H P x :=
 ⟨hm.host.ext b fun k hk=>hd k (.inl hk),hm.ag.frame b (fun k hk=>hd k (.inr (.inl hk))) fun k hk=>hd k (.inr (.inr hk)),hm.fg,hm.fo⟩
theorem gI.below {w w':World} {F G O:Nat→Prop} {a h:Nat} {H:fx} {P:PAg} {x:AV} (hm:gI w F G O a h H P x) (b:Below w.heap.size w w'):gI w' F G O a h H P x:=hm.frame (D:=fun _=>False) (Ext.fD b) fun _ _=>id
theorem Cx.frame {w w':World} {D M:Nat→Prop} {a h:Nat} {H:fx} {P:PAg} (hm:Cx w M a h H P) (b:Ext D w w') (hd:∀ k,M k→¬D k):Cx w' M a h H P:=by
 obtain ⟨F,G,O,x,h1,h2⟩:=hm
 exact ⟨F,G,O,x,h1.frame b fun k hk=>hd k (h2 k hk),h2⟩
theorem Cx.below {w w':World} {M:Nat→Prop} {a h:Nat} {H:fx} {P:PAg} (hm:Cx w M a h H P) (b:Below w.heap.size w w'):Cx w' M a h H P:=hm.frame (D:=fun _=>False) (Ext.fD b) fun _ _=>id
theorem jM.fS {w w1 w':World} {M:Nat→Prop} {a h:Nat} {H:fx} {P:PAg} (b:Below w.heap.size w w1) (d:jM w1 M a h H P w'):jM w M a h H P w':=by
 obtain ⟨i,h1,h2,h3⟩:=d
 exact ⟨i,h1,fun k hk=>(h2 k hk).imp id (aH b.size),(Ext.fD b).trans h3⟩
theorem jM.below {w w1 w':World} {M:Nat→Prop} {a h:Nat} {H:fx} {P:PAg} (d:jM w M a h H P w1) (b:Below w1.heap.size w1 w'):jM w M a h H P w':=by
 obtain ⟨i,h1,h2,h3⟩:=d
 exact ⟨i,h1.below b,h2,h3.trans (Ext.fD b)⟩
theorem jM.trans {w w1 w':World} {M b:Nat→Prop} {a h:Nat} {H:fx} {P:PAg} (h2:∀ k,b k→M k∨w.heap.size≤k) (h3:Ext M w w1) (d:jM w1 b a h H P w'):jM w M a h H P w':=by
 obtain ⟨i,g1,g2,g3⟩:=d
 exact ⟨i,g1,fun k hk=>(g2 k hk).elim (h2 k) fun e => .inr (aH h3.size e),h3.trans' g3 h2⟩
theorem oz.E5 {w w':World} {F G O M:Nat→Prop} {a h:Nat} {H:fx} {P P':PAg} {x:AV} (hm:gI w F G O a h H P x) (b:∀ k,F k∨G k∨O k→M k) (d:oz w G O a h P' w'):jM w M a h H P' w':=by
 obtain ⟨G',O',x',h1,h2,h3⟩:=d
 have hF:=hm.host.lt
 refine ⟨fun k=>M k∨w.heap.size≤k,⟨F,G',O',x',⟨hm.host.ext h3 hm.fg,h1,fun k hk e => ?_,fun k hk e => ?_⟩,fun k hk => ?_⟩,fun k hk=>hk,h3.mono fun k hk=>b k (.inr (.inl hk))⟩
 ·rcases h2 k (.inl e) with e | e | e
  ·exact hm.fg k hk e
  ·exact hm.fo k hk e
  ·have:=hF k hk;omega
 ·rcases h2 k (.inr e) with e | e | e
  ·exact hm.fg k hk e
  ·exact hm.fo k hk e
  ·have:=hF k hk;omega
 ·rcases hk with hk | hk
  ·exact .inl (b k (.inl hk))
  ·exact (h2 k hk).elim (fun e => .inl (b k (.inr (.inl e)))) fun e=>e.imp (fun e=>b k (.inr (.inr e))) id
theorem zL:∃ i,Tryz.prog.info? 59=some i∧i.bytes=24:=by
 have h:(Tryz.prog.info? 59).map (·.bytes)=some 24:=by kernel_rfl
 obtain ⟨i,b,d⟩:=ch.1 h
 exact ⟨i,b,d⟩
theorem Ez (w:World):(Instr.makeChan 113 (.int .i64 6)).run Tryz.prog w = .ok (.chan (some w.heap.size)) (w.alloc (.chan 6 #[] false 0 0 false)):=by
 obtain ⟨i,b,d⟩:=zL
 simpa using Conc.run_makeChan (P:=Tryz.prog) (w:=w) Tryz.underlying113 b .i64 6 (by omega) (by rw [d];omega)
theorem Br (H:fx):(readAll H).1.dp=H.dp∧(readAll H).1.seen=H.seen:=by
 unfold readAll
 split <;> exact ⟨rfl,rfl⟩
theorem C1 (h:Nat) (F:Nat→Prop) (H:fx) (B:Nat) (w:World) (r:HostAt w F h H) (i:HostOk H B) (f:Nat) (E:(readAll H).2=some f) :
  Calls Tryz.prog 97 #[.iface 188 (.agg #[.pointer (some ⟨h,0,none⟩)]),qE h] w fun e w'=>∃ b c,e = .returned (.tuple #[.pointer none,.iface 114 (.pointer (some ⟨b,0,none⟩))])∧w'.heap[b]?=some (.cells #[.int .i64 12,.int .i64 0,.iface 168 (.pointer (some ⟨c,0,none⟩))] 166 (0,0))∧w'.heap[c]?=some (.cells #[.int .i64 ((f:Int)-2)] 171 (0,0))∧HostAt w' F h (readAll H).1∧Ext F w w':=by
 have s:=ab (El h F H B w r i f E)
 clear r i
 unfold qE
 go_enter Tryz.func97,Tryz.ntmps97
 go_wp2_with fail
 refine s.out.mono ?_
 rintro e w1 ⟨v,rfl,u,j,l⟩
 obtain ⟨c,rfl,I,m⟩:=u
 have x:=ab j
 have y:=ab l
 have o:=ab m
 clear j l m
 go_wp2_with fail
 refine (uV c w1).mono ?_
 rintro e w2 ⟨rfl,d⟩
 have C:Below w1.heap.size w1 w2:=by rw [d];exact (Below.rf w1).alloc (af _) _
 have D:w2.heap[w1.heap.size]?=some (.cells #[.int .i64 12,.int .i64 0,.iface 168 (.pointer (some ⟨c,0,none⟩))] 166 (0,0)):=by rw [d];exact fA w1 _
 have q:=ab C
 have G:=ab D
 clear C D d
 go_wp2
 refine aI (v := .tuple #[.pointer none,.iface 114 (.pointer (some ⟨w1.heap.size,0,none⟩))]) (by simp [results,Tryz.results97,go_sem]) rfl ?_
 exact ⟨_,_,rfl,G.out,fy q.out (fw o.out) o.out,x.out.below q.out,y.out.trans (Ext.fD q.out)⟩
theorem Bd (h:Nat) (F:Nat→Prop) (H:fx) (B:Nat) (w:World) (hh:HostAt w F h H) (U:HostOk H B) (hg:ShapesVar w) (a4:∀ k,F k→2≤k) (slot v next:Nat) (T:List E) (hinv:DiskInv decSB decDB foldS [] (H.seen.map parseSec) (placeOf H.seen.length) slot v T next) (hf:(readAll H).2=none)
  (hv:v<18446744073709551616) (hT:T.length≤100000000) (hS:H.dp.S.length≤100000000) (hL:H.dp.log.length≤7500000000000) (V:∀ y∈H.dp.S,y.1.2.length≤fX) (a7:∀ y∈T,y.1.2.length≤fX∧y.2.length≤fX) (ho:overS T H.dp.room=none) :
  Calls Tryz.prog 97 #[.iface 188 (.agg #[.pointer (some ⟨h,0,none⟩)]),qE h] w fun e w'=>∃ a,e = .returned (.tuple #[.pointer (some ⟨a,0,none⟩),.nilIface])∧w.heap.size≤a∧jM w F a h ((readAll H).1.lY T) ⟨begunA v T,0,⟨gm H.seen,slot,next⟩⟩ w':=by
 have ba:=ab (CF h F H B w hh U hg a4 slot v next T hinv hf)
 have d:=ab hh.lt
 obtain ⟨e1,e2⟩:=Br H
 rw [←e1] at hS hL V ho
 have bP:=Ez
 generalize bc:(readAll H).1=H1 at *
 clear hh U hg bc e1 e2
 unfold qE
 go_enter Tryz.func97,Tryz.ntmps97
 go_wp2_with fail
 refine ba.out.mono ?_
 rintro e w1 ⟨lg,q,r,rfl,I,s,bS,bX,b0,b1,bd,W⟩
 obtain ⟨x,m⟩:=bd
 have bi:=ab m
 have X:=ab I
 have u:=ab s
 have J:=ab W
 obtain ⟨f1,f2,f3⟩:=m.foot
 have Y:=ab (uB 0 q r h x H1.dp T w1 s m.dp hT hS hL V a7 (aK _) (fun e=>by have:=d.out h f1;omega) (fun e=>by have:=d.out q (f3 q e);omega) (fun e=>by have:=d.out _ f2;omega) (by rw [m.dp.room];exact ho))
 have bk:=ab (show ∀ k,(k=h∨k=x.r∨x.log.ownBlock=some k)→F k from fun k e=>by
  rcases e with e | e | e
  ·rw [e];exact f1
  ·rw [e];exact f2
  ·exact f3 k e)
 clear m I s W f1 f2 f3 hinv
 unfold qE at Y
 go_wp2_with fail
 refine Y.out.mono ?_
 rintro e w2 ⟨rfl,M⟩
 have bl:=ab (bi.out.brought M)
 have o:Ext (fun k=>F k) w1 w2:=M.2.mono bk.out
 have Z:LogAt w2 lg h _:=o.at (fun e=>by have:=d.out lg e;omega) X.out
 have bn:=o.cell (p:=⟨q,0,none⟩) (fun e=>by have:=d.out q e;omega) u.out.cell
 have aa:=u.out.tab.fP (o.block r u.out.tab.lt (fun e=>by have:=d.out r e;omega))
 have ag:=ab o
 have ak:=ab Z
 have am:=ab aa
 have bH:=fE bn
 clear M o Z aa
 go_wp2
 go_region
 have j:Below w2.heap.size w2 ((w2.alloc (.chan 6 #[] false 0 0 false)).alloc (.cells #[.map (some r),.int .u64 (v:Nat),.pointer (some ⟨lg,0,none⟩),qE h,.chan (some w2.heap.size),.pointer none,.pointer none] 117)).drew:=(Below.al (Below.al (Below.rf w2) _) _).drew
 have C:=fA (w2.alloc (.chan 6 #[] false 0 0 false)) (.cells #[.map (some r),.int .u64 (v:Nat),.pointer (some ⟨lg,0,none⟩),qE h,.chan (some w2.heap.size),.pointer none,.pointer none] 117)
 have N:=fG (w2.alloc (.chan 6 #[] false 0 0 false)) (.cells #[.map (some r),.int .u64 (v:Nat),.pointer (some ⟨lg,0,none⟩),qE h,.chan (some w2.heap.size),.pointer none,.pointer none] 117) (fA w2 (.chan 6 #[] false 0 0 false))
 rw [ax] at C
 unfold qE at j C N
 have bo:((w2.alloc (.chan 6 #[] false 0 0 false)).alloc (.cells #[.map (some r),.int .u64 (v:Nat),.pointer (some ⟨lg,0,none⟩),.iface 189 (.agg #[.pointer (some ⟨h,0,none⟩)]),.chan (some w2.heap.size),.pointer none,.pointer none] 117)).drew.heap.size=w2.heap.size+2:=by
  show ((w2.alloc _).alloc _).heap.size=_
  rw [ax,ax]
 generalize O:((w2.alloc (.chan 6 #[] false 0 0 false)).alloc (.cells #[.map (some r),.int .u64 (v:Nat),.pointer (some ⟨lg,0,none⟩),.iface 189 (.agg #[.pointer (some ⟨h,0,none⟩)]),.chan (some w2.heap.size),.pointer none,.pointer none] 117)).drew=G at j bo⊢
 have ap:G.heap[w2.heap.size+1]?=some (.cells #[.map (some r),.int .u64 (v:Nat),.pointer (some ⟨lg,0,none⟩),.iface 189 (.agg #[.pointer (some ⟨h,0,none⟩)]),.chan (some w2.heap.size),.pointer none,.pointer none] 117 (0,0)):=by rw [←O];exact C
 have av:G.heap[w2.heap.size]?=some (.chan 6 #[] false 0 0 false):=by rw [←O];exact N
 obtain ⟨F',Q,l,a2⟩:=bl.out
 have D:=Q.lt
 have bv:lg<w1.heap.size:=fw X.out
 have bI:r<w1.heap.size:=u.out.tab.lt
 have b2:=ag.out.size
 have R:AgAt G (fun k=>k=w2.heap.size+1∨k=r∨k=lg∨k=w2.heap.size) (fun _=>False) (w2.heap.size+1) h ⟨⟨v,T,[],none,none⟩,0,⟨gm H.seen,slot,next⟩⟩ ⟨r,lg,w2.heap.size,.pointer none,.pointer none⟩:=by
  refine ⟨ap,am.out.fP (j.block _ am.out.lt),fy j (fw ak.out) ak.out,⟨0,0,[],av,rfl,fun i b hi=>(by simp at hi),List.Pairwise.nil⟩,rfl,rfl,⟨.inl rfl,.inr (.inl rfl),.inr (.inr (.inl rfl)),.inr (.inr (.inr rfl))⟩,fun k hk => ?_,fun k hk=>hk.elim,fun k _=>id⟩
  rcases hk with e | e | e | e <;> rw [e] <;> omega
 have aE:gI G F' (fun k=>k=w2.heap.size+1∨k=r∨k=lg∨k=w2.heap.size) (fun _=>False) (w2.heap.size+1) h (H1.lY T) ⟨⟨v,T,[],none,none⟩,0,⟨gm H.seen,slot,next⟩⟩ ⟨r,lg,w2.heap.size,.pointer none,.pointer none⟩:=by
  refine ⟨Q.below j,R,fun k hk e => ?_,fun k _=>id⟩
  have h1:=D k hk
  rcases e with e | e | e | e
  ·omega
  ·rcases l k hk with h2 | h2
   ·have:=d.out k h2;omega
   ·omega
  ·rcases l k hk with h2 | h2
   ·have:=d.out k h2;omega
   ·omega
  ·omega
 have br:=ab aE
 have a0:=ab ((J.out.trans ag.out).trans (Ext.fD j):Ext F w G)
 have HM:=ab (show ∀ k,F' k∨(k=w2.heap.size+1∨k=r∨k=lg∨k=w2.heap.size)∨False→F k∨w.heap.size≤k from fun k hk=>by
  have h1:=J.out.size
  rcases hk with hk | (e | e | e | e) | hk
  ·exact (l k hk).imp id fun e=>by omega
  ·exact .inr (by omega)
  ·exact .inr (by omega)
  ·exact .inr (by omega)
  ·exact .inr (by omega)
  ·exact hk.elim)
 have bs:=ab (show w.heap.size≤w2.heap.size+1 by have:=J.out.size;omega)
 clear aE O ap av C N j l a2 D Q
 go_wp2_with fail
 refine (jy (w2.heap.size+1) h _ _ _ _ G R hv).mono ?_
 rintro e w4 ⟨rfl,hp⟩
 have HG:=ab (oz.E5 br.out HM.out (hp.go (.inr (.inr (.inr rfl)))))
 clear hp R
 go_wp2
 refine aI (v := .tuple #[.pointer (some ⟨w2.heap.size+1,0,none⟩),.nilIface]) (by simp [results,Tryz.results97,go_sem]) rfl ?_
 obtain ⟨M',g1,g2,g3⟩:=HG.out
 exact ⟨_,rfl,bs.out,M',g1,fun k hk=>(g2 k hk).elim id fun e => .inr (aH a0.out.size e),a0.out.trans' g3 fun k hk=>hk⟩
end Go.Proofs.YtkkfmkhbdoeglaaGreatDoor
namespace Go.Proofs.YtkkfmkhbdoeglaaGreatDoor
open Go.RowKit Go.Shelf
theorem gB.drop {w:World} {F:Nat→Prop} {h c:Nat} {x:HV} {H:fx} {C:Array Value} {fz:Nat×Nat} (d:gB w F h x H) (hc:w.heap[c]?=some (.cells C 171 fz)):gB w (fun k=>F k∧k≠c) h x H:=by
 have ne:∀ (v:Value) (e:TypeId),CellsOf w v e→e≠171→∀ k,v.ownBlock=some k→k≠c:=fun v e o he k hk q=>by
  obtain ⟨D,s,m⟩:=o k hk
  rw [q,hc] at m
  cases m
  exact he rfl
 have sec:∀ v b,iP w F v b→iP w (fun k=>F k∧k≠c) v b:=fun v b h=>⟨h.1,h.2.1,fun k e=>⟨h.2.2 k e,ne v _ h.2.1 (by decide) k e⟩⟩
 have rows:∀ v rows,RowsAt w F v rows→RowsAt w (fun k=>F k∧k≠c) v rows:=fun v rows h=>by
  obtain ⟨vals,h1,h2,h3,h4⟩:=h
  refine ⟨vals,h1,h2,fun k e=>⟨h3 k e,ne v _ h2 (by decide) k e⟩,fun i b l => ?_⟩
  obtain ⟨u,hu,hs⟩:=h4 i b l
  exact ⟨u,hu,sec u b hs⟩
 have j:w.heap[h]?=_:=d.dp.row
 obtain ⟨f1,f2,f3⟩:=d.foot
 refine ⟨d.dp,d.fail,d.writes,rows _ _ d.held,rows _ _ d.seen,?_,d.apart,⟨⟨f1,fun e => ?_⟩,⟨f2,fun e=>d.dp.tab.jC hc e.symm⟩,fun k e=>⟨f3 k e,ne _ _ d.dp.ltyp (by decide) k e⟩⟩,fun k hk=>d.lt k hk.1⟩
 ·obtain ⟨vals,r,h1,h2,h3,h4⟩:=d.late
  refine ⟨vals,r,h1,h2,fun k e=>⟨h3 k e,ne _ _ h2 (by decide) k e⟩,fun i b l => ?_⟩
  obtain ⟨u,hu,hs⟩:=h4 i b l
  exact ⟨u,hu,sec u _ hs⟩
 ·rw [e,hc] at j
  cases j
theorem AgAt.GJ {w w':World} {D G O:Nat→Prop} {a h:Nat} {P:PAg} {x:AV} {g:LogS} (ha:AgAt w G O a h P x) (i:Ext D w w') (m:∀ k,G k→D k→k=x.lg) (hO:∀ k,O k→¬D k) (hl:LogAt w' x.lg h g):AgAt w' G O a h {P with lg:=g} x:=by
 have j:=ha.log
 unfold LogAt at j
 obtain ⟨s,r,vals,h1,-⟩:=ha.out
 have d:∀ k C T fz,G k→w.heap[k]?=some (.cells C T fz)→T≠253→¬D k:=fun k C T fz hk b q l=>ij b j q (m k hk l)
 have hd:∀ k,G k→k≠x.lg→¬D k:=fun k hk o l=>o (m k hk l)
 exact ⟨i.at (d a _ _ _ ha.gin.1 ha.row (by decide)) ha.row,ha.tab.fP (i.block _ ha.tab.lt (hd _ ha.gin.2.1 fun e=>ha.tab.jC j e.symm)),hl,ha.out.frame i (hd _ ha.gin.2.2.2 fun e=>mi h1 j e.symm) hO,
  ha.flt.frame i fun k C fz hk b=>b.elim (fun b=>d k _ _ _ hk b (by decide)) fun b=>d k _ _ _ hk b (by decide),ha.com.frame i fun k C fz hk b=>b.elim (fun b=>d k _ _ _ hk b (by decide)) fun b=>d k _ _ _ hk b (by decide),
  ha.gin,fun k hk=>ay (ha.glt k hk) i.size,fun k hk=>ay (ha.olt k hk) i.size,ha.sep⟩
theorem AgAt.GZ {w w':World} {G O:Nat→Prop} {a h r v:Nat} {P:PAg} {x:AV} {T:List E} (ha:AgAt w G O a h P x) (b:Ext (fun j=>j=a) w w') (l:w'.heap[a]?=some (.cells (AV.cells {x with r:=r} v h) 117 (0,0))) (i:TabAt w r T) (m:¬O r) :
  AgAt w' (fun k=>G k∨k=r) O a h {P with a := {P.a with V:=v,T:=T}} {x with r:=r} := by
 obtain ⟨s,o,vals,h1,-⟩:=ha.out
 have d:=ha.log
 unfold LogAt at d
 refine ⟨l,i.fP (b.block _ i.lt fun e=>i.jC ha.row e.symm),b.at (fun e=>ij ha.row d (by decide) e.symm) d,ha.out.frame b (fun e=>mi h1 ha.row e.symm) fun k hk e=>ha.sep a ha.gin.1 (e▸hk),(ha.td b).mono fun _ => .inl,(ha.wN b).mono fun _ => .inl,⟨.inl ha.gin.1,.inr rfl,.inl ha.gin.2.2.1,.inl ha.gin.2.2.2⟩,fun k hk => ?_,fun k hk=>ay (ha.olt k hk) b.size,fun k hk => ?_⟩
 ·rcases hk with hk | hk
  ·exact ay (ha.glt k hk) b.size
  ·rw [hk];exact ay i.lt b.size
 ·rcases hk with hk | hk
  ·exact ha.sep k hk
  ·rw [hk];exact m
def s9 (gf:Nat) (lb:Array Value) (w:World) (x:AV) (F:Nat→Prop) (h:Nat) (L:fx×LogS×Option Nat):Prop :=
 ∀ W,Below w.heap.size w W→Calls Tryz.prog gf lb W fun e W'=>∃ b,e = .returned b∧we W W' b L.2.2∧LogAt W' x.lg h L.2.1∧gV W F (fun k=>k=x.lg) h L.1 W'
def pR (w:World) (F G O:Nat→Prop) (a h:Nat) (H:fx) (P:PAg) (x:AV) (r v:Nat) (T:List E) (L:fx×LogS×Option Nat) (e:Ending) (w':World):Prop :=
 match gZ T H.dp.room H.seen.length,L with
 | some f,_=>∃ b,e = .returned (.pointer (some ⟨b,0,none⟩))∧w.heap.size≤b∧w'.heap[b]?=some (.cells #[.int .i64 (f.1:Nat),.int .i64 (f.2:Nat),.nilIface] 166 (0,0))∧Below w.heap.size w w'
 | none,(H1,g1,some s)=>∃ b c F',e = .returned (.pointer (some ⟨b,0,none⟩))∧w.heap.size≤b∧w.heap.size≤c∧w'.heap[b]?=some (.cells #[.int .i64 12,.int .i64 0,.iface 168 (.pointer (some ⟨c,0,none⟩))] 166 (0,0))∧w'.heap[c]?=some (.cells #[.int .i64 ((s:Int)-2)] 171 (0,0))∧
   gI w' F' G O a h H1 {P with lg:=g1} x∧(∀ k,F' k→(F k∨w.heap.size≤k)∧k≠b∧k≠c)∧Ext (fun k=>F k∨k=x.lg) w w'
 | none,(H1,g1,none)=>∃ F',e = .returned (.pointer none)∧gI w' F' (fun k=>G k∨k=r) O a h (H1.lY T) ⟨{P.a with V:=v,T:=T},P.sec,g1⟩ {x with r:=r}∧(∀ k,F' k→F k∨w.heap.size≤k)∧Ext (fun k=>F k∨k=x.lg∨k=a) w w'
theorem Cj (a h:Nat) (F G O:Nat→Prop) (H:fx) (P:PAg) (x:AV) (q r v:Nat) (T:List E) (gf:Nat) (lb:Array Value) (eg:∀ args w,(callFunc gf args).run Tryz.prog w = .ok (.enter gf args) w) (L:fx×LogS×Option Nat) (w:World)
  (hm:gI w F G O a h H P x) (he:EntAt w q 0 r T) (hq:¬F q∧¬G q) (hr:¬F r∧¬G r∧¬O r) (bo:gZ T H.dp.room H.seen.length=none→s9 gf lb w x F h L) (hn:8≤H.seen.length∧H.seen.length≤1000) (hT:T.length≤100000000) (ca:sizeS T≤4611686018427387904) (br:L.1.dp.S.length≤100000000∧L.1.dp.log.length≤7500000000000∧L.1.dp.room=H.dp.room) (cb:∀ y∈L.1.dp.S,y.1.2.length≤fX) (d1:∀ y∈T,y.1.2.length≤fX∧y.2.length≤fX) :
  Calls Tryz.prog 145 #[.pointer (some ⟨a,0,none⟩),.int .u64 (v:Nat),.pointer (some ⟨q,0,none⟩),.func (.func gf) #[] lb] w (pR w F G O a h H P x r v T L):=by
 obtain ⟨hx,a4⟩:=hm.host
 have ce:=ab (fun (W:World) (hW:Below w.heap.size w W)=>yU q 0 r h hx T W (he.below hW) (a4.dp.row.fP (hW.block h (fw a4.dp.row))) (by omega))
 have ci:=ab (fun (W:World) (hW:Below w.heap.size w W)=>E3 q 0 r T W (he.below hW) ca)
 have cl:=ab (fun (W:World) (hW:Below w.heap.size w W)=>nb h F H W (hm.host.below hW))
 have R:=hm.ag.row
 unfold AV.cells qE at R
 have c3:=ae _ _ 3 _ _ _ R
 have co:=fw R
 have bs:=he.cell
 have c9:=fE bs
 have cp:=ab a4.dp.room
 have u:=ab hm
 have HE:=ab he
 have d2:=ab bo
 have e1:=l7 h
 have e2:=kA h
 clear hm he bo R a4
 unfold qE at ce
 go_enter Tryz.func145,Tryz.ntmps145
 go_wp2
 go_region_held3 (fun w'=>w'.cell? ⟨a,3,none⟩=some (.iface 189 (.agg #[.pointer (some ⟨h,0,none⟩)])))
  (first | exact c3 | exact (i.out.cell (p:=⟨a,3,none⟩) co).trans c3)
  (first | (go_at_call 159;refine (ce.out _ (by first | exact (Below.rf w).drew | exact Below.rf w)).mono ?_;rintro e w1 ⟨rfl,bv⟩;have i:Hid (Below w.heap.size w w1):=ab (by first | exact bv | exact (Below.rf w).drew.tn bv);clear bv))
 cases J:overS T H.dp.room with
 | some t =>
  obtain ⟨o1,-⟩:=AF (S:=T) (room:=hx.room) (t:=t) (by rw [cp.out];exact J)
  rw [o1]
  have D:Hid (gZ T H.dp.room H.seen.length=some (10,t)):=ab (by unfold gZ;rw [J])
  clear J o1
  go_wp2_with fail
  refine (gd 10 t w1).mono ?_
  rintro e w2 ⟨rfl,bw⟩
  have hb:Below w1.heap.size w1 w2:=by rw [bw];exact (Below.rf w1).alloc (af _) _
  have hn:w2.heap[w1.heap.size]?=some (.cells #[.int .i64 10,.int .i64 (t:Nat),.nilIface] 166 (0,0)):=by rw [bw];exact fA w1 _
  have HB:=ab (i.out.tn hb)
  have HN:=ab hn
  clear hb hn bw
  go_wp2
  go_ret
  unfold pR
  rw [D.out]
  exact ⟨_,rfl,i.out.size,HN.out,HB.out⟩
 | none =>
  rw [yg (S:=T) (room:=hx.room) (by rw [cp.out];exact J)]
  have a5:=u.out.below i.out
  have C:=a5.ag.row
  unfold AV.cells qE at C
  have c2:=ae _ _ 2 _ _ _ C
  have U:=a5.ag.log
  unfold LogAt at U
  have l0:=ae _ _ 0 _ _ _ U
  have bz:=fw U
  have bD:=fw C
  have e3:=ab a5
  obtain ⟨n,bH⟩:∃ n,n=H.seen.length:=⟨_,rfl⟩
  have cq:=ab bH
  rw [←bH] at cl hn
  obtain ⟨z,hz⟩:∃ z,z=sizeS T:=⟨_,rfl⟩
  have HZ:=ab hz
  rw [←hz] at ci ca
  have bI:=ab J
  have dk:=(i.out.cell (p:=⟨q,0,none⟩) c9).trans bs
  have en:=fE dk
  clear a5 C U bH hz J c3 bs co
  go_wp2
  go_region_held3 (fun w'=>w'.cell? ⟨a,2,none⟩=some (.pointer (some ⟨x.lg,0,none⟩))∧w'.cell? ⟨x.lg,0,none⟩=some (.iface 188 (.agg #[.pointer (some ⟨h,0,none⟩)])))
   (first | exact ⟨c2,l0⟩ | exact ⟨(o.out.cell (p:=⟨a,2,none⟩) bD).trans c2,(o.out.cell (p:=⟨x.lg,0,none⟩) bz).trans l0⟩)
   (first
    | (go_at_call 105;refine (ci.out _ (by first | exact i.out.tn (Below.rf w1).drew | exact i.out.tn o.out)).mono ?_;rintro e w2 ⟨rfl,I⟩;have o:Hid (Below w1.heap.size w1 w2):=ab (by first | exact (Below.rf w1).drew.tn I | exact o.out.tn I);clear I)
    | (go_at_call 201;refine (cl.out _ (by first | exact i.out.tn (Below.rf w1).drew | exact i.out.tn o.out)).mono ?_;rintro e w2 ⟨rfl,I⟩;have o:Hid (Below w1.heap.size w1 w2):=ab (by first | exact (Below.rf w1).drew.tn I | exact o.out.tn I);clear I))
  all_goals
   rw [show IntKind.i64.wrap ((n:Int)-8)=((n-8:Nat):Int) by rw [show (n:Int)-8=((n-8:Nat):Int) by omega];exact IntWalk.i64_in _ (by omega),show IntKind.i64.wrap (16*((n-8:Nat):Int))=((16*(n-8):Nat):Int) by rw [show 16*((n-8:Nat):Int)=((16*(n-8):Nat):Int) by omega];exact IntWalk.i64_in _ (by omega)]
   obtain ⟨m,bL⟩:∃ m,m=16*(n-8):=⟨_,rfl⟩
   have cr:=ab bL
   rw [←bL]
   have j:=ab (i.out.tn o.out)
   clear bL c2 l0 bz bD
   by_cases a6:m<z
   ·have dl:(m:Int)<(z:Int):=by omega
    have D:Hid (gZ T H.dp.room H.seen.length=some (11,0)):=ab (by unfold gZ;rw [bI.out];simp only;rw [aB (by rw [←cq.out,←cr.out,←HZ.out];exact a6)])
    clear a6
    go_wp2_with fail
    refine (gd 11 0 w2).mono ?_
    rintro e w3 ⟨rfl,bM⟩
    have hb:Below w2.heap.size w2 w3:=by rw [bM];exact (Below.rf w2).alloc (af _) _
    have ak:w3.heap[w2.heap.size]?=some (.cells #[.int .i64 11,.int .i64 0,.nilIface] 166 (0,0)):=by rw [bM];exact fA w2 _
    have HB:=ab (j.out.tn hb)
    have HN:=ab ak
    clear hb ak bM
    go_wp2
    go_ret
    unfold pR
    rw [D.out]
    exact ⟨_,rfl,j.out.size,HN.out,HB.out⟩
   ·have dl:¬(m:Int)<(z:Int):=by omega
    have D:Hid (gZ T H.dp.room H.seen.length=none):=ab (by unfold gZ;rw [bI.out];simp only;rw [au (by rw [←cq.out,←cr.out,←HZ.out];exact a6)])
    clear a6
    go_wp2_with fail
    refine (d2.out D.out w2 j.out).mono ?_
    rintro e w3 ⟨rv,rfl,bN,a7,d6⟩
    obtain ⟨H1,g1,rf⟩:=L
    obtain ⟨X,M,al,N⟩:=d6
    have bO:=u.out.below j.out
    have e4:=j.out.size
    have am:AgAt w3 G O a h {P with lg:=g1} x:=bO.ag.GJ N (fun k hk hD=>hD.elim (fun e=>absurd hk (u.out.fg k e)) id) (fun k hk hD=>hD.elim (fun e=>u.out.fo k e hk) fun e=>u.out.ag.sep x.lg u.out.ag.gin.2.2.1 (e▸hk)) a7
    have Y:Ext (fun k=>F k∨k=x.lg) w w3:=(Ext.fD j.out).trans N
    have a9:∀ k,X k→¬G k:=fun k hk B=>(al k hk).elim (fun e=>u.out.fg k e B) fun e=>by have:=u.out.ag.glt k B;omega
    have ba:∀ k,X k→¬O k:=fun k hk B=>(al k hk).elim (fun e=>u.out.fo k e B) fun e=>by have:=u.out.ag.olt k B;omega
    have bb:∀ k,X k→F k∨w.heap.size≤k:=fun k hk=>(al k hk).imp id fun e=>by omega
    simp only at bN a7 M br cb
    cases rf with
    | some s =>
     obtain ⟨c,rfl,e5,bP⟩:=bN
     have Z:=M.lt
     have cs:gI w3 (fun k=>X k∧k≠c) G O a h H1 {P with lg:=g1} x:=by
      obtain ⟨e6,ds⟩:=M
      exact ⟨⟨_,ds.drop bP⟩,am,fun k hk=>a9 k hk.1,fun k hk=>ba k hk.1⟩
     have d7:=ab cs
     have ap:=ab Y
     have av:=ab (show ∀ k,X k∧k≠c→(F k∨w.heap.size≤k)∧k≠w3.heap.size∧k≠c from fun k hk=>⟨bb k hk.1,fun e=>by have:=Z k hk.1;omega,hk.2⟩)
     have HC:=ab bP
     have d9:=ab (show w.heap.size≤c by omega)
     clear N al bO am Y a9 ba bb M cs Z bP a7
     go_wp2_with fail
     refine (uV c w3).mono ?_
     rintro e w4 ⟨rfl,bS⟩
     have hb:Below w3.heap.size w3 w4:=by rw [bS];exact (Below.rf w3).alloc (af _) _
     have ak:w4.heap[w3.heap.size]?=some (.cells #[.int .i64 12,.int .i64 0,.iface 168 (.pointer (some ⟨c,0,none⟩))] 166 (0,0)):=by rw [bS];exact fA w3 _
     have HB:=ab hb
     have HN:=ab ak
     clear hb ak bS
     go_wp2
     go_ret
     unfold pR
     rw [D.out]
     exact ⟨_,c,_,rfl,ap.out.size,d9.out,HN.out,fy HB.out (fw HC.out) HC.out,d7.out.below HB.out,av.out,ap.out.trans (Ext.fD HB.out)⟩
    | none =>
     obtain rfl:rv = .nilIface:=bN
     have bX:=N.cell (p:=⟨q,0,none⟩) (show ¬(F q∨q=x.lg) from fun e=>e.elim hq.1 fun e=>hq.2 (e▸u.out.ag.gin.2.2.1)) ((j.out.cell (p:=⟨q,0,none⟩) HE.out.lt).trans HE.out.cell)
     have b8:=fE bX
     have ct:=(HE.out.below j.out).tab.fP (N.block r ((HE.out.below j.out).tab.lt) (fun e=>e.elim hr.1 fun e=>hr.2.1 (e▸u.out.ag.gin.2.2.1)))
     have b:=am.row
     unfold AV.cells qE at b
     have c0:=ae _ _ 0 _ _ _ b
     have c1:=ae _ _ 1 _ _ _ b
     have z0:=aj _ _ 0 _ _ b
     have z1:=aj _ _ 1 _ _ b
     have Z:=fw b
     have bc:=ab am
     have bd:=ab ct
     have ec:=ab M
     have ap:=ab Y
     have av:=ab bb
     have b0:=ab a9
     have cu:=ab ba
     clear N al bO am Y a9 ba bb M a7 b ct
     go_wp2
     have Q:Ext (fun k=>k=a) w3 ((w3.setCell ⟨a,0,none⟩ (.map (some r))).setCell ⟨a,1,none⟩ (.int .u64 (v:Nat))):=((Ext.refl (fun k=>k=a) w3).setCell ⟨a,0,none⟩ _ (.inl rfl)).setCell ⟨a,1,none⟩ _ (.inl rfl)
     have bi:((w3.setCell ⟨a,0,none⟩ (.map (some r))).setCell ⟨a,1,none⟩ (.int .u64 (v:Nat))).heap[a]?=some (.cells (AV.cells {x with r:=r} v h) 117 (0,0)):=heap_setCell _ _ 1 _ (heap_setCell _ _ 0 _ bc.out.row)
     generalize (w3.setCell ⟨a,0,none⟩ (.map (some r))).setCell ⟨a,1,none⟩ (.int .u64 (v:Nat))=W1 at Q bi⊢
     have aE:=bc.out.GZ (v:=v) (T:=T) Q bi bd.out hr.2.2
     have a1:¬X a:=fun e=>b0.out a e bc.out.gin.1
     have cv:=ec.out.ext Q (fun k hk e=>a1 (e▸hk))
     have eV:=cv.lt
     obtain ⟨bk,d⟩:=cv
     have er:r<w.heap.size:=HE.out.tab.lt
     have a2:¬X r:=fun e=>(av.out r e).elim hr.1 fun e=>by omega
     obtain ⟨f1,f2,f3⟩:=d.foot
     have l:=bi
     unfold AV.cells qE at l
     have d0:=ae _ _ 0 _ _ _ l
     have d3:=ae _ _ 3 _ _ _ l
     have e0:=fw l
     have cB:=ab (wI 0 a 0 r h bk H1.dp T W1.drew ⟨d0,(bd.out.fP (Q.block _ bd.out.lt fun e=>bd.out.jC bc.out.row e.symm)).fP rfl⟩ ⟨d.dp.row,d.dp.left,d.dp.dead,d.dp.room,d.dp.tab.fP rfl,d.dp.own.below ((Below.rf W1).drew),d.dp.ltyp,d.dp.lo,d.dp.lb⟩ hT br.1 br.2.1 cb d1 (aK _) (fun e=>a1 (e▸f1)) (fun e=>a1 (f3 a e)) (fun e=>a2 (e▸f2)))
     have ed:=ab d
     have c4:=ab Q
     have b2:=ab aE
     have dv:=ab (show ∀ k,(k=h∨k=bk.r∨bk.log.ownBlock=some k)→X k from fun k e=>by
      rcases e with e | e | e
      ·rw [e];exact f1
      ·rw [e];exact f2
      ·exact f3 k e)
     clear Q bi aE d f1 f2 f3 l c0 c1 z0 z1 Z bX b8
     unfold qE at cB
     go_still_tail 7,(by kernel_rfl)
     go_wp2_with fail
     refine cB.out.mono ?_
     rintro e w5 ⟨rfl,c5⟩
     have a3:lB W1 0 h bk (H1.dp.run (iQ H1.dp.S T)) w5:=lB.fS ((Below.rf W1).drew) c5
     obtain ⟨F5,c6,bl,-⟩:=ed.out.brought a3
     have b3:Ext (fun k=>X k) W1 w5:=a3.2.mono dv.out
     have b4:=b2.out.olt
     have b5:=b2.out.glt
     have c7:gI w5 F5 (fun k=>G k∨k=r) O a h (H1.lY T) ⟨{P.a with V:=v,T:=T},P.sec,g1⟩ {x with r:=r} := by
      refine ⟨c6,b2.out.frame b3 (fun k hk e => ?_) (fun k hk e=>cu.out k e hk),fun k hk B => ?_,fun k hk hO => ?_⟩
      ·rcases hk with hk | hk
       ·exact b0.out k e hk
       ·exact a2 (hk▸e)
      ·rcases bl k hk with e | e
       ·rcases B with B | B
        ·exact b0.out k e B
        ·exact a2 (B▸e)
       ·have:=b5 k B;omega
      ·rcases bl k hk with e | e
       ·exact cu.out k e hO
       ·have:=b4 k hO;omega
     have ej:=ab c7
     have el:=ab (show ∀ k,F5 k→F k∨w.heap.size≤k from fun k hk=>(bl k hk).elim (av.out k) fun e => .inr (by have:=ap.out.size;have:=c4.out.size;omega))
     have em:=ab (show Ext (fun k=>F k∨k=x.lg∨k=a) w w5 from ((ap.out.mono fun k e=>e.imp id .inl).trans (c4.out.mono fun k e => .inr (.inr e))).trans' b3 fun k e=>(av.out k e).imp .inl id)
     clear c5 a3 c6 bl b3 b4 b5 c7
     go_wp2
     go_ret
     unfold pR
     rw [D.out]
     exact ⟨_,rfl,ej.out,el.out,em.out⟩
theorem gI.qI {w w':World} {F G O:Nat→Prop} {a h:Nat} {H:fx} {P:PAg} {x:AV} (hm:gI w F G O a h H P x) (B b:Nat) (f:Nat×Nat) (s:Nat) (d:Ext (fun k=>k=a) w w') (j:w'.heap[a]?=some (.cells (AV.cells {x with fp := .pointer (some ⟨b,0,none⟩)} P.a.V h) 117 (0,0)))
  (i:B≤b∧¬F b∧¬O b) (o:(f.1≠12∧w.heap[b]?=some (.cells #[.int .i64 (f.1:Nat),.int .i64 (f.2:Nat),.nilIface] 166 (0,0)))∨(f.1=12∧∃ c,(B≤c∧¬F c∧¬O c)∧w.heap[b]?=some (.cells #[.int .i64 (f.1:Nat),.int .i64 (f.2:Nat),.iface 168 (.pointer (some ⟨c,0,none⟩))] 166 (0,0))∧w.heap[c]?=some (.cells #[.int .i64 ((s:Int)-2)] 171 (0,0)))) :
  gI w' F (fun k=>G k∨(B≤k∧k<w.heap.size∧¬F k∧¬O k)) O a h H ⟨{P.a with deg:=some f},s,P.lg⟩ {x with fp := .pointer (some ⟨b,0,none⟩)} := by
 have l:=hm.ag.row
 have m:∀ k,F k→k≠a:=fun k hk e=>hm.fg k hk (e▸hm.ag.gin.1)
 refine ⟨hm.host.ext d fun k hk e=>m k hk e,hm.ag.nE d j rfl rfl rfl rfl rfl rfl (fun k => .inl) (fun k hk => ?_) ?_ ((hm.ag.wN d).mono fun _ => .inl),fun k hk q=>q.elim (hm.fg k hk) fun e=>e.2.2.1 hk,hm.fo⟩
 ·rcases hk with hk | hk
  ·exact ⟨ay (hm.ag.glt k hk) d.size,hm.ag.sep k hk⟩
  ·exact ⟨ay hk.2.1 d.size,hk.2.2.2⟩
 ·have ha:∀ (k:Nat) (C:Array Value) (T:TypeId) (fz:Nat×Nat),w.heap[k]?=some (Obj.cells C T fz)→T≠117→w'.heap[k]?=some (Obj.cells C T fz):=fun k C T fz hk r=>d.at (fun e=>ij hk l r e) hk
  rcases o with ⟨h1,h2⟩ | ⟨h1,c,hc,h2,h3⟩
  ·exact ⟨b,rfl,.inr ⟨i.1,fw h2,i.2⟩,.inl ⟨h1,ha _ _ _ _ h2 (by decide)⟩⟩
  ·exact ⟨b,rfl,.inr ⟨i.1,fw h2,i.2⟩,.inr ⟨h1,c,.inr ⟨hc.1,fw h3,hc.2⟩,ha _ _ _ _ h2 (by decide),ha _ _ _ _ h3 (by decide)⟩⟩
theorem zK {T:List E} {room:Nat→Int} {n:Nat} {f:Nat×Nat} (h:gZ T room n=some f):f.1≠12∧f.1<256:=by
 unfold gZ at h
 split at h
 ·cases h;simp
 ·split at h
  ·cases h;simp
  ·cases h
def ni (H:fx) (P:PAg) (v:Nat) (T:List E) (L:fx×LogS×Option Nat):fx×PAg :=
 match gZ T H.dp.room H.seen.length,L with
 | some f,_=>(H,{P with a:=P.a.stops f,sec:=0})
 | none,(H1,g1,some s)=>(H1,⟨P.a.stops (12,0),s,g1⟩)
 | none,(H1,g1,none)=>(H1.lY T,⟨AgA.lu {P.a with V:=v,T:=T},P.sec,g1⟩)
theorem gI.nT {w w1 w':World} {j d i M:Nat→Prop} {a h:Nat} {H1:fx} {o P':PAg} {l:AV} (b:gI w1 j d i a h H1 o l) (q:∀ k,j k∨d k∨i k→M k∨w.heap.size≤k) (m:Ext M w w1) (r:jK w1 d i a h P' l w'):jM w M a h H1 P' w':=by
 obtain ⟨s,h1,h2,h3⟩:=oz.E5 (M:=fun k=>M k∨w.heap.size≤k) b q (r.go b.ag.gin.2.2.2)
 exact ⟨s,h1,fun k hk=>(h2 k hk).elim id fun e => .inr (aH m.size e),m.trans' h3 fun k hk=>hk⟩
theorem tY (a h:Nat) (F G O M:Nat→Prop) (H:fx) (P:PAg) (x:AV) (q r v:Nat) (T:List E) (gf:Nat) (lb:Array Value) (eg:∀ args w,(callFunc gf args).run Tryz.prog w = .ok (.enter gf args) w) (L:fx×LogS×Option Nat) (w:World)
  (hm:gI w F G O a h H P x) (hM:∀ k,F k∨G k∨O k→M k) (he:EntAt w q 0 r T) (hq:¬F q∧¬G q) (hr:¬F r∧¬G r∧¬O r) (ak:gZ T H.dp.room H.seen.length=none→s9 gf lb w x F h L) (hn:8≤H.seen.length∧H.seen.length≤1000) (hT:T.length≤100000000) (bi:sizeS T≤4611686018427387904) (bk:L.1.dp.S.length≤100000000∧L.1.dp.log.length≤7500000000000∧L.1.dp.room=H.dp.room) (bl:∀ y∈L.1.dp.S,y.1.2.length≤fX) (bn:∀ y∈T,y.1.2.length≤fX∧y.2.length≤fX)
  (a5:P.a.deg=none) (hv:v<18446744073709551616) :
  Calls Tryz.prog 117 #[.pointer (some ⟨a,0,none⟩),.int .u64 (v:Nat),.pointer (some ⟨q,0,none⟩),.func (.func gf) #[] lb] w fun e w'=>e = .returned (.tuple #[])∧jM w (fun k=>M k∨k=r) a h (ni H P v T L).1 (ni H P v T L).2 w':=by
 have bo:=ab (Cj a h F G O H P x q r v T gf lb eg L w hm he hq hr ak hn hT bi bk bl bn)
 have HM:=ab hm
 have l:=ab hM
 have al:x.fp = .pointer none:=by
  have:=hm.ag.flt
  rw [a5] at this
  exact this
 obtain ⟨R,hR⟩:∃ R,R=ni H P v T L:=⟨_,rfl⟩
 have HR:=ab hR
 rw [←hR]
 clear hm hM he ak hR
 go_enter Tryz.func117,Tryz.ntmps117
 go_wp2_with fail
 refine bo.out.mono ?_
 rintro e w1 Q
 unfold pR at Q
 cases B:gZ T H.dp.room H.seen.length with
 | some f =>
  rw [B] at Q
  have U:=ab B
  obtain ⟨b,rfl,am,u,ap⟩:=Q
  have i:=HM.out.below ap
  have d:=i.ag.row
  have a9:=u
  obtain ⟨br,ba⟩:=zK B
  unfold AV.cells at d
  have c5:=ae _ _ 5 _ _ _ d
  have z5:=aj _ _ 5 _ _ d
  have a3:=fw d
  have m:Ext (fun k=>k=a) w1 (w1.setCell ⟨a,5,none⟩ (.pointer (some ⟨b,0,none⟩))):=(Ext.refl (fun k=>k=a) w1).setCell ⟨a,5,none⟩ _ (.inl rfl)
  have o:(w1.setCell ⟨a,5,none⟩ (.pointer (some ⟨b,0,none⟩))).heap[a]?=some (.cells (AV.cells {x with fp := .pointer (some ⟨b,0,none⟩)} P.a.V h) 117 (0,0)):=heap_setCell _ _ 5 _ i.ag.row
  have C:=i.qI w.heap.size b f 0 m o ⟨am,fun e=>by have:=HM.out.host.lt b e;omega,fun e=>by have:=HM.out.ag.olt b e;omega⟩ (.inl ⟨br,u⟩)
  have av:b≠a:=ij u i.ag.row (by decide)
  have I:=m.at (fun e=>av e) u
  have f0:=ae _ _ 0 _ _ _ I
  have j:=o
  unfold AV.cells at j
  have e5:=ae _ _ 5 _ _ _ j
  have bc:=fw I
  have aE:=fw j
  have D:=ab C
  have W:=ab ((Ext.fD ap).trans (m.mono fun k e=>(.inl (l.out k (.inr (.inl (e▸HM.out.ag.gin.1)))):M k∨k=r)):Ext (fun k=>M k∨k=r) w _)
  clear i d u a9 ap m o C j I
  go_wp2_with fail
  refine (kK a h f.1 _ _ _ _ _ D.out.ag ba).mono ?_
  rintro e w3 ⟨rfl,X⟩
  have HG:=ab (gI.nT (M:=fun k=>M k∨k=r) D.out (fun k hk=>by
   rcases hk with hk | (hk | hk) | hk
   ·exact .inl (.inl (l.out k (.inl hk)))
   ·exact .inl (.inl (l.out k (.inr (.inl hk))))
   ·exact .inr hk.1
   ·exact .inl (.inl (l.out k (.inr (.inr hk))))) W.out X)
  have Y:Hid (R=(H,{P with a:=P.a.stops f,sec:=0})):=ab (by rw [HR.out];unfold ni;rw [U.out])
  clear X
  go_wp2
  refine aI (dA rfl _ _ _) rfl ?_
  refine ⟨rfl,?_⟩
  rw [Y.out]
  exact HG.out
 | none =>
  rw [B] at Q
  have U:=ab B
  clear B
  obtain ⟨H1,g1,rf⟩:=L
  cases rf with
  | some s =>
   obtain ⟨b,c,F',rfl,am,bs,u,a4,i,J,Z⟩:=Q
   have d:=i.ag.row
   unfold AV.cells at d
   have c5:=ae _ _ 5 _ _ _ d
   have z5:=aj _ _ 5 _ _ d
   have a3:=fw d
   have m:Ext (fun k=>k=a) w1 (w1.setCell ⟨a,5,none⟩ (.pointer (some ⟨b,0,none⟩))):=(Ext.refl (fun k=>k=a) w1).setCell ⟨a,5,none⟩ _ (.inl rfl)
   have o:(w1.setCell ⟨a,5,none⟩ (.pointer (some ⟨b,0,none⟩))).heap[a]?=some (.cells (AV.cells {x with fp := .pointer (some ⟨b,0,none⟩)} P.a.V h) 117 (0,0)):=heap_setCell _ _ 5 _ i.ag.row
   have a1:=HM.out.ag.olt
   have C:=i.qI w.heap.size b (12,0) s m o ⟨am,fun e=>(J b e).2.1 rfl,fun e=>by have:=a1 b e;omega⟩ (.inr ⟨rfl,c,⟨bs,fun e=>(J c e).2.2 rfl,fun e=>by have:=a1 c e;omega⟩,u,a4⟩)
   have av:b≠a:=ij u i.ag.row (by decide)
   have I:=m.at (fun e=>av e) u
   have f0:=ae _ _ 0 _ _ _ I
   have j:=o
   unfold AV.cells at j
   have e5:=ae _ _ 5 _ _ _ j
   have bc:=fw I
   have aE:=fw j
   have D:=ab C
   have N:=HM.out.ag.gin
   have W:=ab (((Z.mono fun k e=>by
    rcases e with e | e
    ·exact .inl (l.out k (.inl e))
    ·exact .inl (l.out k (.inr (.inl (e▸N.2.2.1))))).trans (m.mono fun k e=>(.inl (l.out k (.inr (.inl (e▸N.1)))):M k∨k=r))):Ext (fun k=>M k∨k=r) w _)
   have a2:=ab J
   clear i d u a4 Z m o C j I J
   go_wp2_with fail
   refine (kK a h 12 _ _ _ _ _ D.out.ag (by omega)).mono ?_
   rintro e w3 ⟨rfl,X⟩
   have HG:=ab (gI.nT (M:=fun k=>M k∨k=r) D.out (fun k hk=>by
    rcases hk with hk | (hk | hk) | hk
    ·exact (a2.out k hk).1.imp (fun e => .inl (l.out k (.inl e))) id
    ·exact .inl (.inl (l.out k (.inr (.inl hk))))
    ·exact .inr hk.1
    ·exact .inl (.inl (l.out k (.inr (.inr hk))))) W.out X)
   have Y:Hid (R=(H1,⟨P.a.stops (12,0),s,g1⟩)):=ab (by rw [HR.out];unfold ni;rw [U.out])
   clear X
   go_wp2
   refine aI (dA rfl _ _ _) rfl ?_
   refine ⟨rfl,?_⟩
   rw [Y.out]
   exact HG.out
  | none =>
   obtain ⟨F',rfl,i,J,Z⟩:=Q
   have d:=i.ag.row
   unfold AV.cells at d
   have c5:=ae _ _ 5 _ _ _ d
   have z5:=aj _ _ 5 _ _ d
   have a3:=fw d
   have m:Ext (fun k=>k=a) w1 (w1.setCell ⟨a,5,none⟩ (.pointer none)):=(Ext.refl (fun k=>k=a) w1).setCell ⟨a,5,none⟩ _ (.inl rfl)
   have o:(w1.setCell ⟨a,5,none⟩ (.pointer none)).heap[a]?=some (.cells (AV.cells {x with r:=r} v h) 117 (0,0)):=by
    have h1:=heap_setCell _ _ 5 (.pointer none) i.ag.row
    have e:(AV.cells {x with r:=r} v h).setIfInBounds 5 (.pointer none)=AV.cells {x with r:=r} v h:=by
     unfold AV.cells
     simp only [al]
     rfl
    exact h1.trans (bG (fun z=>some (Obj.cells z 117 (0,0))) e)
   have N:=HM.out.ag.gin
   have C:gI (w1.setCell ⟨a,5,none⟩ (.pointer none)) F' (fun k=>G k∨k=r) O a h (H1.lY T) ⟨{P.a with V:=v,T:=T},P.sec,g1⟩ {x with r:=r} := by
    refine ⟨i.host.ext m fun k hk e=>i.fg k hk (.inl (e▸N.1)),i.ag.nE m o rfl rfl rfl rfl rfl rfl (fun _=>id) (fun k hk=>⟨ay (i.ag.glt k hk) m.size,i.ag.sep k hk⟩) (i.ag.td m) (i.ag.wN m),i.fg,i.fo⟩
   have j:=o
   unfold AV.cells at j
   have e5:=ae _ _ 5 _ _ _ j
   rw [al] at e5
   have aE:=fw j
   have D:=ab C
   have W:=ab (((Z.mono fun k e=>by
    rcases e with e | e | e
    ·exact .inl (l.out k (.inl e))
    ·exact .inl (l.out k (.inr (.inl (e▸N.2.2.1))))
    ·exact .inl (l.out k (.inr (.inl (e▸N.1))))).trans (m.mono fun k e=>(.inl (l.out k (.inr (.inl (e▸N.1)))):M k∨k=r))):Ext (fun k=>M k∨k=r) w _)
   have a2:=ab J
   clear i d Z m o C j J
   go_wp2_with fail
   refine (om a h _ _ _ _ _ D.out.ag hv).mono ?_
   rintro e w3 ⟨rfl,X⟩
   have HG:=ab (gI.nT (M:=fun k=>M k∨k=r) D.out (fun k hk=>by
    rcases hk with hk | (hk | hk) | hk
    ·exact (a2.out k hk).imp (fun e => .inl (l.out k (.inl e))) id
    ·exact .inl (.inl (l.out k (.inr (.inl hk))))
    ·exact .inl (.inr hk)
    ·exact .inl (.inl (l.out k (.inr (.inr hk))))) W.out X)
   have Y:Hid (R=(H1.lY T,⟨AgA.lu {P.a with V:=v,T:=T},P.sec,g1⟩)):=ab (by rw [HR.out];unfold ni;rw [U.out])
   clear X
   go_wp2
   go_end0
   refine ⟨rfl,?_⟩
   rw [Y.out]
   exact HG.out
end Go.Proofs.YtkkfmkhbdoeglaaGreatDoor
namespace Go.Proofs.YtkkfmkhbdoeglaaGreatDoor
structure WInv (n:Nat) (l:List Int) (s:Nat) (H:fx) (P:Option PAg) (a:AgA) (maybe:List (Nat×List E)) (ever:List E) (armed:Bool):Prop where
 may:May n H s fun v T=>(v,T)∈maybe
 tabs:∀ m∈maybe,TabOk n (roomN l) m.1 m.2
 uniq:∀ m∈maybe,∀ k∈maybe,m.1=k.1→m=k
 everT:∀ m∈maybe,∀ x∈m.2,x∈ever
 everD:∀ x∈H.dp.S,x∈ever
 sorted:SortedE H.dp.S
 room:H.dp.room=roomN l
 arm:0≤H.fail→armed=true
 self:(a.V,a.T)∈maybe
 up:∀ p,P=some p→H.dp.dead=false→p.a=a∧p.lg.stamp≤s∧H.dp.S=a.T∧(a.deg=none→UpAg n l H p∧maybe=[(a.V,a.T)]∧p.sec=0)∧(∀ f,a.deg=some f→(f.1=12↔1≤p.sec))
theorem WInv.mono {n:Nat} {l:List Int} {s t:Nat} {H:fx} {P:Option PAg} {a:AgA} {maybe:List (Nat×List E)} {ever ever':List E} {armed:Bool} (h:WInv n l s H P a maybe ever armed) (hs:s≤t) (he:∀ x∈ever,x∈ever'):WInv n l t H P a maybe ever' armed :=
 ⟨h.may.mono hs fun _ _ h=>h,h.tabs,h.uniq,fun m hm x b=>he x (h.everT m hm x b),fun x b=>he x (h.everD x b),h.sorted,h.room,h.arm,h.self,fun p d hd=>by
  obtain ⟨h1,h2,h3⟩:=h.up p d hd
  exact ⟨h1,by omega,h3⟩⟩
theorem DiskUp.writes {n:Nat} {H:fx} {g:LogS} {v:Nat} {T:List E} (h:DiskUp n H g v T) (k:Int) (b:Int) (d:Int) (lg:List (List UInt8)):DiskUp n {H with writes:=k,fail:=d,dp := {H.dp with left:=b,log:=lg}} g v T:=⟨h.seen,h.late,h.len,h.stamps,h.inv,h.next,h.dead⟩
theorem UpAg.nE {n:Nat} {l:List Int} {H:fx} {P:PAg} (h:UpAg n l H P) (k:Int) (b:Int) (d:Int) (lg:List (List UInt8)):UpAg n l {H with writes:=k,fail:=d,dp := {H.dp with left:=b,log:=lg}} P:=⟨h.disk.writes k b d lg,h.dpS,h.room,h.tab,h.deg⟩
theorem WInv.nE {n:Nat} {l:List Int} {s:Nat} {H:fx} {P:Option PAg} {a:AgA} {maybe:List (Nat×List E)} {ever:List E} {armed:Bool} (h:WInv n l s H P a maybe ever armed) (k i d:Int) (lg:List (List UInt8)) (b:Bool) (ha:0≤d→b=true):WInv n l s {H with writes:=k,fail:=d,dp := {H.dp with left:=i,log:=lg}} P a maybe ever b :=
 ⟨h.may,h.tabs,h.uniq,h.everT,h.everD,h.sorted,h.room,ha,h.self,fun p j hd=>by
  obtain ⟨h1,h2,h3,h5,h6⟩:=h.up p j hd
  exact ⟨h1,h2,h3,fun e=>⟨(h5 e).1.nE k i d lg,(h5 e).2⟩,h6⟩⟩
theorem WInv.own {n:Nat} {l:List Int} {s:Nat} {H:fx} {p:PAg} {a a1:AgA} {maybe:List (Nat×List E)} {ever:List E} {armed:Bool} (h:WInv n l s H (some p) a maybe ever armed) (h1:a1.V=a.V) (h2:a1.T=a.T) (h3:a1.deg=a.deg):WInv n l s H (some {p with a:=a1}) a1 maybe ever armed :=
 ⟨h.may,h.tabs,h.uniq,h.everT,h.everD,h.sorted,h.room,h.arm,by rw [h1,h2];exact h.self,fun q hq hd=>by
  cases hq
  obtain ⟨g1,g2,g3,g5,g6⟩:=h.up p rfl hd
  refine ⟨rfl,g2,by rw [h2];exact g3,fun e => ?_,fun f e=>g6 f (by rw [←h3];exact e)⟩
  obtain ⟨u,u2,u3⟩:=g5 (by rw [←h3];exact e)
  have u1:=u.disk
  rw [g1,←h1,←h2] at u1
  have ut:=u.tab
  rw [g1,←h1,←h2] at ut
  exact ⟨⟨u1,by rw [h2];exact g3,u.room,ut,e⟩,by rw [h1,h2];exact u2,u3⟩⟩
theorem WInv.G5 {n:Nat} {l:List Int} {s:Nat} {H:fx} {p:PAg} {a a1:AgA} {maybe:List (Nat×List E)} {ever:List E} {armed:Bool} {frame:List UInt8} (h:WInv n l s H (some p) a maybe ever armed) (hd:H.dp.dead=false) (b:a.taken frame=(a1,none)) :
  iO H p frame=(H,{p with a:=a1})∧WInv n l s H (some {p with a:=a1}) a1 maybe ever armed:=by
 obtain ⟨g1,-⟩:=h.up p rfl hd
 obtain ⟨h1,h2,h3⟩:=uX b
 refine ⟨?_,h.own h1 h2 h3⟩
 unfold iO
 rw [g1,b]
theorem WInv.full {n:Nat} {l:List Int} {s:Nat} {H:fx} {p:PAg} {a a1:AgA} {maybe:List (Nat×List E)} {ever:List E} {armed:Bool} {frame:List UInt8} {tk:gS} {f:Nat×Nat} (h:WInv n l s H (some p) a maybe ever armed) (hd:H.dp.dead=false) (i:a.taken frame=(a1,some tk)) (hl:gZ (tk.T a1.T) (roomN l) n=some f) :
  iO H p frame=(H,⟨a1.stops f,0,p.lg⟩)∧a1.takes tk (roomN l) n=a1.stops f∧a1.done tk (roomN l) n=[]∧WInv n l s H (some ⟨a1.stops f,0,p.lg⟩) (a1.stops f) maybe ever armed:=by
 obtain ⟨g1,g2,g3,g5,g6⟩:=h.up p rfl hd
 have b:=h.tabs _ h.self
 obtain ⟨t1,t2,t3,t4,t5,t6⟩:=oJ i b.sorted b.good p.sec p.lg
 obtain ⟨u,u2,u3⟩:=g5 t1
 have hlen:H.seen.length=n:=by rw [u.disk.seen,u.disk.len]
 have d:f.1≠12:=by
  unfold gZ at hl
  split at hl
  ·cases hl
   show (10:Nat)≠12
   decide
  ·split at hl
   ·cases hl
    show (11:Nat)≠12
    decide
   ·cases hl
 obtain ⟨j,o,m⟩:=iS {a1 with deg:=some f} 18 [UInt8.ofNat f.1]
 refine ⟨?_,?_,?_,?_⟩
 ·unfold iO
  rw [g1,i]
  simp only
  unfold jB
  simp only [h.room,hlen,hl]
 ·unfold AgA.takes;rw [hl]
 ·unfold AgA.done;rw [hl]
 ·refine ⟨h.may,h.tabs,h.uniq,h.everT,h.everD,h.sorted,h.room,h.arm,?_,fun q hq hd => ?_⟩
  ·rw [show (a1.stops f).V=a.V from o.trans t2,show (a1.stops f).T=a.T from m.trans t3]
   exact h.self
  ·cases hq
   refine ⟨rfl,g2,g3.trans ((show (a1.stops f).T=a.T from m.trans t3)).symm,fun e => ?_,fun k e => ?_⟩
   ·rw [show (a1.stops f).deg=some f from j] at e
    cases e
   ·rw [show (a1.stops f).deg=some f from j] at e
    cases e
    exact ⟨fun e=>absurd e d,fun (e:1≤0)=>by omega⟩
theorem WInv.takes {n:Nat} {l:List Int} {s:Nat} {H:fx} {p:PAg} {a a1:AgA} {maybe:List (Nat×List E)} {ever ever':List E} {armed:Bool} {frame:List UInt8} {tk:gS} (h:WInv n l s H (some p) a maybe ever armed) (hn:32≤n∧n≤128) (hs:s+2<18446744073709551616) (hd:H.dp.dead=false) (X:a.taken frame=(a1,some tk)) (hl:gZ (tk.T a1.T) (roomN l) n=none)
  (he:∀ x,x∈ever∨x∈tk.T a1.T→x∈ever') :
  ∃ H' d,iO H p frame=(H',d)∧(a1.takes tk (roomN l) n).deg=none∧
   (H'.dp.dead=true→WInv n l (s+2) H' (some d) a1 [(a1.V,a1.T),((a1.takes tk (roomN l) n).V,(a1.takes tk (roomN l) n).T)] ever' armed∧∀ x∈H'.dp.S,x∈ever')∧
   (H'.dp.dead=false→
    (d.a=a1.takes tk (roomN l) n∧d.sec=0∧H'.dp.log=H.dp.log++a1.done tk (roomN l) n∧WInv n l (s+2) H' (some d) (a1.takes tk (roomN l) n) [((a1.takes tk (roomN l) n).V,(a1.takes tk (roomN l) n).T)] ever' armed)∨
    (d.a=a1.stops (12,0)∧1≤d.sec∧armed=true∧H'.dp.log=H.dp.log∧WInv n l (s+2) H' (some d) (a1.stops (12,0)) [(a1.V,a1.T),((a1.takes tk (roomN l) n).V,(a1.takes tk (roomN l) n).T)] ever' armed)):=by
 obtain ⟨g1,g2,g3,g5,g6⟩:=h.up p rfl hd
 have B:=h.tabs _ h.self
 obtain ⟨t1,t2,t3,t4,t5,t6⟩:=oJ X B.sorted B.good p.sec p.lg
 obtain ⟨u,u2,u3⟩:=g5 t1
 have hu:UpAg n l H {p with a:=a1} := by
  have u1:=u.disk
  rw [g1,←t2,←t3] at u1
  have ut:=u.tab
  rw [g1,←t2,←t3] at ut
  exact ⟨u1,by rw [t3];exact g3,u.room,ut,t4.trans t1⟩
 obtain ⟨C,Q⟩:=t6.tab hu hl
 have Q:a1.V<tk.V:=Q
 have C:TabOk n (roomN l) tk.V (tk.T a1.T):=C
 have k:=zM hu hn (by show p.lg.stamp+2<_;omega) t6 hl
 have R:iO H p frame=jB H {p with a:=a1} tk:=by
  unfold iO
  rw [g1,X]
 rw [R]
 generalize jB H {p with a:=a1} tk=q at *
 obtain ⟨H',d⟩:=q
 obtain ⟨Y,D,G,I,Z,J,k7⟩:=k
 simp only at Y D G I Z J k7
 have U:a1.takes tk (roomN l) n=AgA.lu {a1 with V:=tk.V,T:=tk.T a1.T} := by unfold AgA.takes;rw [hl]
 obtain ⟨p1,p2,p3⟩:=iS {a1 with V:=tk.V,T:=tk.T a1.T} 17 (j4 tk.V)
 have M:(a1.takes tk (roomN l) n).V=tk.V:=by rw [U];exact p2
 have N:(a1.takes tk (roomN l) n).T=tk.T a1.T:=by rw [U];exact p3
 have eD:(a1.takes tk (roomN l) n).deg=none:=by rw [U];exact p1.trans (t4.trans t1)
 have ak:TabOk n (roomN l) a1.V a1.T:=hu.tab
 have i:∀ x,x∈a1.T∨x∈tk.T a1.T→x∈ever':=fun x b=>he x (b.imp (fun b=>h.everT _ h.self x (by rw [←t3];exact b)) id)
 have j:∀ m∈[(a1.V,a1.T),((a1.takes tk (roomN l) n).V,(a1.takes tk (roomN l) n).T)],TabOk n (roomN l) m.1 m.2:=fun m hm=>by
  rw [M,N] at hm
  rcases aT.1 hm with rfl | hm
  ·exact ak
  ·rw [aA.1 hm];exact C
 have y:∀ m∈[(a1.V,a1.T),((a1.takes tk (roomN l) n).V,(a1.takes tk (roomN l) n).T)],∀ k∈[(a1.V,a1.T),((a1.takes tk (roomN l) n).V,(a1.takes tk (roomN l) n).T)],m.1=k.1→m=k:=fun m hm k hk e=>by
  rw [M,N] at hm hk
  rcases aT.1 hm with rfl | hm <;> rcases aT.1 hk with rfl | hk
  ·rfl
  ·rw [aA.1 hk] at e⊢
   simp only at e
   omega
  ·rw [aA.1 hm] at e⊢
   simp only at e
   omega
  ·rw [aA.1 hm,aA.1 hk]
 have o:∀ m∈[(a1.V,a1.T),((a1.takes tk (roomN l) n).V,(a1.takes tk (roomN l) n).T)],∀ x∈m.2,x∈ever':=fun m hm x b=>by
  rw [M,N] at hm
  rcases aT.1 hm with rfl | hm
  ·exact i x (.inl b)
  ·rw [aA.1 hm] at b;exact i x (.inr b)
 have F:May n H' (s+2) fun v T=>(v,T)∈[(a1.V,a1.T),((a1.takes tk (roomN l) n).V,(a1.takes tk (roomN l) n).T)]:=Y.mono (by show p.lg.stamp+2≤s+2;omega) fun v T hc=>by
  rw [M,N]
  rcases hc with ⟨rfl,rfl⟩ | ⟨rfl,rfl⟩
  ·exact cc
  ·exact aR _ (aA.2 rfl)
 have r:0≤H'.fail→armed=true:=fun e=>h.arm (Z e)
 refine ⟨H',d,rfl,eD,fun hdd=>⟨⟨F,j,y,o,fun x b=>i x (D x b),G,I,r,cc,fun q hq e => ?_⟩,fun x b=>i x (D x b)⟩,fun hdd => ?_⟩
 ·rw [hdd] at e;cases e
 ·rcases k7 hdd with ⟨r1,r2,O,W⟩ | ⟨r1,r2,O,W,r5⟩
  ·left
   refine ⟨r2,O.trans u3,W,⟨?_,?_,?_,?_,fun x b=>i x (D x b),G,I,r,cc,fun q hq _ => ?_⟩⟩
   ·refine (r1.disk.may.mono (t:=s+2) (by have:d.lg.stamp≤p.lg.stamp+2:=J;omega) fun v T hc => ?_)
    rw [aA,hc.1,hc.2,r2]
   ·exact fun m hm=>j m (by rw [aA.1 hm];exact aR _ (aA.2 rfl))
   ·exact fun m hm k hk _=>by rw [aA.1 hm,aA.1 hk]
   ·exact fun m hm=>o m (by rw [aA.1 hm];exact aR _ (aA.2 rfl))
   ·cases hq
    refine ⟨r2,by have:d.lg.stamp≤p.lg.stamp+2:=J;omega,r1.dpS.trans (by rw [r2]),fun _=>⟨r1,rfl,O.trans u3⟩,fun f e => ?_⟩
    rw [eD] at e
    cases e
  ·right
   obtain ⟨q1,q2,q3⟩:=iS {a1 with deg:=some (12,0)} 18 [UInt8.ofNat 12]
   have eS:((a1.stops (12,0)).V,(a1.stops (12,0)).T)=(a1.V,a1.T):=Prod.ext q2 q3
   refine ⟨r1,r2,h.arm O,r5,⟨F,j,y,o,fun x b=>i x (D x b),G,I,r,by rw [eS];exact cc,fun q hq _ => ?_⟩⟩
   cases hq
   refine ⟨r1,by have:d.lg.stamp≤p.lg.stamp+2:=J;omega,W.trans q3.symm,fun e => ?_,fun f e => ?_⟩
   ·rw [show (a1.stops (12,0)).deg=some (12,0) from q1] at e
    cases e
   ·rw [show (a1.stops (12,0)).deg=some (12,0) from q1] at e
    cases e
    exact ⟨fun _=>r2,fun _=>rfl⟩
theorem WInv.qG {n:Nat} {l:List Int} {s:Nat} {H:fx} {P:Option PAg} {a:AgA} {maybe:List (Nat×List E)} {ever:List E} {armed:Bool} (h:WInv n l s H P a maybe ever armed) (mask cut fail:Int) :
  (∃ H' f,gO (H.again mask cut fail)=(H',.inr (12,0,f))∧1≤f∧0≤fail∧WInv n l s H' none a maybe ever (decide (0≤fail))∧∀ x∈H'.dp.S,x∈ever)∨
  (∃ H' p v T,gO (H.again mask cut fail)=(H',.inl p)∧(v,T)∈maybe∧p.a=begunA v T∧(∀ x∈H'.dp.S,x∈ever)∧(H'.dp.dead=true→WInv n l s H' (some p) a maybe ever (decide (0≤fail)))∧
   (H'.dp.dead=false→WInv n l s H' (some p) (begunA v T) [(v,T)] ever (decide (0≤fail)))):=by
 obtain ⟨m1,m2,m3,m4,m5,m6⟩:=tf h.may mask cut fail
 have d:∀ k:Int,(0≤k→0≤(H.again mask cut fail).fail)→0≤k→decide (0≤fail)=true:=fun k hk e=>cQ (m6 (hk e))
 have i:=uh (l:=l) m1 (fun v T hc=>h.tabs _ hc) m2 m3 (by rw [m4];exact h.sorted) (m5.trans h.room)
 generalize gO (H.again mask cut fail)=q at i
 obtain ⟨H',r⟩:=q
 simp only at i
 cases i with
 | bad f h1 h2 h3 h4 h5 h6 =>
  left
  have o:H'.dp.S=H.dp.S:=by rw [h3];exact m4
  refine ⟨H',f,rfl,h1,m6 h2,⟨h4,h.tabs,h.uniq,h.everT,by rw [o];exact h.everD,by rw [o];exact h.sorted,by rw [h3];exact m5.trans h.room,fun e=>by rw [h5] at e;omega,h.self,fun q hq=>by cases hq⟩,by rw [o];exact h.everD⟩
 | good p v T h1 h2 h3 h4 h5 h6 h7 h8 h9 =>
  right
  have j:∀ x∈H'.dp.S,x∈ever:=fun x b=>by
   rcases h4 x b with b | b
   ·rw [m4] at b;exact h.everD x b
   ·exact h.everT _ h1 x b
  refine ⟨H',p,v,T,rfl,h1,h2.1,j,fun hdd=>⟨h3,h.tabs,h.uniq,h.everT,j,h5,h6,d _ h7,h.self,fun q hq e => ?_⟩,fun hdd => ?_⟩
  ·rw [hdd] at e;cases e
  ·obtain ⟨u,y,B⟩:=jk v T
   have hu:=h9 hdd
   refine ⟨?_,?_,?_,?_,j,h5,h6,d _ h7,by rw [u,y];exact cc,fun q hq _ => ?_⟩
   ·refine hu.disk.may.mono (t:=s) h8 fun w U hc => ?_
    rw [aA,hc.1,hc.2,h2.1,u,y]
   ·exact fun m hm=>by rw [aA.1 hm];exact h.tabs _ h1
   ·exact fun m hm k hk _=>by rw [aA.1 hm,aA.1 hk]
   ·exact fun m hm=>by rw [aA.1 hm];exact h.everT _ h1
   ·cases hq
    refine ⟨h2.1,h8,hu.dpS.trans (by rw [h2.1]),fun _=>⟨hu,by rw [u,y],h2.2⟩,fun f e => ?_⟩
    rw [B] at e
    cases e
theorem WInv.begun (n:Nat) (l:List Int) (u:32≤n∧n≤128) :
  ∃ H' p,gO (mc n (roomN l))=(H',.inl p)∧p.a=begunA 0 []∧H'.dp.dead=false∧H'.dp.log=[]∧WInv n l 0 H' (some p) (begunA 0 []) [(0,[])] [] false:=by
 obtain ⟨m1,m2,m3,m4,m5⟩:=yA n l u
 have b:=uh (l:=l) m1 (fun v T hc=>by rw [hc.1,hc.2];exact TabOk.nil n l) m2 m3 (by rw [m4];exact SortedE.nil) (by rw [m4])
 have hdd:(gO (mc n (roomN l))).1.dp.dead=false∧(gO (mc n (roomN l))).1.fail = -1∧(gO (mc n (roomN l))).1.dp.log=[]:=by
  obtain ⟨v,T,⟨rfl,rfl⟩,i⟩:=m1 fun _=>true
  rw [m2] at i
  have i:kL n (mc n (roomN l)).held 0 0 []:=i
  obtain ⟨g,y,-⟩:=od i
  unfold gO readAll
  rw [au (by rw [m5];omega)]
  simp only
  rw [m3,y]
  simp only
  rw [m4,(TabOk.nil n l).over]
  exact ⟨rfl,rfl,rfl⟩
 generalize gO (mc n (roomN l))=q at b hdd
 obtain ⟨H',r⟩:=q
 simp only at b hdd
 cases b with
 | bad f h1 h2 h3 h4 h5 h6=>rw [m5] at h2;omega
 | good p v T h1 h2 h3 h4 h5 h6 h7 h8 h9 =>
  obtain ⟨rfl,rfl⟩:=h1
  obtain ⟨o,j,B⟩:=jk 0 []
  have hu:=h9 hdd.1
  have s:H'.dp.S=[]:=hu.dpS.trans (by rw [h2.1,j])
  refine ⟨H',p,rfl,h2.1,hdd.1,hdd.2.2,⟨h3.mono (af _) fun v T hc=>(by rw [hc.1,hc.2];exact aA.2 rfl),fun m hm=>(by rw [aA.1 hm];exact TabOk.nil n l),fun m hm k hk _=>(by rw [aA.1 hm,aA.1 hk]),fun m hm x d=>(by rw [aA.1 hm] at d;cases d),fun x d=>(by rw [s] at d;cases d),h5,h6,fun e=>(by rw [hdd.2.1] at e;omega),(by rw [o,j];exact cc),fun q hq _ => ?_⟩⟩
  cases hq
  refine ⟨h2.1,h8,s.trans j.symm,fun _=>⟨hu,by rw [o,j],h2.2⟩,fun f e => ?_⟩
  rw [B] at e
  cases e
end Go.Proofs.YtkkfmkhbdoeglaaGreatDoor
namespace Go.Proofs.YtkkfmkhbdoeglaaGreatDoor
theorem mh (k:UInt8) (b:List UInt8):(sealB k b).length=b.length+5:=by
 unfold sealB
 simp [xX]
theorem AgA.Fit.put {a:AgA} (h:a.Fit) (k:UInt8) (b:List UInt8) (d:b.length≤8):(a.put k b).Fit:=by
 unfold AgA.put
 split
 ·refine ⟨h.v,by simp only [aq,dg];omega,fun s hs => ?_,h.com⟩
  rcases bQ.1 hs with hs | hs
  ·exact h.olen s hs
  ·rw [aA.1 hs,mh];omega
 ·exact h
theorem AgA.Fit.iM {a:AgA} (h:a.Fit):a.iM.Fit:=h.put _ _ (by rw [fQ];omega)
theorem AgA.Fit.lu {a:AgA} (h:a.Fit):a.lu.Fit:=h.put _ _ (by rw [fQ];omega)
theorem AgA.Fit.gy {a:AgA} (h:a.Fit) (k:Nat):(a.gy k).Fit:=h.put _ _ (by simp)
theorem AgA.Fit.km {a:AgA} (h:a.Fit):a.km.Fit:=h.put _ _ (by simp)
theorem AgA.Fit.bad {a:AgA} (h:a.Fit) (k:Nat):(a.bad k).Fit:=(h.gy k).iM
theorem AgA.Fit.stops {a:AgA} (h:a.Fit) (f:Nat×Nat):(a.stops f).Fit:=AgA.Fit.gy (a := {a with deg:=some f}) ⟨h.v,h.out,h.olen,h.com⟩ f.1
theorem AgA.Fit.tick {a:AgA} (h:a.Fit):a.tick.Fit:=by
 unfold AgA.tick
 split
 ·exact h.gy 13
 ·split
  ·exact h.km
  ·exact h.iM
theorem AgA.Fit.next {a:AgA} (h:a.Fit):a.next.1.Fit:=by
 unfold AgA.next
 split
 ·exact h
 ·rename_i s l e
  exact ⟨h.v,by have:=h.out;rw [e] at this;simp at this;show l.length≤6;omega,fun t b=>h.olen t (by rw [e];exact aR _ b),h.com⟩
theorem AgA.Fit.fin {a:AgA} (h:a.Fit):AgA.Fit {a with com:=none} := ⟨h.v,h.out,h.olen,fun _ _ _ e=>by cases e⟩
theorem AgA.Fit.begun (v:Nat) (T:List E) (b:v<18446744073709551615):(begunA v T).Fit:=AgA.Fit.iM ⟨b,by simp,by simp,fun _ _ _ e=>by cases e⟩
theorem AgA.Fit.pa {a:AgA} (h:a.Fit) (body:List UInt8):(a.pa body).Fit:=by
 unfold AgA.pa
 split
 ·exact h.bad 1
 ·split
  ·exact h.bad 2
  ·split
   ·exact h.bad 4
   ·rename_i h9 d _
    split
    ·exact h.bad 5
    ·rename_i j
     split
     ·exact h.lu
     ·refine AgA.Fit.km ⟨h.v,h.out,h.olen,fun tv of got e => ?_⟩
      cases e
      have hl:=pV 8 (body.take 8) (by rw [aD];omega)
      rw [aS (by rw [aD];omega)] at hl
      have i:iw (body.take 8)<256^8:=hl
      have b:(256:Nat)^8=18446744073709551616:=by decide
      refine ⟨by show 0<_;omega,by omega,by omega,fun s hs=>by cases hs⟩
theorem AgA.Fit.l9 {a:AgA} (h:a.Fit) (tv:Nat) (bytes:List UInt8):(a.l9 tv bytes).1.Fit:=by
 unfold AgA.l9
 split
 ·exact h.bad _
 ·split
  ·exact h.bad 4
  ·split
   ·exact h.lu
   ·exact h
theorem AgA.Fit.piece {a:AgA} (h:a.Fit) (body:List UInt8):(a.piece body).1.Fit:=by
 unfold AgA.piece
 split
 ·exact h.bad 1
 ·split
  ·exact h.bad 2
  ·rename_i i
   split
   ·exact h.iM
   ·rename_i tv of got e
    obtain ⟨c1,c2,c3,c4⟩:=h.com tv of got e
    split
    ·exact h.km
    ·split
     ·refine AgA.Fit.km ⟨h.v,h.out,h.olen,fun j l b d => ?_⟩
      cases d
      refine ⟨by rw [aq,dg];omega,c2,c3,fun s hs => ?_⟩
      rcases bQ.1 hs with hs | hs
      ·exact c4 s hs
      ·rw [aA.1 hs,cd];omega
     ·exact h.fin.l9 _ _
theorem AgA.Fit.taken {a:AgA} (h:a.Fit) (frame:List UInt8):(a.taken frame).1.Fit:=by
 unfold AgA.taken
 split
 ·exact h.gy 13
 ·split
  ·exact h.bad _
  ·split
   ·unfold AgA.delta
    split
    ·exact h.bad _
    ·split
     ·exact h.lu
     ·split
      ·exact h.iM
      ·exact h
   ·split
    ·show (if _ then _ else _:AgA).Fit
     split
     ·exact h.iM
     ·exact h.bad 2
    ·split
     ·exact h.pa _
     ·split
      ·exact h.piece _
      ·exact h.bad 6
theorem AgA.Fit.takes {a:AgA} (h:a.Fit) (tk:gS) (room:Nat→Int) (n:Nat) (b:tk.V<18446744073709551615):(a.takes tk room n).Fit:=by
 unfold AgA.takes
 split
 ·exact h.stops _
 ·exact AgA.Fit.lu ⟨b,h.out,h.olen,h.com⟩
theorem Fz {s:Nat} {data b:List UInt8} (h:b∈fR s data):b.length=64:=by
 unfold fR at h
 obtain ⟨i,-,rfl⟩:=az.1 h
 exact lM (by rw [oR];have:=ot data i;omega)
theorem HostOk.fZ:∀ (l:List (List UInt8)) {H:fx} {B:Nat} (n:Nat),HostOk H B→(∀ b∈l,b.length=64)→n+l.length≤H.seen.length→HostOk (fZ l H n).1 (B+l.length)∧(fZ l H n).1.seen.length=H.seen.length
 | [],H,B,n,h,_,_=>⟨h,rfl⟩
 | s::l,H,B,n,h,hl,d=>by
  unfold _root_.Go.Proofs.YtkkfmkhbdoeglaaGreatDoor.fZ
  rw [ar] at d
  obtain ⟨h1,h2⟩:=h.write (n:=n) (by omega) (hl s (by simp))
  generalize H.write n s=q at h1 h2⊢
  obtain ⟨H1,r⟩:=q
  cases r with
  | some f=>exact ⟨h1.mono (by rw [ar];omega),h2⟩
  | none =>
   have j:H1.seen.length=H.seen.length:=h2
   obtain ⟨g1,g2⟩:=HostOk.fZ l (n+1) h1 (fun b i=>hl b (by simp [i])) (by show n+1+l.length≤H1.seen.length;omega)
   exact ⟨g1.mono (by rw [ar];omega),g2.trans h2⟩
theorem HostOk.fC {H:fx} {B:Nat} (h:HostOk H B) (g:LogS) (at':Nat) (data:List UInt8) (d:at'+partsOf data.length≤H.seen.length):HostOk (fC H g at' data).1 (B+partsOf data.length)∧(fC H g at' data).1.seen.length=H.seen.length:=by
 obtain ⟨h1,h2⟩:=HostOk.fZ (fR (g.stamp+1) data) (H:=H) (B:=B) at' h (fun b i=>Fz i) (by rw [iC];exact d)
 rw [iC] at h1
 unfold _root_.Go.Proofs.YtkkfmkhbdoeglaaGreatDoor.fC
 generalize _root_.Go.Proofs.YtkkfmkhbdoeglaaGreatDoor.fZ (fR (g.stamp+1) data) H at'=q at h1 h2⊢
 obtain ⟨H1,r⟩:=q
 cases r with
 | some f=>exact ⟨h1,h2⟩
 | none=>exact ⟨h1.flush.1,h1.flush.2.trans h2⟩
theorem HostOk.fI {H:fx} {B:Nat} (h:HostOk H B) (g:LogS) (v:Nat) (T:List E) (hs:g.slot<2) (l:sizeS T≤16*(H.seen.length-8)):HostOk (fI H g v T).1 (B+128)∧(fI H g v T).1.seen.length=H.seen.length∧(fI H g v T).2.1.next≤max g.next (2*placeOf H.seen.length)∧(fI H g v T).2.1.slot<2:=by
 have b:=h.n
 have i:=iT b.1 b.2
 have j:partsOf (ic v T).length≤placeOf H.seen.length:=lN (by rw [nQ];omega)
 have d:(1-g.slot)*placeOf H.seen.length+partsOf (ic v T).length≤H.seen.length:=by
  rcases (show g.slot=0∨g.slot=1 by omega) with e | e <;> rw [e] <;> omega
 obtain ⟨h1,h2⟩:=h.fC g ((1-g.slot)*placeOf H.seen.length) (ic v T) d
 unfold _root_.Go.Proofs.YtkkfmkhbdoeglaaGreatDoor.fI
 generalize _root_.Go.Proofs.YtkkfmkhbdoeglaaGreatDoor.fC H g ((1-g.slot)*placeOf H.seen.length) (ic v T)=q at h1 h2⊢
 obtain ⟨H1,r⟩:=q
 cases r with
 | some f=>exact ⟨h1.mono (by omega),h2,by show g.next≤_;omega,hs⟩
 | none=>exact ⟨h1.mono (by omega),h2,by show 2*placeOf H.seen.length≤_;omega,by show 1-g.slot<2;omega⟩
theorem HostOk.gF {H:fx} {B:Nat} (h:HostOk H B) (g:LogS) (b:List UInt8) (v:Nat) (T:List E) (hs:g.slot<2) (m:sizeS T≤16*(H.seen.length-8)) (y:b.length≤700) (_hg:g.next≤H.seen.length):HostOk (gF H g b v T).1 (B+256)∧(gF H g b v T).1.seen.length=H.seen.length:=by
 have j:=h.n
 have u:=iT j.1 j.2
 have x:partsOf b.length≤14:=by unfold partsOf;omega
 have key:∀ (H':fx) (d:LogS) (C:Nat),HostOk H' C→C+14≤B+256→H'.seen.length=H.seen.length→d.next+partsOf b.length≤H.seen.length→HostOk (gj H' d b).1 (B+256)∧(gj H' d b).1.seen.length=H.seen.length:=by
  intro H' d C o D l s
  obtain ⟨h1,h2⟩:=o.fC d d.next b (by rw [l];exact s)
  unfold gj
  generalize _root_.Go.Proofs.YtkkfmkhbdoeglaaGreatDoor.fC H' d d.next b=q at h1 h2⊢
  obtain ⟨H1,r⟩:=q
  cases r <;> exact ⟨h1.mono (by omega),h2.trans l⟩
 unfold _root_.Go.Proofs.YtkkfmkhbdoeglaaGreatDoor.gF
 split
 ·obtain ⟨h1,h2,h3,h4⟩:=h.fI g v T hs m
  have i:(_root_.Go.Proofs.YtkkfmkhbdoeglaaGreatDoor.fI H g v T).2.2=none→(_root_.Go.Proofs.YtkkfmkhbdoeglaaGreatDoor.fI H g v T).2.1.next=2*placeOf H.seen.length:=by
   unfold _root_.Go.Proofs.YtkkfmkhbdoeglaaGreatDoor.fI
   generalize _root_.Go.Proofs.YtkkfmkhbdoeglaaGreatDoor.fC H g ((1-g.slot)*placeOf H.seen.length) (ic v T)=q
   obtain ⟨H1,r⟩:=q
   cases r with
   | some f=>intro e;cases e
   | none=>intro _;rfl
  generalize _root_.Go.Proofs.YtkkfmkhbdoeglaaGreatDoor.fI H g v T=q at h1 h2 h3 h4 i⊢
  obtain ⟨H1,g1,r⟩:=q
  cases r with
  | some f=>exact ⟨h1.mono (by omega),h2⟩
  | none=>exact key H1 g1 (B+128) h1 (by omega) h2 (by have:=i rfl;simp only at this;omega)
 ·exact key H g B h (by omega) rfl (by omega)
structure DpFine (l:List Int) (B:Nat) (d:DpS):Prop where
 there:ThereOk (roomN l) EntGood d.S
 room:d.room=roomN l
 log:d.log.length≤B
 left : -1≤d.left∧d.left≤9223372036854775807
theorem DpFine.mono {l:List Int} {B C:Nat} {d:DpS} (h:DpFine l B d) (b:B≤C):DpFine l C d:=⟨h.there,h.room,aH h.log b,h.left⟩
theorem EntGood.tab {x:E} (h:EntGood x):inTab x.1:=⟨h.1,h.2.1⟩
theorem DpFine.stop {l:List Int} {B:Nat} {d:DpS} (h:DpFine l B d):DpFine l B d.stop:=⟨h.there,h.room,h.log,by
 have:=h.left
 show -1≤(if 0<d.left then d.left-1 else d.left)∧(if 0<d.left then d.left-1 else d.left)≤_
 split <;> omega⟩
theorem ThereOk.drop {room:Nat→Int} {P:E→Prop} {S:List E} (h:ThereOk room P S) (k:K):ThereOk room P (ng k S):=by
 have hs:=kN k h.sorted
 refine ⟨hs,fun x b=>h.tab x ((lQ k S x).1 b).1,fun t d => ?_,fun x b=>h.mem x ((lQ k S x).1 b).1⟩
 have h1:=pT hs (fun x b=>az.2 ⟨x,((lQ k S x).1 b).1,rfl⟩:∀ x∈ng k S,x.1∈S.map (·.1)) (t:Int)
 have:=h.room t d
 omega
theorem DpFine.step {l:List Int} {B:Nat} {d:DpS} (h:DpFine l B d) (o:qD) (m:∀ v,o.2=some v→EntGood (o.1,v)):DpFine l (B+2) (d.step o):=by
 obtain ⟨k,v⟩:=o
 have hs:=h.stop
 have hl:=h.log
 cases v with
 | none =>
  unfold DpS.step DpS.drop
  simp only
  split
  ·exact hs.mono (by omega)
  ·exact ⟨h.there.drop k,h.room,by simp only [aq,dg];omega,hs.left⟩
 | some v =>
  have i:=m v rfl
  unfold DpS.step DpS.put
  simp only
  split
  ·exact hs.mono (by omega)
  ·split
   ·rename_i b
    refine ⟨?_,h.room,by simp only [aq,dg];omega,hs.left⟩
    have h1:=h.there.step i
    unfold rM at h1
    have j:=i.tab
    rw [aB j] at h1
    unfold DpS.kT DpS.uL at b
    rw [aB (show 0≤k.1∧k.1<3 from j),h.room] at b
    rw [aB b] at h1
    exact h1
   ·exact ⟨h.there,h.room,by simp only [aq,dg];omega,hs.left⟩
theorem DpFine.run {l:List Int} : ∀ (os:List qD) {B:Nat} {d:DpS},DpFine l B d→(∀ o∈os,∀ v,o.2=some v→EntGood (o.1,v))→DpFine l (B+2*os.length) (d.run os)
 | [],_,_,h,_=>h
 | o::os,B,d,h,b=>(DpFine.run os (h.step o (b o (by simp))) fun u hu=>b u (by simp [hu])).mono (by rw [ar];omega)
theorem zt (h w:List E):(iQ h w).length≤h.length+w.length:=by
 unfold iQ kX jU mH pZ
 rw [aq,aG,aG]
 exact Nat.add_le_add (dh _ _) (dh _ _)
theorem DpFine.lY {l:List Int} {B:Nat} {d:DpS} (h:DpFine l B d) {T:List E} (j:∀ x∈T,EntGood x) (hl:T.length≤120):DpFine l (B+480) (d.run (iQ d.S T)):=by
 refine (h.run (iQ d.S T) fun o b v i => ?_).mono ?_
 ·unfold iQ at b
  rcases bQ.1 b with b | b
  ·obtain ⟨x,-,rfl⟩:=az.1 b
   cases i
  ·obtain ⟨x,m,rfl⟩:=az.1 b
   cases i
   exact j x (cf.1 m).1
 ·have h1:=zt d.S T
  have h2:=h.there.len
  omega
structure Fine (n:Nat) (l:List Int) (B:Nat) (H:fx):Prop where
 ok:HostOk H B
 len:H.seen.length=n
 dp:DpFine l B H.dp
theorem Fine.mono {n:Nat} {l:List Int} {B C:Nat} {H:fx} (h:Fine n l B H) (b:B≤C):Fine n l C H:=⟨h.ok.mono b,h.len,h.dp.mono b⟩
theorem Fine.lY {n:Nat} {l:List Int} {B:Nat} {H:fx} (h:Fine n l B H) {T:List E} (b:∀ x∈T,EntGood x) (hl:T.length≤120):Fine n l (B+480) (H.lY T) :=
 ⟨⟨h.ok.n,h.ok.hl,h.ok.s64,h.ok.h64,h.ok.late,h.ok.fail,by have:=h.ok.writes;show 0≤H.writes∧H.writes≤_;omega,by have:=h.ok.ll;show H.late.length≤_;omega⟩,h.len,h.dp.lY b hl⟩
theorem DpFine.write {l:List Int} {B:Nat} {H:fx} (h:DpFine l B H.dp) (n:Nat) (s:List UInt8):DpFine l B (H.write n s).1.dp:=by
 unfold fx.write
 split
 ·exact h
 ·exact h.stop
theorem DpFine.writes {l:List Int} {B:Nat} : ∀ (ps:List (List UInt8)) (H:fx) (n:Nat),DpFine l B H.dp→DpFine l B (fZ ps H n).1.dp
 | [],_,_,h=>h
 | s::ps,H,n,h=>by
  unfold fZ
  have h1:=h.write n s
  generalize H.write n s=q at h1⊢
  obtain ⟨H1,r⟩:=q
  cases r with
  | some f=>exact h1
  | none=>exact DpFine.writes ps H1 (n+1) h1
theorem DpFine.flush {l:List Int} {B:Nat} {H:fx} (h:DpFine l B H.dp):DpFine l B H.flush.1.dp:=by
 unfold fx.flush
 split
 ·exact h
 ·split <;> exact h.stop
theorem DpFine.fC {l:List Int} {B:Nat} {H:fx} (h:DpFine l B H.dp) (g:LogS) (n:Nat) (b:List UInt8):DpFine l B (fC H g n b).1.dp:=by
 unfold _root_.Go.Proofs.YtkkfmkhbdoeglaaGreatDoor.fC
 have h1:=DpFine.writes (fR (g.stamp+1) b) H n h
 generalize fZ (fR (g.stamp+1) b) H n=q at h1⊢
 obtain ⟨H1,r⟩:=q
 cases r with
 | some f=>exact h1
 | none=>exact h1.flush
theorem DpFine.fI {l:List Int} {B:Nat} {H:fx} (h:DpFine l B H.dp) (g:LogS) (v:Nat) (T:List E):DpFine l B (fI H g v T).1.dp:=by
 unfold _root_.Go.Proofs.YtkkfmkhbdoeglaaGreatDoor.fI
 have h1:=h.fC g ((1-g.slot)*placeOf H.seen.length) (ic v T)
 generalize _root_.Go.Proofs.YtkkfmkhbdoeglaaGreatDoor.fC H g ((1-g.slot)*placeOf H.seen.length) (ic v T)=q at h1⊢
 obtain ⟨H1,r⟩:=q
 cases r with
 | some f=>exact h1
 | none=>exact h1
theorem DpFine.gj {l:List Int} {B:Nat} {H:fx} (h:DpFine l B H.dp) (g:LogS) (b:List UInt8):DpFine l B (gj H g b).1.dp:=by
 unfold _root_.Go.Proofs.YtkkfmkhbdoeglaaGreatDoor.gj
 have h1:=h.fC g g.next b
 generalize _root_.Go.Proofs.YtkkfmkhbdoeglaaGreatDoor.fC H g g.next b=q at h1⊢
 obtain ⟨H1,r⟩:=q
 cases r with
 | some f=>exact h1
 | none=>exact h1
theorem DpFine.gF {l:List Int} {B:Nat} {H:fx} (h:DpFine l B H.dp) (g:LogS) (b:List UInt8) (v:Nat) (T:List E):DpFine l B (gF H g b v T).1.dp:=by
 unfold _root_.Go.Proofs.YtkkfmkhbdoeglaaGreatDoor.gF
 split
 ·have h1:=h.fI g v T
  generalize _root_.Go.Proofs.YtkkfmkhbdoeglaaGreatDoor.fI H g v T=q at h1⊢
  obtain ⟨H1,g1,r⟩:=q
  cases r with
  | some f=>exact h1
  | none=>exact DpFine.gj (H:=H1) h1 g1 b
 ·exact h.gj g b
theorem UpAg.slot {n:Nat} {l:List Int} {H:fx} {P:PAg} (h:UpAg n l H P):P.lg.slot<2:=by
 obtain ⟨d,v0,i,L,j,b,-⟩:=h.disk.inv
 rcases b with ⟨-,-,-,h1,-⟩ | ⟨h1,-⟩
 ·omega
 ·exact h1
theorem UpAg.len {n:Nat} {l:List Int} {H:fx} {P:PAg} (h:UpAg n l H P):H.seen.length=n:=by rw [h.disk.seen,h.disk.len]
theorem Fine.takes {n:Nat} {l:List Int} {B:Nat} {H:fx} {P:PAg} {tk:gS} (h:Fine n l B H) (hu:UpAg n l H P) (j:uw P tk):Fine n l (B+1000) (jB H P tk).1:=by
 unfold jB
 cases hl:gZ (tk.T P.a.T) H.dp.room H.seen.length with
 | some f=>exact h.mono (by omega)
 | none =>
  simp only
  rw [h.dp.room,h.len] at hl
  obtain ⟨b,-⟩:=j.tab hu hl
  have k:HostOk (tk.log H P).1 (B+256)∧(tk.log H P).1.seen.length=H.seen.length∧DpFine l B (tk.log H P).1.dp:=by
   cases tk with
   | delta v os =>
    obtain ⟨d,i⟩:=h.ok.gF P.lg (iG v os) P.a.V P.a.T hu.slot (by rw [hu.len];exact hu.tab.size) j.2.2.2.2.1 (by rw [hu.len];exact hu.disk.next)
    exact ⟨d,i,h.dp.gF _ _ _ _⟩
   | state v T =>
    obtain ⟨d,i,-,-⟩:=h.ok.fI P.lg v T hu.slot (by rw [hu.len];exact b.size)
    exact ⟨d.mono (by omega),i,h.dp.fI _ _ _⟩
  generalize tk.log H P=q at k⊢
  obtain ⟨H1,g1,r⟩:=q
  obtain ⟨d,i,m⟩:=k
  have f1:Fine n l (B+256) H1:=⟨d,i.trans h.len,m.mono (by omega)⟩
  cases r with
  | some f=>exact f1.mono (by omega)
  | none=>exact (f1.lY b.good b.len).mono (by omega)
theorem Fine.recv {n:Nat} {l:List Int} {s B:Nat} {H:fx} {p:PAg} {a:AgA} {maybe:List (Nat×List E)} {ever:List E} {armed:Bool} (h:Fine n l B H) (hw:WInv n l s H (some p) a maybe ever armed) (hd:H.dp.dead=false) (frame:List UInt8):Fine n l (B+1000) (iO H p frame).1:=by
 obtain ⟨g1,g2,g3,g5,g6⟩:=hw.up p rfl hd
 have b:=hw.tabs _ hw.self
 unfold iO
 rw [g1]
 cases d:a.taken frame with
 | mk a1 r =>
  cases r with
  | none=>exact h.mono (by omega)
  | some tk =>
   obtain ⟨t1,t2,t3,t4,t5,t6⟩:=oJ d b.sorted b.good p.sec p.lg
   obtain ⟨u,u2,u3⟩:=g5 t1
   have u1:=u.disk
   rw [g1,←t2,←t3] at u1
   have ut:=u.tab
   rw [g1,←t2,←t3] at ut
   exact h.takes (P := {p with a:=a1}) ⟨u1,by rw [t3];exact g3,u.room,ut,t4.trans t1⟩ t6
theorem Fine.readAll {n:Nat} {l:List Int} {B:Nat} {H:fx} (h:Fine n l B H):Fine n l B (readAll H).1:=by
 have b:=h.ok.fail
 have d:=h.ok.n
 unfold _root_.Go.Proofs.YtkkfmkhbdoeglaaGreatDoor.readAll
 split
 ·exact ⟨⟨h.ok.n,h.ok.hl,h.ok.s64,h.ok.h64,h.ok.late,⟨by show (-1:Int)≤-1;omega,by show (-1:Int)≤_;omega⟩,h.ok.writes,h.ok.ll⟩,h.len,h.dp⟩
 ·rename_i hc
  refine ⟨⟨h.ok.n,h.ok.hl,h.ok.s64,h.ok.h64,h.ok.late,?_,h.ok.writes,h.ok.ll⟩,h.len,h.dp⟩
  show -1≤(if H.fail<0 then H.fail else H.fail-H.seen.length)∧(if H.fail<0 then H.fail else H.fail-H.seen.length)≤_
  split <;> omega
theorem mn {α:Type} (b:Nat→Bool):∀ (l:List (α×Nat)) (k:Nat) (d:List α),(applySel b k l d).length=d.length
 | [],_,_=>rfl
 | (p,n)::l,k,d=>by
  unfold applySel
  rw [mn b l]
  split
  ·rw [bU]
  ·rfl
theorem ox {α:Type} (j:Nat→Bool) (Q : α→Prop):∀ (l:List (α×Nat)) (k:Nat) (d:List α),(∀ x∈l,Q x.1)→(∀ b∈d,Q b)→∀ b∈applySel j k l d,Q b
 | [],_,_,_,hd=>hd
 | (p,n)::l,k,d,hl,hd=>by
  unfold applySel
  refine ox j Q l _ _ (fun y m=>hl y (by simp [m])) fun b i => ?_
  split at i
  ·rcases cO i with i | rfl
   ·exact hd b i
   ·exact hl (_,n) (by simp)
  ·exact hd b i
theorem Fine.again {n:Nat} {l:List Int} {B:Nat} {H:fx} (h:Fine n l B H) (mask cut fail:Int) (hc:cut≤9223372036854775807) (i:fail≤9223372036854775807):Fine n l B (H.again mask cut fail):=by
 have hl:(applySel (oc mask) 0 H.late H.held).length=H.seen.length:=by rw [mn];exact h.ok.hl
 have h64:∀ b∈applySel (oc mask) 0 H.late H.held,b.length=64:=ox _ (fun b=>b.length=64) _ _ _ (fun x d=>(h.ok.late x d).1) h.ok.h64
 refine ⟨⟨by show 32≤(applySel (oc mask) 0 H.late H.held).length∧(applySel (oc mask) 0 H.late H.held).length≤128;rw [hl];exact h.ok.n,rfl,h64,h64,fun x d=>(by cases d),⟨by show (-1:Int)≤max fail (-1);omega,by show max fail (-1)≤_;omega⟩,h.ok.writes,aK _⟩,hl.trans h.len,⟨h.dp.there,h.dp.room,h.dp.log,⟨by show (-1:Int)≤max cut (-1);omega,by show max cut (-1)≤_;omega⟩⟩⟩
theorem Fine.nE {n:Nat} {l:List Int} {B:Nat} {H:fx} (h:Fine n l B H) (k b d:Int) (lg:List (List UInt8)) (hk:0≤k∧k≤B) (h1 : -1≤b∧b≤9223372036854775807) (h2 : -1≤d∧d≤9223372036854775807) (h3:lg.length≤B):Fine n l B {H with writes:=k,fail:=d,dp := {H.dp with left:=b,log:=lg}} :=
 ⟨⟨h.ok.n,h.ok.hl,h.ok.s64,h.ok.h64,h.ok.late,h2,hk,h.ok.ll⟩,h.len,⟨h.dp.there,h.dp.room,h3,h1⟩⟩
structure za (n:Nat) (l:List Int) (B:Nat) (H:fx) (p:PAg):Prop where
 fine:Fine n l B H
 low:B≤800000000
 fit:p.a.Fit
 up:p.a.deg=none→UpAg n l H p
 stamp:p.lg.stamp<8999999999999999999
def oD (n:Nat) (l:List Int) (seen:List (List UInt8)):Prop:=∃ g v T,zH seen=(g,v,T)∧DiskInv decSB decDB foldS [] (seen.map parseSec) (placeOf n) g.slot v T g.next∧TabOk n (roomN l) v T
theorem WInv.opens {n:Nat} {l:List Int} {s:Nat} {H:fx} {P:Option PAg} {a:AgA} {maybe:List (Nat×List E)} {ever:List E} {armed:Bool} (h:WInv n l s H P a maybe ever armed) (mask cut fail:Int):oD n l (H.again mask cut fail).seen:=by
 obtain ⟨m1,m2,m3,-,-,-⟩:=tf h.may mask cut fail
 obtain ⟨v,T,hc,b⟩:=m1 fun _=>true
 rw [m2] at b
 obtain ⟨g,d,-,-,-,hd⟩:=od (show kL n (H.again mask cut fail).held s v T from b)
 exact ⟨g,v,T,by rw [m3];exact d,by rw [m3];exact hd,h.tabs _ hc⟩
theorem wB (n:Nat) (l:List Int) (d:32≤n∧n≤128):oD n l (mc n (roomN l)).seen:=by
 obtain ⟨m1,m2,m3,-,-⟩:=yA n l d
 obtain ⟨v,T,⟨rfl,rfl⟩,b⟩:=m1 fun _=>true
 rw [m2] at b
 obtain ⟨g,i,-,-,-,hd⟩:=od (show kL n (mc n (roomN l)).held 0 0 [] from b)
 exact ⟨g,0,[],by rw [m3];exact i,by rw [m3];exact hd,TabOk.nil n l⟩
theorem Fine.start {n:Nat} {l:List Int} {B:Nat} {H:fx} (h:Fine n l B H) (d:oD n l H.seen):Fine n l (B+480) (gO H).1:=by
 obtain ⟨g,v,T,i,-,b⟩:=d
 have h1:=h.readAll
 unfold gO
 generalize _root_.Go.Proofs.YtkkfmkhbdoeglaaGreatDoor.readAll H=q at h1⊢
 obtain ⟨H1,r⟩:=q
 cases r with
 | some f=>exact h1.mono (by omega)
 | none =>
  simp only
  rw [i]
  simp only
  split
  ·exact h1.mono (by omega)
  ·exact h1.lY b.good b.len
theorem Fine.new (n:Nat) (l:List Int) (i:32≤n∧n≤128):Fine n l 0 (mc n (roomN l)):=by
 have j:ib.length=64:=by decide
 have h64:∀ b∈List.replicate n ib,b.length=64:=fun b m=>by rw [List.eq_of_mem_replicate m];exact j
 refine ⟨⟨by show 32≤(List.replicate n ib).length∧(List.replicate n ib).length≤128;rw [bu];exact i,rfl,h64,h64,fun x d=>(by cases d),⟨by show (-1:Int)≤-1;omega,by show (-1:Int)≤_;omega⟩,⟨Int.le_refl _,Int.le_refl _⟩,af _⟩,bu ..,⟨⟨SortedE.nil,fun x d=>(by cases d),fun t o => ?_,fun x d=>(by cases d)⟩,rfl,af _,⟨by show (-1:Int)≤-1;omega,by show (-1:Int)≤_;omega⟩⟩⟩
 exact (jT l t).1
end Go.Proofs.YtkkfmkhbdoeglaaGreatDoor
