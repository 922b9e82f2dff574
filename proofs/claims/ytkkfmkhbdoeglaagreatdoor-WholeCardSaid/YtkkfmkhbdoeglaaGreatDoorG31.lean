/- A part of what is proved here: lemmas and contracts of single functions. No condition but those that each names. -/
import Derived.Test.YtkkfmkhbdoeglaaGreatDoorG00
import Derived.Conc.LoneCalls
import Derived.Conc.LoneSelect
import Derived.Conc.SmallLaws
import Derived.Test.YtkkfmkhbdoeglaaGreatDoorG02
import Derived.Test.YtkkfmkhbdoeglaaGreatDoorG07
import Derived.Test.YtkkfmkhbdoeglaaGreatDoorG13
import Derived.Test.YtkkfmkhbdoeglaaGreatDoorG16
import Derived.Test.YtkkfmkhbdoeglaaGreatDoorG18
import Derived.Test.YtkkfmkhbdoeglaaGreatDoorG21
import Derived.Test.YtkkfmkhbdoeglaaGreatDoorG25
import Derived.Test.YtkkfmkhbdoeglaaGreatDoorG26
import Derived.Test.YtkkfmkhbdoeglaaGreatDoorG29
import Derived.Test.YtkkfmkhbdoeglaaGreatDoorG30
set_option maxHeartbeats 8000000
set_option maxRecDepth 100000
namespace Go.Proofs.YtkkfmkhbdoeglaaGreatDoor
open Go.RowKit Go.Conc
theorem DZ {P:Program} {Q:Goroutine→World→Prop} {ops:Array Oper} {i:Nat} {rest:List Nat} {o:Oper} {b:Frame} {a:Act} {k:List Item} {cs:List Frame} {f:FuncId} {fn:Func} {args:Array Operand} {q:Array TypeId} {w:World} {R:Ending→World→Prop}
  (x:ops[i]?=some o) (hw:Region.wanted o (yielded ops a.tmps)=true) (hk:b.kind≠.early) (r:o.op = .call {callee := .value (.func f),args,argTypes:=q})
  (y : P.funcs[f]? = some fn) (j : (fn.name == "runtime.NumGoroutine") = false) (B : fn.body.isNone = false) (d : Array Value) (l : args.map a.eval = d) (C : Calls P f d w R)
  (m:∀ e w',R e w'→∃ v,e = .returned v∧LoneTo P Q (G (b.at (a.put ((ops[i]?).bind (·.dst)) v) (.inRegion ops rest::k)) cs) w'):LoneTo P Q (G (b.at a (.inRegion ops (i::rest)::k)) cs) w:=by
 subst l
 refine LoneTo.step (step_solo_go rfl (stepG_enter x hw hk (run_call_body r y j B))) ?_
 obtain ⟨e,w',I,D,E,F,hl⟩:=C (b.at a (.inRegion ops (i::rest)::k)::cs)
 obtain ⟨v,rfl,hq⟩:=m e w' D
 have h1:=step_leave_returned (c:=b.at a (.inRegion ops (i::rest)::k)) (cs:=cs) hl
 rw [fj] at h1
 obtain ⟨g2,w2,s,u⟩:=hq
 exact ⟨g2,w2,Steps.trans E (Steps.head h1 s),u⟩
def oQ (w:World) (G:Nat→Prop) (u:Value) (b:List UInt8):Prop:=OwnS w 0 1 u b.length (u8s b)∧0<b.length∧∀ k,u.ownBlock=some k→G k
def OutAt (w:World) (G:Nat→Prop) (c:Nat) (out:List (List UInt8)):Prop :=
 ∃ (s r:Nat) (vals:List Value),w.heap[c]?=some (.chan 6 vals.toArray false s r false)∧vals.length=out.length∧(∀ (i:Nat) (b:List UInt8),out[i]?=some b→∃ u,vals[i]?=some u∧oQ w G u b)∧vals.Pairwise fun u v=>u.ownBlock≠v.ownBlock
def tf (out:List (List UInt8)) (k:UInt8) (body:List UInt8):List (List UInt8):=if out.length<6 then out++[sealB k body] else out
theorem OutAt.below {w w':World} {G:Nat→Prop} {c:Nat} {out:List (List UInt8)} (h:OutAt w G c out) (d:Below w.heap.size w w'):OutAt w' G c out:=by
 obtain ⟨s,r,vals,h1,h2,h3,h4⟩:=h
 refine ⟨s,r,vals,fK d (fI h1) h1,h2,fun i b j => ?_,h4⟩
 obtain ⟨u,hu,f1,f2,f3⟩:=h3 i b j
 exact ⟨u,hu,f1.below d,f2,f3⟩
theorem OutAt.mono {w:World} {G G':Nat→Prop} {c:Nat} {out:List (List UInt8)} (h:OutAt w G c out) (d:∀ j,G j→G' j):OutAt w G' c out:=by
 obtain ⟨s,r,vals,h1,h2,h3,h4⟩:=h
 refine ⟨s,r,vals,h1,h2,fun i b l => ?_,h4⟩
 obtain ⟨u,hu,f1,f2,f3⟩:=h3 i b l
 exact ⟨u,hu,f1,f2,fun k e=>d k (f3 k e)⟩
theorem OutAt.push {w w1 w':World} {G:Nat→Prop} {c:Nat} {out:List (List UInt8)} {u:Value} {b:List UInt8} {s r:Nat} {vals:List Value} (m:Below w.heap.size w w1) (h1:w.heap[c]?=some (.chan 6 vals.toArray false s r false)) (h2:vals.length=out.length)
  (h3:∀ (i:Nat) (b:List UInt8),out[i]?=some b→∃ u,vals[i]?=some u∧oQ w G u b) (h4:vals.Pairwise fun u v=>u.ownBlock≠v.ownBlock) (S:∀ k,G k→k<w.heap.size) (hu:OwnS w1 w.heap.size 1 u b.length (u8s b)) (E:0<b.length) (he:w'=w1.setChan c 6 (vals.toArray.push u) false (s+1) r false) :
  OutAt w' (fun j=>G j∨(w.heap.size≤j∧j<w'.heap.size)) c (out++[b])∧Ext (fun j=>j=c) w w':=by
 have W:=fI h1
 have X:=m.size
 have Y:w'.heap.size=w1.heap.size:=by rw [he,size_setChan]
 have l:∀ j,j≠c→w'.heap[j]?=w1.heap[j]?:=fun j o=>by
  rw [he]
  simp [World.setChan,cc (dx o)]
 have F:w'.heap[c]?=some (.chan 6 (vals++[u]).toArray false (s+1) r false):=by
  rw [he,heap_setChan w1 c 6 _ false (s+1) r false (by omega)]
  simp
 have q:=hu.fU
 obtain ⟨hl,I⟩:=hu
 have J:∃ g,u.ownBlock=some g:=by
  rcases I with ⟨e,e2⟩ | ⟨g,off,cap,e,-⟩
  ·omega
  ·exact ⟨g,by rw [e];rfl⟩
 have B:OwnS w' 0 1 u b.length (u8s b):=(OwnS.mono ⟨hl,I⟩ (aL _)).frame (by omega) fun j e _=>l j (by have:=q j e;omega)
 refine ⟨⟨s+1,r,vals++[u],F,by rw [ar,ar,h2];rfl,fun i x d => ?_,?_⟩,⟨?_,?_,?_,by omega,fun j o M=>(l j M).trans (m.block j o)⟩⟩
 ·by_cases N:i<out.length
  ·rw [cI N] at d
   obtain ⟨v,D,f1,f2,f3⟩:=h3 i x d
   refine ⟨v,by rw [cI (by omega)];exact D,f1.frame (by omega) fun j e o=>(l j fun U => ?_).trans (m.block j o),f2,fun j e => .inl (f3 j e)⟩
   obtain ⟨-,⟨e0,e1⟩ | ⟨g,off,cap,e0,-,-,-,-,C,-⟩⟩:=f1
   ·omega
   ·rw [e0] at e
    cases e
    have hc:=C 0 (by rw [iR];exact f2)
    unfold World.cell? at hc
    rw [U,h1] at hc
    cases hc
  ·have O:i=out.length:=by
    have:=(aG.1 d).1
    simp at this
    omega
   subst O
   rw [cG (ah _),ef] at d
   cases d
   refine ⟨u,by rw [cG (by omega),h2,ef];rfl,B,E,fun j e => .inr ⟨q j e,?_⟩⟩
   exact OwnS.gZ B j e
 ·rw [dB]
  refine ⟨h4,List.pairwise_singleton _ _,fun x V y Q => ?_⟩
  rw [az] at Q
  subst Q
  intro e
  obtain ⟨g,R⟩:=J
  obtain ⟨i,d⟩:=List.mem_iff_getElem?.1 V
  have Z:=(aG.1 d).1
  obtain ⟨v,D,f1,f2,f3⟩:=h3 i out[i] (ay (by omega))
  rw [D] at d
  cases d
  have h5:=S g (f3 g (e.trans R))
  have h6:=q g R
  omega
 ·rw [he];exact m.os
 ·rw [he];exact m.tape
 ·rw [he];exact m.output
theorem qE (a c:Nat) (G:Nat→Prop) (out:List (List UInt8)) (kind:UInt8) (v:Value) (l:List UInt8) (w:World) (hc:w.cell? ⟨a,4,none⟩=some (.chan (some c))) (q:OutAt w G c out) (y:∀ k,G k→k<w.heap.size) (B:BytesAt w v l) (hl:l.length≤1000) :
  Calls Tryz.prog 114 #[.pointer (some ⟨a,0,none⟩),.int .u8 (kind.toNat:Int),v] w fun e w'=>e = .returned (.tuple #[])∧OutAt w' (fun j=>G j∨(w.heap.size≤j∧j<w'.heap.size)) c (tf out kind l)∧Ext (fun j=>j=c) w w':=by
 have D:=fP hc
 refine calls_of_loneTo (fun cs => ?_)
 have e:Frame.enter Tryz.prog 114 #[.pointer (some ⟨a,0,none⟩),.int .u8 (kind.toNat:Int),v] .normal=(base 114).at ⟨#[.pointer (some ⟨a,0,none⟩),.int .u8 (kind.toNat:Int),v,undef,undef,undef,undef,undef,undef,undef,undef,undef,undef,undef,undef,undef],[]⟩ [.code (Tryz.f114.body.getD .skip)]:=by
  simp [Frame.enter,Frame.at,Tryz.func114,base,Tryz.f114]
 rw [e]
 refine LoneTo.goes (n:=40) ?_
 simp only [Tryz.f114,bT]
 s_c stepG_seq
 s_c stepG_seq
 s_reg
 s_op
 s_op
 s_op
 s_op
 s_c stepG_region_end
 s_reg
 s_op
 s_op
 s_stop
 refine DZ (fn:=Tryz.f58) rfl rfl (by decide) rfl Tryz.func58 (by kernel_rfl) (by kernel_rfl) #[.int .u8 (kind.toNat:Int),v] (by simp [Act.eval]) (zx kind v l w B (by unfold gx;omega)) ?_
 rintro e w1 ⟨d,rfl,i,m⟩
 refine ⟨d,rfl,?_⟩
 walk_nrm
 refine LoneTo.goes (n:=40) ?_
 s_c stepG_region_end
 s_c stepG_seq
 s_reg
 s_stop
 have u:=q
 obtain ⟨s,r,vals,h1,h2,h3,h4⟩:=u
 have x:(sealB kind l).length=l.length+5:=by simp [sealB,zp]
 rw [←x] at i
 by_cases b:out.length<6
 ·refine LoneTo.step (step_lone_select_send_room (c:=c) (v:=d) (z' := .slice none 0 0) (cap:=6) (buf:=vals.toArray) (s:=s) (r:=r) (tm:=false)
   (stepG_comm (cases:=#[scase c d (.slice none 0 0)]) (blocking:=false) (shape := .select) (w':=w1) rfl rfl (by decide) (by simp [go_sem,execOp,scase,Act.eval])) (fK m (fI h1) h1) (by simp;omega)) ?_
  have o:=OutAt.push m h1 h2 h3 h4 y i (by omega) rfl
  rw [fj]
  walk_nrm
  refine LoneTo.goes (n:=40) ?_
  s_op
  s_op
  s_c stepG_region_end
  s_c stepG_block
  s_cond true
  s_c stepG_skip
  s_c stepG_inBlock
  s_c stepG_end
  s_stop
  refine LoneTo.done ⟨.returned (.tuple #[]),_,rfl,⟨rfl,?_⟩,rfl,rfl,rfl,rfl,_,Tryz.func114,by simp [results,Tryz.f114,Frame.at]⟩
  unfold tf
  rw [aF b]
  simpa using o
 ·refine LoneTo.step (step_lone_select_send_full (c:=c) (v:=d) (z' := .slice none 0 0) (cap:=6) (buf:=vals.toArray) (s:=s) (r:=r) (tm:=false)
   (stepG_comm (cases:=#[scase c d (.slice none 0 0)]) (blocking:=false) (shape := .select) (w':=w1) rfl rfl (by decide) (by simp [go_sem,execOp,scase,Act.eval])) (fK m (fI h1) h1) (by simp;omega)) ?_
  rw [fj]
  walk_nrm
  refine LoneTo.goes (n:=40) ?_
  s_op
  s_op
  s_c stepG_region_end
  s_c stepG_block
  s_cond false
  s_c stepG_skip
  s_c stepG_inBlock
  s_c stepG_end
  s_stop
  refine LoneTo.done ⟨.returned (.tuple #[]),_,rfl,⟨rfl,?_⟩,rfl,rfl,rfl,rfl,_,Tryz.func114,by simp [results,Tryz.f114,Frame.at]⟩
  unfold tf
  rw [aw b]
  exact ⟨(q.below m).mono fun j C => .inl C,Ext.fM m⟩
def Gt (w:World) (G:Nat→Prop) (c:Nat) (e:Ending) (w':World):List (List UInt8)→Prop
 | []=>e = .returned (.tuple #[.slice none 0 0,.bool false])∧w'=w
 | b::out=>∃ u,e = .returned (.tuple #[u,.bool true])∧oQ w' G u b∧OutAt w' (fun j=>G j∧u.ownBlock≠some j) c out∧Ext (fun j=>j=c) w w'
theorem OutAt.pop {w w':World} {G:Nat→Prop} {c:Nat} {b:List UInt8} {out:List (List UInt8)} {u:Value} {vals:List Value} {s r:Nat} (h1:w.heap[c]?=some (.chan 6 (u::vals).toArray false s r false)) (h2:(u::vals).length=(b::out).length)
  (h3:∀ (i:Nat) (x:List UInt8),(b::out)[i]?=some x→∃ v,(u::vals)[i]?=some v∧oQ w G v x) (h4:(u::vals).Pairwise fun u v=>u.ownBlock≠v.ownBlock) (he:w'=w.setChan c 6 vals.toArray false s (r+1) false) :
  oQ w' G u b∧OutAt w' (fun j=>G j∧u.ownBlock≠some j) c out∧Ext (fun j=>j=c) w w':=by
 have D:=fI h1
 have I:w'.heap.size=w.heap.size:=by rw [he,size_setChan]
 have d:∀ j,j≠c→w'.heap[j]?=w.heap[j]?:=fun j q=>by
  rw [he]
  simp [World.setChan,cc (dx q)]
 have m:∀ v x,oQ w G v x→oQ w' G v x:=fun v x ⟨f1,f2,f3⟩=>⟨f1.frame (by omega) fun j e q=>d j fun y=>by
  obtain ⟨-,⟨e0,J⟩ | ⟨g,off,cap,e0,-,-,-,-,l,-⟩⟩:=f1
  ·omega
  ·rw [e0] at e
   cases e
   have hc:=l 0 (by rw [iR];exact f2)
   unfold World.cell? at hc
   rw [y,h1] at hc
   exact absurd hc (by simp),f2,f3⟩
 rw [fv] at h4
 refine ⟨?_,⟨s,r+1,vals,?_,by simpa using h2,fun i x F => ?_,h4.2⟩,⟨by rw [he];rfl,by rw [he];rfl,by rw [he];rfl,by omega,fun j q E=>d j E⟩⟩
 ·obtain ⟨v,B,C⟩:=h3 0 b rfl
  cases B
  exact m _ _ C
 ·rw [he,heap_setChan w c 6 _ false s (r+1) false D]
 ·obtain ⟨v,B,C⟩:=h3 (i+1) x (by simpa using F)
  obtain ⟨f1,f2,f3⟩:=m _ _ C
  have o:vals[i]?=some v:=by simpa using B
  exact ⟨v,o,f1,f2,fun k e=>⟨f3 k e,fun y=>h4.1 v (aZ o) (y.trans e.symm)⟩⟩
theorem uY (a c:Nat) (G:Nat→Prop) (out:List (List UInt8)) (w:World) (hc:w.cell? ⟨a,4,none⟩=some (.chan (some c))) (j:OutAt w G c out) :
  Calls Tryz.prog 51 #[.pointer (some ⟨a,0,none⟩)] w fun e w'=>Gt w G c e w' out:=by
 have l:=fP hc
 refine calls_of_loneTo (fun cs => ?_) ?_
 rotate_left 1
 ·intro w' h
  cases out with
  | nil=>cases h.1
  | cons b out=>obtain ⟨u,h,-⟩:=h;cases h
 have e:Frame.enter Tryz.prog 51 #[.pointer (some ⟨a,0,none⟩)] .normal=(base 51).at ⟨#[.pointer (some ⟨a,0,none⟩),undef,undef,undef,undef,undef,undef,undef,undef,undef,undef,undef,undef,undef],[]⟩ [.code (Tryz.f51.body.getD .skip)]:=by
  simp [Frame.enter,Frame.at,Tryz.func51,base,Tryz.f51]
 rw [e]
 refine LoneTo.goes (n:=40) ?_
 simp only [Tryz.f51,bT]
 s_c stepG_seq
 s_reg
 s_op
 s_op
 s_c stepG_region_end
 s_c stepG_seq
 s_reg
 s_op
 s_op
 s_op
 s_op
 s_c stepG_region_end
 s_c stepG_seq
 s_reg
 s_stop
 have i:=j
 obtain ⟨s,r,vals,h1,h2,h3,h4⟩:=i
 cases out with
 | nil =>
  obtain rfl:vals=[]:=bK (by simpa using h2)
  refine LoneTo.step (step_lone_select_default (c:=c) (z := .slice none 0 0) (cap:=6) (s:=s) (r:=r) (tm:=false)
   (stepG_comm (cases:=#[rcase c (.slice none 0 0)]) (blocking:=false) (shape := .select) (w':=w) rfl rfl (by decide) (by simp [go_sem,execOp,rcase,Act.eval])) h1) ?_
  rw [fj]
  walk_nrm
  refine LoneTo.goes (n:=40) ?_
  s_op
  s_op
  s_c stepG_region_end
  s_c stepG_block
  s_cond false
  s_c stepG_seq
  s_reg
  s_op
  s_op
  s_c stepG_region_end
  s_c stepG_ret'
  s_stop
  exact LoneTo.done ⟨.returned (.tuple #[.slice none 0 0,.bool false]),_,rfl,⟨rfl,rfl⟩,rfl,rfl,rfl,rfl,_,Tryz.func51,by simp [results,Tryz.f51,Frame.at]⟩
 | cons b out =>
  cases vals with
  | nil=>simp at h2
  | cons u vals =>
   refine LoneTo.step (step_lone_select_recv_buf (c:=c) (z := .slice none 0 0) (cap:=6) (buf:=(u::vals).toArray) (closed:=false) (s:=s) (r:=r) (tm:=false)
    (stepG_comm (cases:=#[rcase c (.slice none 0 0)]) (blocking:=false) (shape := .select) (w':=w) rfl rfl (by decide) (by simp [go_sem,execOp,rcase,Act.eval])) h1 (by simp)) ?_
   have d:=OutAt.pop h1 h2 h3 h4 rfl
   rw [show (u::vals).toArray.extract 1 (u::vals).toArray.size=vals.toArray by simp]
   rw [fj]
   walk_nrm
   refine LoneTo.goes (n:=40) ?_
   s_op
   s_op
   s_c stepG_region_end
   s_c stepG_block
   s_cond true
   s_c stepG_seq
   s_reg
   s_op
   s_op
   s_c stepG_region_end
   s_c stepG_seq
   s_reg
   s_op
   s_op
   s_op
   s_c stepG_region_end
   s_c stepG_ret'
   s_stop
   exact LoneTo.done ⟨.returned (.tuple #[u,.bool true]),_,rfl,⟨u,rfl,d⟩,rfl,rfl,rfl,rfl,_,Tryz.func51,by simp [results,Tryz.f51,Frame.at]⟩
end Go.Proofs.YtkkfmkhbdoeglaaGreatDoor
namespace Go.Proofs.YtkkfmkhbdoeglaaGreatDoor
open Go.RowKit
theorem OutAt.frame {w w':World} {D O:Nat→Prop} {c:Nat} {out:List (List UInt8)} (h:OutAt w O c out) (d:Ext D w w') (hc:¬D c) (hO:∀ k,O k→¬D k):OutAt w' O c out:=by
 obtain ⟨s,r,vals,h1,h2,h3,h4⟩:=h
 refine ⟨s,r,vals,d.at hc h1,h2,fun i b j => ?_,h4⟩
 obtain ⟨u,hu,f1,f2,f3⟩:=h3 i b j
 exact ⟨u,hu,f1.frame d.size fun k e hk=>d.block k hk (hO k (f3 k e)),f2,f3⟩
def FltP (w:World) (G:Nat→Prop) (v:Value) (sec:Nat):Option (Nat×Nat)→Prop
 | none=>v = .pointer none
 | some f=>∃ b,v = .pointer (some ⟨b,0,none⟩)∧G b∧
  ((f.1≠12∧w.heap[b]?=some (.cells #[.int .i64 (f.1:Nat),.int .i64 (f.2:Nat),.nilIface] 166 (0,0)))∨
   (f.1=12∧∃ c,G c∧w.heap[b]?=some (.cells #[.int .i64 (f.1:Nat),.int .i64 (f.2:Nat),.iface 168 (.pointer (some ⟨c,0,none⟩))] 166 (0,0))∧w.heap[c]?=some (.cells #[.int .i64 ((sec:Int)-2)] 171 (0,0))))
theorem FltP.frame {w w':World} {D G:Nat→Prop} {v:Value} {sec:Nat} {f:Option (Nat×Nat)} (h:FltP w G v sec f) (d:Ext D w w') (i:∀ k C fz,G k→(w.heap[k]?=some (.cells C 166 fz)∨w.heap[k]?=some (.cells C 171 fz))→¬D k):FltP w' G v sec f:=by
 cases f with
 | none=>exact h
 | some f =>
  obtain ⟨b,h1,h2,h3⟩:=h
  refine ⟨b,h1,h2,?_⟩
  rcases h3 with ⟨h3,h4⟩ | ⟨h3,c,h4,h5,h6⟩
  ·exact .inl ⟨h3,d.at (i b _ _ h2 (.inl h4)) h4⟩
  ·exact .inr ⟨h3,c,h4,d.at (i b _ _ h2 (.inl h5)) h5,d.at (i c _ _ h4 (.inr h6)) h6⟩
theorem FltP.mono {w:World} {G G':Nat→Prop} {v:Value} {sec:Nat} {f:Option (Nat×Nat)} (h:FltP w G v sec f) (d:∀ k,G k→G' k):FltP w G' v sec f:=by
 cases f with
 | none=>exact h
 | some f =>
  obtain ⟨b,h1,h2,h3⟩:=h
  exact ⟨b,h1,d b h2,h3.imp id fun ⟨h3,c,h4,h5⟩=>⟨h3,c,d c h4,h5⟩⟩
def ComP (w:World) (G:Nat→Prop) (v:Value):Option (Nat×Nat×List (List UInt8))→Prop
 | none=>v = .pointer none
 | some (tv,of,got)=>∃ b bv,v = .pointer (some ⟨b,0,none⟩)∧G b∧w.heap[b]?=some (.cells #[.int .u64 (tv:Nat),.int .i64 (of:Nat),.int .i64 (got.length:Nat),bv] 214 (0,0))∧OwnS w 0 1 bv got.flatten.length (u8s got.flatten)∧CellsOf w bv 5∧∀ k,bv.ownBlock=some k→G k
theorem ComP.frame {w w':World} {D G:Nat→Prop} {v:Value} {m:Option (Nat×Nat×List (List UInt8))} (h:ComP w G v m) (d:Ext D w w') (i:∀ k C fz,G k→(w.heap[k]?=some (.cells C 214 fz)∨w.heap[k]?=some (.cells C 5 fz))→¬D k):ComP w' G v m:=by
 cases m with
 | none=>exact h
 | some m =>
  obtain ⟨tv,of,got⟩:=m
  obtain ⟨b,bv,h1,h2,h3,h4,h5,h6⟩:=h
  have hk:∀ k,bv.ownBlock=some k→k<w.heap.size→w'.heap[k]?=w.heap[k]?:=fun k e hk=>by
   obtain ⟨C,fz,j⟩:=h5 k e
   exact d.block k hk (i k _ _ (h6 k e) (.inr j))
  exact ⟨b,bv,h1,h2,d.at (i b _ _ h2 (.inl h3)) h3,h4.frame d.size hk,h5.frame hk,h6⟩
theorem ComP.mono {w:World} {G G':Nat→Prop} {v:Value} {m:Option (Nat×Nat×List (List UInt8))} (h:ComP w G v m) (d:∀ k,G k→G' k):ComP w G' v m:=by
 cases m with
 | none=>exact h
 | some m =>
  obtain ⟨tv,of,got⟩:=m
  obtain ⟨b,bv,h1,h2,h3,h4,h5,h6⟩:=h
  exact ⟨b,bv,h1,d b h2,h3,h4,h5,fun k e=>d k (h6 k e)⟩
structure AV where
 r:Nat
 lg:Nat
 c:Nat
 fp:Value
 cp:Value
def AV.cells (x:AV) (v h:Nat):Array Value:=#[.map (some x.r),.int .u64 (v:Nat),.pointer (some ⟨x.lg,0,none⟩),rO h,.chan (some x.c),x.fp,x.cp]
structure AgAt (w:World) (G O:Nat→Prop) (a h:Nat) (P:PAg) (x:AV):Prop where
 row:w.heap[a]?=some (.cells (x.cells P.a.V h) 117 (0,0))
 tab:TabAt w x.r P.a.T
 log:LogAt w x.lg h P.lg
 out:OutAt w O x.c P.a.out
 flt:FltP w G x.fp P.sec P.a.deg
 com:ComP w G x.cp P.a.com
 gin:G a∧G x.r∧G x.lg∧G x.c
 glt:∀ k,G k→k<w.heap.size
 olt:∀ k,O k→k<w.heap.size
 sep:∀ k,G k→¬O k
theorem AgAt.frame {w w':World} {D G O:Nat→Prop} {a h:Nat} {P:PAg} {x:AV} (ha:AgAt w G O a h P x) (b:Ext D w w') (d:∀ k,G k→¬D k) (hO:∀ k,O k→¬D k):AgAt w' G O a h P x :=
 ⟨b.at (d _ ha.gin.1) ha.row,ha.tab.fW (b.block _ ha.tab.lt (d _ ha.gin.2.1)),b.at (d _ ha.gin.2.2.1) ha.log,ha.out.frame b (d _ ha.gin.2.2.2) hO,ha.flt.frame b fun k _ _ hk _=>d k hk,ha.com.frame b fun k _ _ hk _=>d k hk,ha.gin,fun k hk=>aC (ha.glt k hk) b.size,fun k hk=>aC (ha.olt k hk) b.size,ha.sep⟩
theorem AgAt.below {w w':World} {G O:Nat→Prop} {a h:Nat} {P:PAg} {x:AV} (ha:AgAt w G O a h P x) (b:Below w.heap.size w w'):AgAt w' G O a h P x :=
 ha.frame (D:=fun _=>False) (Ext.fM b) (fun _ _=>id) (fun _ _=>id)
theorem mY {w:World} {c b cap s r:Nat} {vals C:Array Value} {t u:Bool} {T:TypeId} {fz:Nat×Nat} (h:w.heap[c]?=some (.chan cap vals t s r u)) (k:w.heap[b]?=some (.cells C T fz)):b≠c:=fun e=>by
 rw [e,h] at k
 cases k
theorem iM {w:World} {b d:Nat} {C D:Array Value} {T U:TypeId} {fz i:Nat×Nat} (h:w.heap[b]?=some (.cells C T fz)) (k:w.heap[d]?=some (.cells D U i)) (j:T≠U):b≠d:=fun e=>by
 rw [e,k] at h
 injection h with h
 injection h with _ h
 exact j h.symm
theorem AgAt.outs {w w':World} {G O O':Nat→Prop} {a h:Nat} {P:PAg} {x:AV} {out:List (List UInt8)} (ha:AgAt w G O a h P x) (d:OutAt w' O' x.c out) (b:Ext (fun j=>j=x.c) w w') (hl:∀ k,O' k→k<w'.heap.size) (hs:∀ k,O' k→O k∨w.heap.size≤k):AgAt w' G O' a h {P with a := {P.a with out:=out}} x:=by
 obtain ⟨s,r,vals,h1,-⟩:=ha.out
 refine ⟨b.at (mY h1 ha.row) ha.row,ha.tab.fW (b.block _ ha.tab.lt fun e => ?_),b.at (mY h1 ha.log) ha.log,d,ha.flt.frame b fun k C fz _ hk e => ?_,ha.com.frame b fun k C fz _ hk e => ?_,ha.gin,fun k hk=>aC (ha.glt k hk) b.size,hl,fun k hk d => ?_⟩
 ·obtain ⟨-,L,hm,-⟩:=ha.tab
  obtain ⟨es,q,hq,-⟩:=hm
  rw [e,h1] at hq
  cases hq
 ·subst e
  rcases hk with hk | hk <;> exact mY h1 hk rfl
 ·subst e
  rcases hk with hk | hk <;> exact mY h1 hk rfl
 ·rcases hs k d with h | h
  ·exact ha.sep k hk h
  ·have:=ha.glt k hk
   omega
def oP (w:World) (G O:Nat→Prop) (a h:Nat) (P:PAg) (w':World):Prop:=∃ G' O' x,AgAt w' G' O' a h P x∧(∀ k,G' k∨O' k→G k∨O k∨w.heap.size≤k)∧Ext (fun k=>G k) w w'
theorem oP.gw {w w1 w':World} {G O:Nat→Prop} {a h:Nat} {P:PAg} (b:Below w.heap.size w w1) (d:oP w1 G O a h P w'):oP w G O a h P w':=by
 obtain ⟨G',O',x,h1,h2,h3⟩:=d
 exact ⟨G',O',x,h1,fun k hk=>(h2 k hk).imp id fun h=>h.imp id fun h=>aI b.size h,(Ext.fM b).trans h3⟩
theorem oP.below {w w1 w':World} {G O:Nat→Prop} {a h:Nat} {P:PAg} (d:oP w G O a h P w1) (b:Below w1.heap.size w1 w'):oP w G O a h P w':=by
 obtain ⟨G',O',x,h1,h2,h3⟩:=d
 exact ⟨G',O',x,h1.below b,h2,h3.trans (Ext.fM b)⟩
theorem oP.trans {w w1 w':World} {G O b d:Nat→Prop} {a h:Nat} {P:PAg} (h1:∀ k,b k∨d k→G k∨O k∨w.heap.size≤k) (h2:Ext (fun k=>G k) w w1) (h3:∀ k,b k→G k∨w.heap.size≤k) (i:oP w1 b d a h P w'):oP w G O a h P w':=by
 obtain ⟨G',O',x,g1,g2,g3⟩:=i
 refine ⟨G',O',x,g1,fun k hk => ?_,h2.trans' g3 h3⟩
 rcases g2 k hk with h | h | h
 ·exact h1 k (.inl h)
 ·exact h1 k (.inr h)
 ·exact .inr (.inr (aI h2.size h))
end Go.Proofs.YtkkfmkhbdoeglaaGreatDoor
namespace Go.Proofs.YtkkfmkhbdoeglaaGreatDoor
open Go.RowKit
theorem Iu (a:AgA) (k:UInt8) (b:List UInt8):a.put k b = {a with out:=tf a.out k b} := by
 unfold AgA.put tf
 split <;> rfl
def ke (w:World) (G O:Nat→Prop) (a h:Nat) (P:PAg) (x:AV) (w':World):Prop:=∃ O',AgAt w' G O' a h P x∧(∀ k,O' k→O k∨w.heap.size≤k)∧Ext (fun j=>j=x.c) w w'
theorem ke.gw {w w1 w':World} {G O:Nat→Prop} {a h:Nat} {P:PAg} {x:AV} (b:Below w.heap.size w w1) (d:ke w1 G O a h P x w'):ke w G O a h P x w':=by
 obtain ⟨O',h1,h2,h3⟩:=d
 exact ⟨O',h1,fun k hk=>(h2 k hk).imp id fun h=>aI b.size h,(Ext.fM b).trans h3⟩
theorem ke.trans {w w1 w':World} {G O b:Nat→Prop} {a h:Nat} {P:PAg} {x:AV} (h1:∀ k,b k→O k∨w.heap.size≤k) (h2:Ext (fun j=>j=x.c) w w1) (d:ke w1 G b a h P x w'):ke w G O a h P x w':=by
 obtain ⟨O',g1,g2,g3⟩:=d
 exact ⟨O',g1,fun k hk=>(g2 k hk).elim (h1 k) fun h => .inr (aI h2.size h),h2.trans g3⟩
theorem ke.go {w w':World} {G O:Nat→Prop} {a h:Nat} {P:PAg} {x:AV} (b:ke w G O a h P x w') (hc:G x.c):oP w G O a h P w':=by
 obtain ⟨O',h1,h2,h3⟩:=b
 exact ⟨G,O',x,h1,fun k hk=>hk.elim .inl fun h => .inr (h2 k h),h3.mono fun k e=>e▸hc⟩
theorem AgAt.put {w w':World} {G O:Nat→Prop} {a h:Nat} {P:PAg} {x:AV} (ha:AgAt w G O a h P x) {k:UInt8} {l:List UInt8} (i:OutAt w' (fun j=>O j∨(w.heap.size≤j∧j<w'.heap.size)) x.c (tf P.a.out k l)) (d:Ext (fun j=>j=x.c) w w'):ke w G O a h {P with a:=P.a.put k l} x w':=by
 rw [Iu]
 exact ⟨fun j=>O j∨(w.heap.size≤j∧j<w'.heap.size),ha.outs i d (fun j b=>b.elim (fun h=>aC (ha.olt j h) d.size) fun h=>h.2) (fun j b=>b.imp id fun h=>h.1),fun j b=>b.imp id fun h=>h.1,d⟩
theorem kI (a h:Nat) (P:PAg) (x:AV) (G O:Nat→Prop) (w:World) (ha:AgAt w G O a h P x) (r:P.a.V<18446744073709551616) :
  Calls Tryz.prog 87 #[.pointer (some ⟨a,0,none⟩)] w fun e w'=>e = .returned (.tuple #[])∧ke w G O a h {P with a:=P.a.jb} x w':=by
 have s:=ae ha
 have r0:=ha.row
 unfold AV.cells at r0
 have c1:=af _ _ 1 _ _ _ r0
 have c4:=af _ _ 4 _ _ _ r0
 have j:=fI r0
 clear ha r0
 go_enter Tryz.func87,Tryz.ntmps87
 go_wp2_with fail
 refine (rK w.heap.size (.slice none 0 0) [] P.a.V w (OwnS.nil _ _ _) (ah _) (by simp [gx]) r).mono ?_
 rintro e w2 ⟨bv,rfl,b,d⟩
 simp only [aJ,bF,aQ] at b
 have i:=ae (s.out.below d)
 have d4:=(d.cell (p:=⟨a,4,none⟩) j).trans c4
 have l:=ae d
 have m:=ae b
 clear d c1 c4 b
 go_wp2_with fail
 refine (qE a x.c O P.a.out 16 bv (j4 P.a.V) w2 d4 i.out.out i.out.olt (by have:=m.out.bytes;simpa [fY] using this) (by rw [fY];omega)).mono ?_
 rintro e w3 ⟨rfl,o,q⟩
 have u:=ae (ke.gw l.out (i.out.put o q))
 clear o q d4
 go_wp2
 go_end0
 exact ⟨rfl,u.out⟩
theorem oS (a h:Nat) (P:PAg) (x:AV) (G O:Nat→Prop) (w:World) (ha:AgAt w G O a h P x) (r:P.a.V<18446744073709551616) :
  Calls Tryz.prog 116 #[.pointer (some ⟨a,0,none⟩)] w fun e w'=>e = .returned (.tuple #[])∧ke w G O a h {P with a:=P.a.lJ} x w':=by
 have s:=ae ha
 have r0:=ha.row
 unfold AV.cells at r0
 have c1:=af _ _ 1 _ _ _ r0
 have c4:=af _ _ 4 _ _ _ r0
 have j:=fI r0
 clear ha r0
 go_enter Tryz.func116,Tryz.ntmps116
 go_wp2_with fail
 refine (rK w.heap.size (.slice none 0 0) [] P.a.V w (OwnS.nil _ _ _) (ah _) (by simp [gx]) r).mono ?_
 rintro e w2 ⟨bv,rfl,b,d⟩
 simp only [aJ,bF,aQ] at b
 have i:=ae (s.out.below d)
 have d4:=(d.cell (p:=⟨a,4,none⟩) j).trans c4
 have l:=ae d
 have m:=ae b
 clear d c1 c4 b
 go_wp2_with fail
 refine (qE a x.c O P.a.out 17 bv (j4 P.a.V) w2 d4 i.out.out i.out.olt (by have:=m.out.bytes;simpa [fY] using this) (by rw [fY];omega)).mono ?_
 rintro e w3 ⟨rfl,o,q⟩
 have u:=ae (ke.gw l.out (i.out.put o q))
 clear o q d4
 go_wp2
 go_end0
 exact ⟨rfl,u.out⟩
theorem mw (a h k:Nat) (P:PAg) (x:AV) (G O:Nat→Prop) (w:World) (ha:AgAt w G O a h P x) (hk:k<256) :
  Calls Tryz.prog 80 #[.pointer (some ⟨a,0,none⟩),.int .i64 (k:Nat)] w fun e w'=>e = .returned (.tuple #[])∧ke w G O a h {P with a:=P.a.gW k} x w':=by
 have s:=ae ha
 have r0:=ha.row
 unfold AV.cells at r0
 have c4:=af _ _ 4 _ _ _ r0
 have i:=fI r0
 have j:Hid (((k:Nat):Int)%256=((UInt8.ofNat k).toNat:Int)):=ae (by simp)
 have l:Hid (((k:Nat):Int)=((UInt8.ofNat k).toNat:Int)):=ae (by simp;omega)
 have b:Below w.heap.size w (w.alloc (.cells #[.int .u8 ((UInt8.ofNat k).toNat:Int)] 5)):=(Below.rf w).alloc (ah _) _
 have d:=ae (s.out.below b)
 have m:=ae (pc w (UInt8.ofNat k))
 have d4:=(b.cell (p:=⟨a,4,none⟩) i).trans c4
 have o:=ae b
 clear ha r0 b c4
 go_enter Tryz.func80,Tryz.ntmps80
 go_wp2_with fail
 first | rw [j.out] | rw [l.out]
 refine (qE a x.c O P.a.out 18 _ [UInt8.ofNat k] _ d4 d.out.out d.out.olt m.out (by simp)).mono ?_
 rintro e w3 ⟨rfl,q,r⟩
 have u:=ae (ke.gw o.out (d.out.put q r))
 clear q r d4
 go_wp2
 go_end0
 exact ⟨rfl,u.out⟩
theorem pS (a h:Nat) (P:PAg) (x:AV) (G O:Nat→Prop) (w:World) (ha:AgAt w G O a h P x) (tv of:Nat) (got:List (List UInt8)) (hc:P.a.com=some (tv,of,got)) (E:got.length<256) :
  Calls Tryz.prog 94 #[.pointer (some ⟨a,0,none⟩)] w fun e w'=>e = .returned (.tuple #[])∧ke w G O a h {P with a:=P.a.jM} x w':=by
 have B:=ae ha
 have r0:=ha.row
 have d:=ha.com
 rw [hc] at d
 obtain ⟨F,bv,l,-,i,-⟩:=d
 unfold AV.cells at r0
 rw [l] at r0
 have c4:=af _ _ 4 _ _ _ r0
 have I:=af _ _ 6 _ _ _ r0
 have g2:=af _ _ 2 _ _ _ i
 have m:=fI r0
 have o:Hid (((got.length:Nat):Int)%256=((UInt8.ofNat got.length).toNat:Int)):=ae (by simp)
 have q:Hid (((got.length:Nat):Int)=((UInt8.ofNat got.length).toNat:Int)):=ae (by simp;omega)
 have b:Below w.heap.size w (w.alloc (.cells #[.int .u8 ((UInt8.ofNat got.length).toNat:Int)] 5)):=(Below.rf w).alloc (ah _) _
 have j:=ae (B.out.below b)
 have r:=ae (pc w (UInt8.ofNat got.length))
 have d4:=(b.cell (p:=⟨a,4,none⟩) m).trans c4
 have s:=ae b
 have C:Hid (P.a.jM=P.a.put 19 [UInt8.ofNat got.length]):=ae (by unfold AgA.jM AgA.IJ;rw [hc])
 clear ha r0 b c4 i l hc
 go_enter Tryz.func94,Tryz.ntmps94
 go_wp2_with fail
 first | rw [o.out] | rw [q.out]
 refine (qE a x.c O P.a.out 19 _ [UInt8.ofNat got.length] _ d4 j.out.out j.out.olt r.out (by simp)).mono ?_
 rintro e w3 ⟨rfl,u,y⟩
 have D:=ae (ke.gw s.out (j.out.put u y))
 clear u y d4
 go_wp2
 go_end0
 exact ⟨rfl,by rw [C.out];exact D.out⟩
theorem AgAt.If {w:World} {G O:Nat→Prop} {a h:Nat} {P:PAg} {x:AV} (ha:AgAt w G O a h P x):(P.a.deg=none∧x.fp = .pointer none)∨(∃ f b,P.a.deg=some f∧x.fp = .pointer (some ⟨b,0,none⟩)):=by
 have d:=ha.flt
 cases hd:P.a.deg with
 | none=>rw [hd] at d;exact .inl ⟨rfl,d⟩
 | some f=>rw [hd] at d;obtain ⟨b,i,-⟩:=d;exact .inr ⟨f,b,rfl,i⟩
end Go.Proofs.YtkkfmkhbdoeglaaGreatDoor
namespace Go.Proofs.YtkkfmkhbdoeglaaGreatDoor
open Go.RowKit
theorem wO (a h:Nat) (P:PAg) (x:AV) (G O:Nat→Prop) (w:World) (ha:AgAt w G O a h P x) :
  Calls Tryz.prog 47 #[.pointer (some ⟨a,0,none⟩)] w fun e w'=>e = .returned (.int .u64 (P.a.V:Nat))∧w'=w:=by
 have r0:=ha.row
 unfold AV.cells at r0
 have c1:=af _ _ 1 _ _ _ r0
 have b:=fI r0
 clear ha r0
 go_enter Tryz.func47,Tryz.ntmps47
 go_wp2
 go_ret
 exact ⟨rfl,rfl⟩
def qC (w:World) (G O:Nat→Prop) (a h:Nat) (b:PAg) (r:Option Nat) (e:Ending) (w':World):Prop :=
 oP w G O a h b w'∧match r with
  | none=>e = .returned .nilIface
  | some k=>∃ ev p,e = .returned ev∧iT w' w.heap.size ev (k:Nat) p
theorem zA (a h:Nat) (P:PAg) (x:AV) (G O:Nat→Prop) (bv:Value) (body:List UInt8) (w:World) (ha:AgAt w G O a h P x) (j:P.a.V<18446744073709551616) (d:BytesAt w bv body) (hl:body.length≤gx) :
  Calls Tryz.prog 82 #[.pointer (some ⟨a,0,none⟩),bv] w (qC w G O a h (if body=[] then {P with a:=P.a.jb} else P) (if body=[] then none else some 2)):=by
 obtain ⟨s,m,rfl,-,-⟩:=d.opened
 have i:=ae ha
 have r:gx≤1000000000000000000:=by decide
 cases body with
 | nil =>
  rw [aF rfl,aF rfl]
  clear ha d
  go_enter Tryz.func82,Tryz.ntmps82
  go_wp2_with fail
  refine (kI a h P x G O w i.out j).mono ?_
  rintro e w1 ⟨rfl,b⟩
  have o:=ae b
  clear b
  go_wp2
  go_ret
  exact ⟨o.out.go i.out.gin.2.2.2,rfl⟩
 | cons y l =>
  rw [aw (by simp),aw (by simp)]
  have q:(0:Int)<((y::l).length:Int):=by rw [au];omega
  generalize (y::l).length=n at *
  clear ha d
  go_enter Tryz.func82,Tryz.ntmps82
  go_wp2_with fail
  refine (gE 2 0 w).mono ?_
  rintro e w1 ⟨rfl,rfl⟩
  go_wp2
  go_ret
  exact ⟨⟨G,O,x,i.out.below ((Below.rf w).alloc (ah _) _),fun k hk=>hk.imp id .inl,Ext.fM ((Below.rf w).alloc (ah _) _)⟩,_,0,rfl,iT.new w _ 2 0 (ah _)⟩
end Go.Proofs.YtkkfmkhbdoeglaaGreatDoor
namespace Go.Proofs.YtkkfmkhbdoeglaaGreatDoor
open Go.RowKit
theorem AgAt.uG {w w':World} {G O:Nat→Prop} {a h:Nat} {P:PAg} {x:AV} (ha:AgAt w G O a h P x) (b:Ext (fun j=>j=a) w w'):FltP w' G x.fp P.sec P.a.deg :=
 ha.flt.frame b fun k C fz _ hk e=>by
  subst e
  rcases hk with hk | hk <;> exact iM ha.row hk (by decide) rfl
theorem AgAt.yu {w w':World} {G O:Nat→Prop} {a h:Nat} {P:PAg} {x:AV} (ha:AgAt w G O a h P x) (b:Ext (fun j=>j=a) w w'):ComP w' G x.cp P.a.com :=
 ha.com.frame b fun k C fz _ hk e=>by
  subst e
  rcases hk with hk | hk <;> exact iM ha.row hk (by decide) rfl
theorem AgAt.oq {w w':World} {G G' O:Nat→Prop} {a h:Nat} {P P':PAg} {x x':AV} (ha:AgAt w G O a h P x) (b:Ext (fun j=>j=a) w w') (l:w'.heap[a]?=some (.cells (x'.cells P'.a.V h) 117 (0,0))) (m:x'.r=x.r) (o:x'.lg=x.lg) (q:x'.c=x.c) (y:P'.a.T=P.a.T) (B:P'.lg=P.lg) (C:P'.a.out=P.a.out)
  (d:∀ k,G k→G' k) (i:∀ k,G' k→k<w'.heap.size∧¬O k) (D:FltP w' G' x'.fp P'.sec P'.a.deg) (hc:ComP w' G' x'.cp P'.a.com):AgAt w' G' O a h P' x':=by
 obtain ⟨s,r,vals,h1,-⟩:=ha.out
 have u:x.r≠a:=fun e=>ha.tab.jQ ha.row e.symm
 refine ⟨l,?_,?_,?_,D,hc,⟨d _ ha.gin.1,by rw [m];exact d _ ha.gin.2.1,by rw [o];exact d _ ha.gin.2.2.1,by rw [q];exact d _ ha.gin.2.2.2⟩,fun k hk=>(i k hk).1,fun k hk=>aC (ha.olt k hk) b.size,fun k hk=>(i k hk).2⟩
 ·rw [m,y]
  exact ha.tab.fW (b.block _ ha.tab.lt u)
 ·rw [o,B]
  have hl:=ha.log
  unfold LogAt at hl⊢
  exact b.at (fun e=>iM ha.row hl (by decide) e.symm) hl
 ·rw [q,C]
  exact ha.out.frame b (fun e=>mY h1 ha.row e.symm) fun k hk e=>ha.sep a ha.gin.1 (e▸hk)
theorem Dw (w:World) (b i:Nat) (v:Value) (o:Obj):Ext (fun j=>j=b) (w.alloc o) ((w.setCell ⟨b,i,none⟩ v).alloc o):=by
 refine ⟨rfl,rfl,rfl,by rw [ax,ax,size_setCell];exact ah _,fun j m l => ?_⟩
 rw [ax] at m
 by_cases d:j<w.heap.size
 ·rw [heap_alloc_old _ _ d,heap_alloc_old _ _ (by rw [size_setCell];exact d)]
  exact Below.heap_setCell w ⟨b,i,none⟩ v j l
 ·obtain rfl:j=w.heap.size:=by omega
  have h1:=fL w o
  have h2:=fL (w.setCell ⟨b,i,none⟩ v) o
  rw [size_setCell] at h2
  rw [h1,h2]
def AgA.gS (a:AgA) (body:List UInt8):AgA×Option Nat :=
 if body.length<9 then (a,some 1) else if 9<body.length then (a,some 2)
 else if isVersionB (iL (body.take 8))=false then (a,some 4)
 else if (body.getD 8 0).toNat<1∨16<(body.getD 8 0).toNat then (a,some 5)
 else if iL (body.take 8)≤a.V then (a.lJ,none)
 else (AgA.jM {a with com:=some (iL (body.take 8),(body.getD 8 0).toNat,[])},none)
theorem EY (a:AgA) (body:List UInt8):a.mM body=match (a.gS body).2 with
  | none=>(a.gS body).1
  | some k=>a.bad k:=by
 unfold AgA.mM AgA.gS
 split
 ·rfl
 ·split
  ·rfl
  ·split
   ·rfl
   ·split
    ·rfl
    ·split <;> rfl
theorem uK {w w':World} {G O:Nat→Prop} {a h:Nat} {P:PAg} {x:AV} (ha:AgAt w G O a h P x) (b:Below w.heap.size w w'):oP w G O a h P w':=⟨G,O,x,ha.below b,fun _k hk=>hk.imp id .inl,Ext.fM b⟩
theorem EX (body:List UInt8):(body.length<9→∃ p,((Cu.take ⟨body,0,0,none⟩ 8).1.take 1).1.f=some (1,p))∧
  (9≤body.length→((Cu.take ⟨body,0,0,none⟩ 8).1.take 1).1.f=none∧((Cu.take ⟨body,0,0,none⟩ 8).1.take 1).1.to=9∧(Cu.take ⟨body,0,0,none⟩ 8).2=body.take 8∧((Cu.take ⟨body,0,0,none⟩ 8).1.take 1).2=[body.getD 8 0]):=by
 rw [Cu.ik]
 constructor
 ·intro hl
  by_cases h8:body.length<8
  ·rw [aF (by omega)]
   exact ⟨0,by rw [Cu.jI]⟩
  ·rw [aw (by omega)]
   exact ⟨8,by rw [Cu.ik,aF (by omega)]⟩
 ·intro hl
  rw [aw (by omega),Cu.ik,aw (by omega)]
  refine ⟨rfl,rfl,by simp,?_⟩
  have h8:8<body.length:=by omega
  show (body.drop (0+8)).take 1=_
  rw [bF,cd h8,bA,ch,aP,ay h8]
  rfl
theorem yn (a h:Nat) (P:PAg) (x:AV) (G O:Nat→Prop) (bv:Value) (body:List UInt8) (w:World) (ha:AgAt w G O a h P x) (hv:P.a.V<18446744073709551616) (hb:BytesAt w bv body) (S:∀ b,bv.ownBlock=some b→b<w.heap.size) (hl:body.length≤gx) :
  Calls Tryz.prog 83 #[.pointer (some ⟨a,0,none⟩),bv] w (qC w G O a h {P with a:=(P.a.gS body).1} (P.a.gS body).2):=by
 obtain ⟨ba,F,rfl,-,-⟩:=hb.opened
 have I:=ae ha
 have bS:gx≤1000000000000000000:=by decide
 have am:CurAt (w.alloc (.cells #[.slice ba body.length F,.int .i64 0,.int .i64 0,.pointer none] 211)) w.heap.size w.heap.size ⟨body,0,0,none⟩ :=
  ⟨aL _,ah _,hl,ah _,.slice ba body.length F,none,fL _ _,hb.below ((Below.rf w).alloc (ah _) _),fun b e=>S b e,rfl⟩
 have bl:=ae am
 have U:=ae (EX body)
 have bX:∀ b,(Value.slice ba body.length F).ownBlock=some b→b≠w.heap.size:=fun b e=>by have:=S b e;omega
 clear am ha hb S
 obtain ⟨D,W⟩:∃ D,D=Cu.take ⟨body,0,0,none⟩ 8:=⟨_,rfl⟩
 obtain ⟨X,Y⟩:∃ X,X=D.1.take 1:=⟨_,rfl⟩
 rw [←W,←Y] at U
 have ap:=ae W
 have av:=ae Y
 clear W Y
 go_enter Tryz.func83,Tryz.ntmps83
 go_wp2_with fail
 refine (mo w.heap.size w.heap.size ⟨body,0,0,none⟩ _ bl.out (by simp)).mono ?_
 rintro e w1 ⟨rfl,J,u⟩
 rw [←ap.out] at J⊢
 have cf:Below w.heap.size w w1:=((Below.rf w).alloc (ah _) _).trans (by refine ⟨u.os,u.tape,u.output,u.size,fun k hk=>u.block k (by simp;omega) (fun e=>by cases e;omega)⟩)
 have Z:=ae cf
 have a7:=ae J
 have aa:Hid (iL D.2<18446744073709551616):=ae (by
  have h8:D.2.length=8:=by rw [ap.out,Cu.take_length]
  have:=qL 8 D.2 (by omega)
  rw [aS (by omega)] at this
  simpa using this)
 obtain ⟨V,hV⟩:∃ V,V=iL D.2:=⟨_,rfl⟩
 have HV:=ae hV
 rw [←hV] at aa⊢
 clear J u cf hV
 go_wp2_with fail
 refine (jH w.heap.size w.heap.size D.1 1 w1 a7.out Z.out.size (by omega) (by omega)).mono ?_
 rintro e w2 ⟨tv,rfl,M,-,ab,y⟩
 rw [←av.out] at M ab
 have d:Hid (Below w.heap.size w w2):=ae (Z.out.trans ⟨y.os,y.tape,y.output,y.size,fun k hk=>y.block k (by have:=Z.out.size;omega) (fun e=>by cases e;omega)⟩)
 obtain ⟨N,hN⟩:∃ N,X.2=[N]:=by
  have:X.2.length=1:=by rw [av.out,Cu.take_length]
  match X.2,this with
  | [N],_=>exact ⟨N,rfl⟩
 have HN:=ae hN
 rw [hN] at M
 obtain ⟨ta,bO,rfl,b0,aE⟩:=M.opened
 obtain ⟨tb,b1,rfl,t0⟩:=aE 0 (by simp)
 obtain ⟨-,-,-,-,cv,fp,C,-,-,m⟩:=ab
 have c2:=af _ _ 2 _ _ _ C
 have c3:=af _ _ 3 _ _ _ C
 have b2:=fI C
 have a0:=ae m
 simp only [cn,cC] at t0
 obtain ⟨l,Q⟩:∃ l,l=N.toNat:=⟨_,rfl⟩
 rw [←Q] at t0
 have b3:l<256:=by rw [Q];exact N.toNat_lt
 have br:=ae Q
 clear Q
 clear m aE M hN y C
 by_cases h9:body.length<9
 ·obtain ⟨p,hp⟩:=U.out.1 h9
  have m:=a0.out
  rw [hp] at m
  obtain ⟨g,rfl,-⟩:=m
  have r:Hid (P.a.gS body=(P.a,some 1)):=ae (by unfold AgA.gS;rw [aF h9])
  clear hp h9
  go_wp2_with fail
  refine (gE 1 0 _).mono ?_
  rintro e w3 ⟨rfl,rfl⟩
  have s:=ae (d.out.alloc d.out.size (.cells #[.int .i64 1,.int .i64 0,.nilIface] 166))
  go_wp2
  go_ret
  rw [r.out]
  exact ⟨uK I.out s.out,_,0,rfl,iT.new _ _ 1 0 d.out.size⟩
 ·have bt:9≤body.length:=by omega
  obtain ⟨e1,e2,e3,e4⟩:=U.out.2 bt
  have m:=a0.out
  rw [e1] at m
  obtain rfl:fp=none:=m
  rw [e2] at c2
  rw [e4] at HN
  have E:N=body.getD 8 0:=(List.cons.inj HN.out).1.symm
  have E:l=(body.getD 8 0).toNat:=by rw [br.out,E]
  have ag:V=iL (body.take 8):=by rw [HV.out,e3]
  clear e1 e2 e3 e4
  by_cases R:9<body.length
  ·have bb:(9:Int)<(body.length:Int):=by omega
   have r:Hid (P.a.gS body=(P.a,some 2)):=ae (by unfold AgA.gS;rw [aw (by omega),aF R])
   clear E ag R
   go_wp2_with fail
   refine (gE 2 0 _).mono ?_
   rintro e w3 ⟨rfl,rfl⟩
   have s:=ae (d.out.alloc d.out.size (.cells #[.int .i64 2,.int .i64 0,.nilIface] 166))
   go_wp2
   go_ret
   rw [r.out]
   exact ⟨uK I.out s.out,_,0,rfl,iT.new _ _ 2 0 d.out.size⟩
  ·have bb:¬(9:Int)<(body.length:Int):=by omega
   have HS:Hid (P.a.gS body=if isVersionB V=false then (P.a,some 4) else if l<1∨16<l then (P.a,some 5) else if V≤P.a.V then (P.a.lJ,none) else (AgA.jM {P.a with com:=some (V,l,[])},none)):=ae (by unfold AgA.gS;rw [aw (by omega),aw R,←ag,←E])
   clear E ag R h9
   have bM:=aa.out
   go_upto_region 10 with fail
   go_wp2_with fail
   refine (jh V w2).mono ?_
   rintro e b4 ⟨rfl,rfl⟩
   cases o:isVersionB V with
   | false =>
    have r:Hid (P.a.gS body=(P.a,some 4)):=ae (by rw [HS.out,aF o])
    clear o
    go_wp2_with fail
    refine (gE 4 0 _).mono ?_
    rintro e w3 ⟨rfl,rfl⟩
    have s:=ae (d.out.alloc d.out.size (.cells #[.int .i64 4,.int .i64 0,.nilIface] 166))
    go_wp2
    go_ret
    rw [r.out]
    exact ⟨uK I.out s.out,_,0,rfl,iT.new _ _ 4 0 d.out.size⟩
   | true =>
    by_cases B:l<1∨16<l
    ·have r:Hid (P.a.gS body=(P.a,some 5)):=ae (by rw [HS.out,aw (by rw [o];decide),aF B])
     have bH:((l:Int)<1)∨(¬(l:Int)<1∧(16:Int)<(l:Int)):=by omega
     clear o B
     rcases bH with g1 | ⟨g1,g2⟩
     all_goals
      go_wp2_with fail
      refine (gE 5 0 _).mono ?_
      rintro e w3 ⟨rfl,rfl⟩
      have s:=ae (d.out.alloc d.out.size (.cells #[.int .i64 5,.int .i64 0,.nilIface] 166))
      go_wp2
      go_ret
      rw [r.out]
      exact ⟨uK I.out s.out,_,0,rfl,iT.new _ _ 5 0 d.out.size⟩
    ·have g1:¬(l:Int)<1:=by omega
     have g2:¬(16:Int)<(l:Int):=by omega
     have q:=ae (I.out.below d.out)
     have r2:=q.out.row
     unfold AV.cells at r2
     have d1:=af _ _ 1 _ _ _ r2
     have d6:=af _ _ 6 _ _ _ r2
     have z6:=ao _ _ 6 _ _ r2
     have b5:=fI r2
     clear r2
     by_cases hle:V≤P.a.V
     ·have bc:(V:Int)≤(P.a.V:Int):=by omega
      have r:Hid (P.a.gS body=(P.a.lJ,none)):=ae (by rw [HS.out,aw (by rw [o];decide),aw B,aF hle])
      clear o B hle
      go_wp2_with fail
      refine (oS a h P x G O w2 q.out hv).mono ?_
      rintro e w3 ⟨rfl,a1⟩
      have HP:=ae a1
      clear a1
      go_wp2
      go_ret
      rw [r.out]
      exact ⟨oP.gw d.out (HP.out.go I.out.gin.2.2.2),rfl⟩
     ·have bc:¬(V:Int)≤(P.a.V:Int):=by omega
      have r:Hid (P.a.gS body=(AgA.jM {P.a with com:=some (V,l,[])},none)):=ae (by rw [HS.out,aw (by rw [o];decide),aw B,aw hle])
      clear o B hle
      have H3:Hid (AgAt ((w2.setCell ⟨a,6,none⟩ (.pointer (some ⟨w2.heap.size,0,none⟩))).alloc (.cells #[.int .u64 (V:Nat),.int .i64 (l:Nat),.int .i64 0,.slice none 0 0] 214)) (fun k=>G k∨k=w2.heap.size) O a h {P with a := {P.a with com:=some (V,l,[])}} {x with cp := .pointer (some ⟨w2.heap.size,0,none⟩)}∧Ext (fun k=>G k) w2 ((w2.setCell ⟨a,6,none⟩ (.pointer (some ⟨w2.heap.size,0,none⟩))).alloc (.cells #[.int .u64 (V:Nat),.int .i64 (l:Nat),.int .i64 0,.slice none 0 0] 214))):=by
       have a2:Below w2.heap.size w2 (w2.alloc (.cells #[.int .u64 (V:Nat),.int .i64 (l:Nat),.int .i64 0,.slice none 0 0] 214)):=(Below.rf w2).alloc (ah _) _
       have a3:=q.out.below a2
       have hx:Ext (fun j=>j=a) (w2.alloc (.cells #[.int .u64 (V:Nat),.int .i64 (l:Nat),.int .i64 0,.slice none 0 0] 214)) ((w2.setCell ⟨a,6,none⟩ (.pointer (some ⟨w2.heap.size,0,none⟩))).alloc (.cells #[.int .u64 (V:Nat),.int .i64 (l:Nat),.int .i64 0,.slice none 0 0] 214)):=Dw w2 a 6 _ _
       have bI:w2.heap.size≠a:=by omega
       refine ae ⟨a3.oq (G':=fun k=>G k∨k=w2.heap.size) hx (fQ _ _ (heap_setCell _ _ 6 _ q.out.row)) rfl rfl rfl rfl rfl rfl (fun k => .inl) (fun k hk => ?_) ((a3.uG hx).mono fun k => .inl) ?_,(Ext.fM a2).trans' hx fun i e => .inl (e▸q.out.gin.1)⟩
       ·rw [ax,size_setCell]
        rcases hk with hk | rfl
        ·exact ⟨by have:=q.out.glt k hk;omega,q.out.sep k hk⟩
        ·exact ⟨by omega,fun ho=>by have:=q.out.olt _ ho;omega⟩
       ·exact ⟨w2.heap.size,.slice none 0 0,rfl,.inr rfl,hx.at bI (fL w2 _),OwnS.nil _ _ _,CellsOf.nil _ _,fun k e=>by simp [Value.ownBlock] at e⟩
      go_upto_region 9 with fail
      generalize bL:(w2.setCell ⟨a,6,none⟩ (.pointer (some ⟨w2.heap.size,0,none⟩))).alloc (.cells #[.int .u64 (V:Nat),.int .i64 (l:Nat),.int .i64 0,.slice none 0 0] 214)=w3 at *
      have b6:Hid (w2.heap.size≤w3.heap.size):=ae H3.out.2.size
      clear bL
      go_wp2_with fail
      refine (pS a h _ _ _ O w3 H3.out.1 V l [] rfl (by simp)).mono ?_
      rintro e w4 ⟨rfl,a4⟩
      have HP:=ae a4
      clear a4
      go_wp2
      go_ret
      rw [r.out]
      refine ⟨oP.gw d.out (oP.trans (fun k hk => ?_) H3.out.2 (fun k hk => ?_) (HP.out.go (.inl I.out.gin.2.2.2))),rfl⟩
      ·rcases hk with (hk | rfl) | hk
       ·exact .inl hk
       ·exact .inr (.inr (ah _))
       ·exact .inr (.inl hk)
      ·rcases hk with hk | rfl
       ·exact .inl hk
       ·exact .inr (ah _)
end Go.Proofs.YtkkfmkhbdoeglaaGreatDoor
namespace Go.Proofs.YtkkfmkhbdoeglaaGreatDoor
open Go.RowKit Go.Shelf
theorem l7.gw {w w1 w':World} {base h:Nat} {x:HV} {d:DpS} (b:Below w.heap.size w w1) (hd:l7 w1 base h x d w'):l7 w base h x d w':=by
 obtain ⟨⟨lv,h1,h2⟩,h3⟩:=hd
 exact ⟨⟨lv,h1,fun i e=>(h2 i e).imp id (fun e=>aI b.size e)⟩,(Ext.fM b).trans h3⟩
theorem CC {S:List E} {room:Nat→Int} {t:Nat} (h:overS S room=some t):qh S room=(t:Int)∧t<3:=by
 unfold qh
 rw [h]
 refine ⟨rfl,?_⟩
 unfold overS at h
 split at h
 ·cases h;omega
 ·split at h
  ·cases h;omega
  ·split at h
   ·cases h;omega
   ·cases h
theorem AE {S:List E} {room:Nat→Int} (h:overS S room=none):qh S room = -1:=by
 unfold qh
 rw [h]
theorem vY (base q r h:Nat) (x:HV) (d:DpS) (T:List E) (w:World) (he:EntAt w q 0 r T) (hd:DpAt w base h x d) (I:T.length≤100000000) (J:d.S.length≤100000000) (M:d.log.length≤7500000000000) (b:∀ y∈d.S,y.1.2.length≤gx) (i:∀ y∈T,y.1.2.length≤gx∧y.2.length≤gx) (N:base≤w.heap.size) (u:q≠h) (B:x.log.ownBlock≠some q) (C:r≠x.r) (D:overS T x.room=none) :
  Calls Tryz.prog 138 #[rO h,.pointer (some ⟨q,0,none⟩)] w fun e w'=>e = .returned .nilIface∧l7 w base h x (d.run (je d.S T)) w':=by
 have j:=ae (AF q 0 r h x T w he hd.row (by omega))
 rw [AE D] at j
 have F:=ae (fun (W:World) (s:Below w.heap.size w W)=>xz base q 0 r h x d T W (he.below s) (hd.below s) I J M b i (aI N s.size) u B C)
 have O:=he.lt
 clear he hd b i D
 unfold rO at *
 go_enter Tryz.func138,Tryz.ntmps138
 go_wp2_with fail
 refine j.out.mono ?_
 rintro e w1 ⟨rfl,l⟩
 have m:=ae l
 go_wp2_with fail
 refine (F.out w1 m.out).mono ?_
 rintro e w2 ⟨rfl,o⟩
 have G:=ae o
 clear o l
 go_wp2
 go_ret
 exact ⟨rfl,l7.gw m.out G.out⟩
end Go.Proofs.YtkkfmkhbdoeglaaGreatDoor
namespace Go.Proofs.YtkkfmkhbdoeglaaGreatDoor
open Go.RowKit Go.Shelf
theorem gO.brought {w w':World} {F:Nat→Prop} {h:Nat} {x:HV} {H:fJ} {d':DpS} (d:gO w F h x H) (l:l7 w 0 h x d' w'):ir w F (fun _=>False) h {H with dp:=d'} w':=by
 obtain ⟨⟨lv,h1,h2⟩,h3⟩:=l
 have i:w.heap[h]?=_:=d.dp.row
 obtain ⟨f1,f2,f3⟩:=d.foot
 have j:∀ (k:Nat) (C:Array Value) (t:TypeId) (fz:Nat×Nat),w.heap[k]?=some (Obj.cells C t fz)→t≠87→t≠9→w'.heap[k]?=w.heap[k]?:=fun k C t fz hk m o=>h3.block k (fI hk) fun e=>by
  rcases e with e | e | e
  ·rw [e,i] at hk
   cases hk
   exact m rfl
  ·exact d.dp.tab.jQ hk e
  ·exact d.dp.ltyp.ne hk o e
 refine ⟨fun k=>F k∨(w.heap.size≤k∧k<w'.heap.size),⟨_,⟨h1,d.fail,d.writes,?_,?_,?_,d.apart,⟨.inl f1,.inl f2,fun k e=>(h2 k e).imp (f3 k) fun hk=>⟨hk,?_⟩⟩,fun k hk=>hk.elim (fun hF=>aC (d.lt k hF) h3.size) fun hk=>hk.2⟩⟩,fun k hk=>hk.imp id fun hk=>hk.1,h3.mono fun k hk => .inl ?_⟩
 ·exact (d.held.fW h3.size fun k C t fz hk b _=>j k C t fz hk (by rcases b with b | b <;> rw [b] <;> decide) (by rcases b with b | b <;> rw [b] <;> decide)).mono fun _ => .inl
 ·exact (d.seen.fW h3.size fun k C t fz hk b _=>j k C t fz hk (by rcases b with b | b <;> rw [b] <;> decide) (by rcases b with b | b <;> rw [b] <;> decide)).mono fun _ => .inl
 ·exact (d.late.fW h3.size fun k C t fz hk b _=>j k C t fz hk (by rcases b with b | b <;> rw [b] <;> decide) (by rcases b with b | b <;> rw [b] <;> decide)).mono fun _ => .inl
 ·obtain ⟨C,fz,q⟩:=h1.ltyp k e
  exact fI q
 ·rcases hk with hk | hk | hk
  ·rw [hk];exact f1
  ·rw [hk];exact f2
  ·exact f3 k hk
structure gU (w:World) (F G O:Nat→Prop) (a h:Nat) (H:fJ) (P:PAg) (x:AV):Prop where
 host:HostAt w F h H
 ag:AgAt w G O a h P x
 fg:∀ k,F k→¬G k
 fo:∀ k,F k→¬O k
def Dt (w:World) (M:Nat→Prop) (a h:Nat) (H:fJ) (P:PAg):Prop:=∃ F G O x,gU w F G O a h H P x∧∀ k,F k∨G k∨O k→M k
def kh (w:World) (M:Nat→Prop) (a h:Nat) (H:fJ) (P:PAg) (w':World):Prop:=∃ b,Dt w' b a h H P∧(∀ k,b k→M k∨w.heap.size≤k)∧Ext M w w'
theorem gU.frame {w w':World} {D F G O:Nat→Prop} {a h:Nat} {H:fJ} {P:PAg} {x:AV} (hm:gU w F G O a h H P x) (b:Ext D w w') (hd:∀ k,F k∨G k∨O k→¬D k):gU w' F G O a h H P x :=
 ⟨hm.host.ext b fun k hk=>hd k (.inl hk),hm.ag.frame b (fun k hk=>hd k (.inr (.inl hk))) fun k hk=>hd k (.inr (.inr hk)),hm.fg,hm.fo⟩
theorem gU.below {w w':World} {F G O:Nat→Prop} {a h:Nat} {H:fJ} {P:PAg} {x:AV} (hm:gU w F G O a h H P x) (b:Below w.heap.size w w'):gU w' F G O a h H P x:=hm.frame (D:=fun _=>False) (Ext.fM b) fun _ _=>id
theorem Dt.frame {w w':World} {D M:Nat→Prop} {a h:Nat} {H:fJ} {P:PAg} (hm:Dt w M a h H P) (b:Ext D w w') (hd:∀ k,M k→¬D k):Dt w' M a h H P:=by
 obtain ⟨F,G,O,x,h1,h2⟩:=hm
 exact ⟨F,G,O,x,h1.frame b fun k hk=>hd k (h2 k hk),h2⟩
theorem Dt.below {w w':World} {M:Nat→Prop} {a h:Nat} {H:fJ} {P:PAg} (hm:Dt w M a h H P) (b:Below w.heap.size w w'):Dt w' M a h H P:=hm.frame (D:=fun _=>False) (Ext.fM b) fun _ _=>id
theorem kh.gw {w w1 w':World} {M:Nat→Prop} {a h:Nat} {H:fJ} {P:PAg} (b:Below w.heap.size w w1) (d:kh w1 M a h H P w'):kh w M a h H P w':=by
 obtain ⟨i,h1,h2,h3⟩:=d
 exact ⟨i,h1,fun k hk=>(h2 k hk).imp id (aI b.size),(Ext.fM b).trans h3⟩
theorem kh.below {w w1 w':World} {M:Nat→Prop} {a h:Nat} {H:fJ} {P:PAg} (d:kh w M a h H P w1) (b:Below w1.heap.size w1 w'):kh w M a h H P w':=by
 obtain ⟨i,h1,h2,h3⟩:=d
 exact ⟨i,h1.below b,h2,h3.trans (Ext.fM b)⟩
theorem kh.trans {w w1 w':World} {M b:Nat→Prop} {a h:Nat} {H:fJ} {P:PAg} (h2:∀ k,b k→M k∨w.heap.size≤k) (h3:Ext M w w1) (d:kh w1 b a h H P w'):kh w M a h H P w':=by
 obtain ⟨i,g1,g2,g3⟩:=d
 exact ⟨i,g1,fun k hk=>(g2 k hk).elim (h2 k) fun e => .inr (aI h3.size e),h3.trans' g3 h2⟩
theorem oP.Hm {w w':World} {F G O M:Nat→Prop} {a h:Nat} {H:fJ} {P P':PAg} {x:AV} (hm:gU w F G O a h H P x) (b:∀ k,F k∨G k∨O k→M k) (d:oP w G O a h P' w'):kh w M a h H P' w':=by
 obtain ⟨G',O',x',h1,h2,h3⟩:=d
 have hF:=hm.host.lt
 refine ⟨fun k=>M k∨w.heap.size≤k,⟨F,G',O',x',⟨hm.host.ext h3 hm.fg,h1,fun k hk e => ?_,fun k hk e => ?_⟩,fun k hk => ?_⟩,fun k hk=>hk,h3.mono fun k hk=>b k (.inr (.inl hk))⟩
 ·rcases h2 k (.inl e) with e | e | e
  ·exact hm.fg k hk e
  ·exact hm.fo k hk e
  ·have:=hF k hk;omega
 ·rcases h2 k (.inr e) with e | e | e
  ·exact hm.fg k hk e
  ·exact hm.fo k hk e
  ·have:=hF k hk;omega
 ·rcases hk with hk | hk
  ·exact .inl (b k (.inl hk))
  ·exact (h2 k hk).elim (fun e => .inl (b k (.inr (.inl e)))) fun e=>e.imp (fun e=>b k (.inr (.inr e))) id
theorem Ce:∃ i,Tryz.prog.info? 59=some i∧i.bytes=24:=by
 have h:(Tryz.prog.info? 59).map (·.bytes)=some 24:=by kernel_rfl
 obtain ⟨i,b,d⟩:=cw.1 h
 exact ⟨i,b,d⟩
theorem Fv (w:World):(Instr.makeChan 113 (.int .i64 6)).run Tryz.prog w = .ok (.chan (some w.heap.size)) (w.alloc (.chan 6 #[] false 0 0 false)):=by
 obtain ⟨i,b,d⟩:=Ce
 simpa using Conc.run_makeChan (P:=Tryz.prog) (w:=w) Tryz.underlying113 b .i64 6 (by omega) (by rw [d];omega)
theorem CK (H:fJ):(readAll H).1.dp=H.dp∧(readAll H).1.seen=H.seen:=by
 unfold readAll
 split <;> exact ⟨rfl,rfl⟩
theorem Ew (h:Nat) (F:Nat→Prop) (H:fJ) (B:Nat) (w:World) (r:HostAt w F h H) (i:HostOk H B) (f:Nat) (E:(readAll H).2=some f) :
  Calls Tryz.prog 97 #[.iface 188 (.agg #[.pointer (some ⟨h,0,none⟩)]),rO h] w fun e w'=>∃ b c,e = .returned (.tuple #[.pointer none,.iface 114 (.pointer (some ⟨b,0,none⟩))])∧w'.heap[b]?=some (.cells #[.int .i64 12,.int .i64 0,.iface 168 (.pointer (some ⟨c,0,none⟩))] 166 (0,0))∧w'.heap[c]?=some (.cells #[.int .i64 ((f:Int)-2)] 171 (0,0))∧HostAt w' F h (readAll H).1∧Ext F w w':=by
 have s:=ae (FF h F H B w r i f E)
 clear r i
 unfold rO
 go_enter Tryz.func97,Tryz.ntmps97
 go_wp2_with fail
 refine s.out.mono ?_
 rintro e w1 ⟨v,rfl,u,j,l⟩
 obtain ⟨c,rfl,I,m⟩:=u
 have x:=ae j
 have y:=ae l
 have o:=ae m
 clear j l m
 go_wp2_with fail
 refine (vD c w1).mono ?_
 rintro e w2 ⟨rfl,d⟩
 have C:Below w1.heap.size w1 w2:=by rw [d];exact (Below.rf w1).alloc (ah _) _
 have D:w2.heap[w1.heap.size]?=some (.cells #[.int .i64 12,.int .i64 0,.iface 168 (.pointer (some ⟨c,0,none⟩))] 166 (0,0)):=by rw [d];exact fL w1 _
 have q:=ae C
 have G:=ae D
 clear C D d
 go_wp2
 refine aK (v := .tuple #[.pointer none,.iface 114 (.pointer (some ⟨w1.heap.size,0,none⟩))]) (by simp [results,Tryz.results97,go_sem]) rfl ?_
 exact ⟨_,_,rfl,G.out,fK q.out (fI o.out) o.out,x.out.below q.out,y.out.trans (Ext.fM q.out)⟩
theorem CU (h:Nat) (F:Nat→Prop) (H:fJ) (B:Nat) (w:World) (hh:HostAt w F h H) (U:HostOk H B) (hg:ShapesVar w) (a3:∀ k,F k→2≤k) (slot v next:Nat) (T:List E) (hinv:DiskInv decSB decDB foldS [] (H.seen.map parseSec) (placeOf H.seen.length) slot v T next) (hf:(readAll H).2=none)
  (hv:v<18446744073709551616) (hT:T.length≤100000000) (hS:H.dp.S.length≤100000000) (hL:H.dp.log.length≤7500000000000) (V:∀ y∈H.dp.S,y.1.2.length≤gx) (a6:∀ y∈T,y.1.2.length≤gx∧y.2.length≤gx) (ho:overS T H.dp.room=none) :
  Calls Tryz.prog 97 #[.iface 188 (.agg #[.pointer (some ⟨h,0,none⟩)]),rO h] w fun e w'=>∃ a,e = .returned (.tuple #[.pointer (some ⟨a,0,none⟩),.nilIface])∧w.heap.size≤a∧kh w F a h ((readAll H).1.mQ T) ⟨begunA v T,0,⟨gK H.seen,slot,next⟩⟩ w':=by
 have a9:=ae (Eh h F H B w hh U hg a3 slot v next T hinv hf)
 have d:=ae hh.lt
 obtain ⟨e1,e2⟩:=CK H
 rw [←e1] at hS hL V ho
 have bP:=Fv
 generalize bb:(readAll H).1=H1 at *
 clear hh U hg bb e1 e2
 unfold rO
 go_enter Tryz.func97,Tryz.ntmps97
 go_wp2_with fail
 refine a9.out.mono ?_
 rintro e w1 ⟨lg,q,r,rfl,I,s,bS,bX,b0,b1,bc,W⟩
 obtain ⟨x,m⟩:=bc
 have bi:=ae m
 have X:=ae I
 have u:=ae s
 have J:=ae W
 obtain ⟨f1,f2,f3⟩:=m.foot
 have Y:=ae (vY 0 q r h x H1.dp T w1 s m.dp hT hS hL V a6 (aL _) (fun e=>by have:=d.out h f1;omega) (fun e=>by have:=d.out q (f3 q e);omega) (fun e=>by have:=d.out _ f2;omega) (by rw [m.dp.room];exact ho))
 have bk:=ae (show ∀ k,(k=h∨k=x.r∨x.log.ownBlock=some k)→F k from fun k e=>by
  rcases e with e | e | e
  ·rw [e];exact f1
  ·rw [e];exact f2
  ·exact f3 k e)
 clear m I s W f1 f2 f3 hinv
 unfold rO at Y
 go_wp2_with fail
 refine Y.out.mono ?_
 rintro e w2 ⟨rfl,M⟩
 have bl:=ae (bi.out.brought M)
 have o:Ext (fun k=>F k) w1 w2:=M.2.mono bk.out
 have Z:LogAt w2 lg h _:=o.at (fun e=>by have:=d.out lg e;omega) X.out
 have bn:=o.cell (p:=⟨q,0,none⟩) (fun e=>by have:=d.out q e;omega) u.out.cell
 have aa:=u.out.tab.fW (o.block r u.out.tab.lt (fun e=>by have:=d.out r e;omega))
 have ab:=ae o
 have ag:=ae Z
 have ak:=ae aa
 have bH:=fP bn
 clear M o Z aa
 go_wp2
 go_region
 have j:Below w2.heap.size w2 ((w2.alloc (.chan 6 #[] false 0 0 false)).alloc (.cells #[.map (some r),.int .u64 (v:Nat),.pointer (some ⟨lg,0,none⟩),rO h,.chan (some w2.heap.size),.pointer none,.pointer none] 117)).drew:=(Below.al (Below.al (Below.rf w2) _) _).drew
 have C:=fL (w2.alloc (.chan 6 #[] false 0 0 false)) (.cells #[.map (some r),.int .u64 (v:Nat),.pointer (some ⟨lg,0,none⟩),rO h,.chan (some w2.heap.size),.pointer none,.pointer none] 117)
 have N:=fQ (w2.alloc (.chan 6 #[] false 0 0 false)) (.cells #[.map (some r),.int .u64 (v:Nat),.pointer (some ⟨lg,0,none⟩),rO h,.chan (some w2.heap.size),.pointer none,.pointer none] 117) (fL w2 (.chan 6 #[] false 0 0 false))
 rw [ax] at C
 unfold rO at j C N
 have bo:((w2.alloc (.chan 6 #[] false 0 0 false)).alloc (.cells #[.map (some r),.int .u64 (v:Nat),.pointer (some ⟨lg,0,none⟩),.iface 189 (.agg #[.pointer (some ⟨h,0,none⟩)]),.chan (some w2.heap.size),.pointer none,.pointer none] 117)).drew.heap.size=w2.heap.size+2:=by
  show ((w2.alloc _).alloc _).heap.size=_
  rw [ax,ax]
 generalize O:((w2.alloc (.chan 6 #[] false 0 0 false)).alloc (.cells #[.map (some r),.int .u64 (v:Nat),.pointer (some ⟨lg,0,none⟩),.iface 189 (.agg #[.pointer (some ⟨h,0,none⟩)]),.chan (some w2.heap.size),.pointer none,.pointer none] 117)).drew=G at j bo⊢
 have am:G.heap[w2.heap.size+1]?=some (.cells #[.map (some r),.int .u64 (v:Nat),.pointer (some ⟨lg,0,none⟩),.iface 189 (.agg #[.pointer (some ⟨h,0,none⟩)]),.chan (some w2.heap.size),.pointer none,.pointer none] 117 (0,0)):=by rw [←O];exact C
 have ap:G.heap[w2.heap.size]?=some (.chan 6 #[] false 0 0 false):=by rw [←O];exact N
 obtain ⟨F',Q,l,a1⟩:=bl.out
 have D:=Q.lt
 have bv:lg<w1.heap.size:=fI X.out
 have bI:r<w1.heap.size:=u.out.tab.lt
 have b2:=ab.out.size
 have R:AgAt G (fun k=>k=w2.heap.size+1∨k=r∨k=lg∨k=w2.heap.size) (fun _=>False) (w2.heap.size+1) h ⟨⟨v,T,[],none,none⟩,0,⟨gK H.seen,slot,next⟩⟩ ⟨r,lg,w2.heap.size,.pointer none,.pointer none⟩:=by
  refine ⟨am,ak.out.fW (j.block _ ak.out.lt),fK j (fI ag.out) ag.out,⟨0,0,[],ap,rfl,fun i b hi=>(by simp at hi),List.Pairwise.nil⟩,rfl,rfl,⟨.inl rfl,.inr (.inl rfl),.inr (.inr (.inl rfl)),.inr (.inr (.inr rfl))⟩,fun k hk => ?_,fun k hk=>hk.elim,fun k _=>id⟩
  rcases hk with e | e | e | e <;> rw [e] <;> omega
 have av:gU G F' (fun k=>k=w2.heap.size+1∨k=r∨k=lg∨k=w2.heap.size) (fun _=>False) (w2.heap.size+1) h (H1.mQ T) ⟨⟨v,T,[],none,none⟩,0,⟨gK H.seen,slot,next⟩⟩ ⟨r,lg,w2.heap.size,.pointer none,.pointer none⟩:=by
  refine ⟨Q.below j,R,fun k hk e => ?_,fun k _=>id⟩
  have h1:=D k hk
  rcases e with e | e | e | e
  ·omega
  ·rcases l k hk with h2 | h2
   ·have:=d.out k h2;omega
   ·omega
  ·rcases l k hk with h2 | h2
   ·have:=d.out k h2;omega
   ·omega
  ·omega
 have br:=ae av
 have aE:=ae ((J.out.trans ab.out).trans (Ext.fM j):Ext F w G)
 have HM:=ae (show ∀ k,F' k∨(k=w2.heap.size+1∨k=r∨k=lg∨k=w2.heap.size)∨False→F k∨w.heap.size≤k from fun k hk=>by
  have h1:=J.out.size
  rcases hk with hk | (e | e | e | e) | hk
  ·exact (l k hk).imp id fun e=>by omega
  ·exact .inr (by omega)
  ·exact .inr (by omega)
  ·exact .inr (by omega)
  ·exact .inr (by omega)
  ·exact hk.elim)
 have bs:=ae (show w.heap.size≤w2.heap.size+1 by have:=J.out.size;omega)
 clear av O am ap C N j l a1 D Q
 go_wp2_with fail
 refine (kI (w2.heap.size+1) h _ _ _ _ G R hv).mono ?_
 rintro e w4 ⟨rfl,hp⟩
 have HG:=ae (oP.Hm br.out HM.out (hp.go (.inr (.inr (.inr rfl)))))
 clear hp R
 go_wp2
 refine aK (v := .tuple #[.pointer (some ⟨w2.heap.size+1,0,none⟩),.nilIface]) (by simp [results,Tryz.results97,go_sem]) rfl ?_
 obtain ⟨M',g1,g2,g3⟩:=HG.out
 exact ⟨_,rfl,bs.out,M',g1,fun k hk=>(g2 k hk).elim id fun e => .inr (aI aE.out.size e),aE.out.trans' g3 fun k hk=>hk⟩
end Go.Proofs.YtkkfmkhbdoeglaaGreatDoor
namespace Go.Proofs.YtkkfmkhbdoeglaaGreatDoor
open Go.RowKit Go.Shelf
theorem gO.drop {w:World} {F:Nat→Prop} {h c:Nat} {x:HV} {H:fJ} {C:Array Value} {fz:Nat×Nat} (d:gO w F h x H) (hc:w.heap[c]?=some (.cells C 171 fz)):gO w (fun k=>F k∧k≠c) h x H:=by
 have ne:∀ (v:Value) (e:TypeId),CellsOf w v e→e≠171→∀ k,v.ownBlock=some k→k≠c:=fun v e o he k hk q=>by
  obtain ⟨D,s,m⟩:=o k hk
  rw [q,hc] at m
  cases m
  exact he rfl
 have sec:∀ v b,jd w F v b→jd w (fun k=>F k∧k≠c) v b:=fun v b h=>⟨h.1,h.2.1,fun k e=>⟨h.2.2 k e,ne v _ h.2.1 (by decide) k e⟩⟩
 have rows:∀ v rows,RowsAt w F v rows→RowsAt w (fun k=>F k∧k≠c) v rows:=fun v rows h=>by
  obtain ⟨vals,h1,h2,h3,h4⟩:=h
  refine ⟨vals,h1,h2,fun k e=>⟨h3 k e,ne v _ h2 (by decide) k e⟩,fun i b l => ?_⟩
  obtain ⟨u,hu,hs⟩:=h4 i b l
  exact ⟨u,hu,sec u b hs⟩
 have j:w.heap[h]?=_:=d.dp.row
 obtain ⟨f1,f2,f3⟩:=d.foot
 refine ⟨d.dp,d.fail,d.writes,rows _ _ d.held,rows _ _ d.seen,?_,d.apart,⟨⟨f1,fun e => ?_⟩,⟨f2,fun e=>d.dp.tab.jQ hc e.symm⟩,fun k e=>⟨f3 k e,ne _ _ d.dp.ltyp (by decide) k e⟩⟩,fun k hk=>d.lt k hk.1⟩
 ·obtain ⟨vals,r,h1,h2,h3,h4⟩:=d.late
  refine ⟨vals,r,h1,h2,fun k e=>⟨h3 k e,ne _ _ h2 (by decide) k e⟩,fun i b l => ?_⟩
  obtain ⟨u,hu,hs⟩:=h4 i b l
  exact ⟨u,hu,sec u _ hs⟩
 ·rw [e,hc] at j
  cases j
theorem AgAt.IV {w w':World} {D G O:Nat→Prop} {a h:Nat} {P:PAg} {x:AV} {g:LogS} (ha:AgAt w G O a h P x) (i:Ext D w w') (m:∀ k,G k→D k→k=x.lg) (hO:∀ k,O k→¬D k) (hl:LogAt w' x.lg h g):AgAt w' G O a h {P with lg:=g} x:=by
 have j:=ha.log
 unfold LogAt at j
 obtain ⟨s,r,vals,h1,-⟩:=ha.out
 have d:∀ k C T fz,G k→w.heap[k]?=some (.cells C T fz)→T≠253→¬D k:=fun k C T fz hk b q l=>iM b j q (m k hk l)
 have hd:∀ k,G k→k≠x.lg→¬D k:=fun k hk o l=>o (m k hk l)
 exact ⟨i.at (d a _ _ _ ha.gin.1 ha.row (by decide)) ha.row,ha.tab.fW (i.block _ ha.tab.lt (hd _ ha.gin.2.1 fun e=>ha.tab.jQ j e.symm)),hl,ha.out.frame i (hd _ ha.gin.2.2.2 fun e=>mY h1 j e.symm) hO,
  ha.flt.frame i fun k C fz hk b=>b.elim (fun b=>d k _ _ _ hk b (by decide)) fun b=>d k _ _ _ hk b (by decide),ha.com.frame i fun k C fz hk b=>b.elim (fun b=>d k _ _ _ hk b (by decide)) fun b=>d k _ _ _ hk b (by decide),
  ha.gin,fun k hk=>aC (ha.glt k hk) i.size,fun k hk=>aC (ha.olt k hk) i.size,ha.sep⟩
theorem AgAt.IW {w w':World} {G O:Nat→Prop} {a h r v:Nat} {P:PAg} {x:AV} {T:List E} (ha:AgAt w G O a h P x) (b:Ext (fun j=>j=a) w w') (l:w'.heap[a]?=some (.cells (AV.cells {x with r:=r} v h) 117 (0,0))) (i:TabAt w r T) (m:¬O r) :
  AgAt w' (fun k=>G k∨k=r) O a h {P with a := {P.a with V:=v,T:=T}} {x with r:=r} := by
 obtain ⟨s,o,vals,h1,-⟩:=ha.out
 have d:=ha.log
 unfold LogAt at d
 refine ⟨l,i.fW (b.block _ i.lt fun e=>i.jQ ha.row e.symm),b.at (fun e=>iM ha.row d (by decide) e.symm) d,ha.out.frame b (fun e=>mY h1 ha.row e.symm) fun k hk e=>ha.sep a ha.gin.1 (e▸hk),(ha.uG b).mono fun _ => .inl,(ha.yu b).mono fun _ => .inl,⟨.inl ha.gin.1,.inr rfl,.inl ha.gin.2.2.1,.inl ha.gin.2.2.2⟩,fun k hk => ?_,fun k hk=>aC (ha.olt k hk) b.size,fun k hk => ?_⟩
 ·rcases hk with hk | hk
  ·exact aC (ha.glt k hk) b.size
  ·rw [hk];exact aC i.lt b.size
 ·rcases hk with hk | hk
  ·exact ha.sep k hk
  ·rw [hk];exact m
def uz (gf:Nat) (lb:Array Value) (w:World) (x:AV) (F:Nat→Prop) (h:Nat) (L:fJ×LogS×Option Nat):Prop :=
 ∀ W,Below w.heap.size w W→Calls Tryz.prog gf lb W fun e W'=>∃ b,e = .returned b∧xp W W' b L.2.2∧LogAt W' x.lg h L.2.1∧ir W F (fun k=>k=x.lg) h L.1 W'
def qD (w:World) (F G O:Nat→Prop) (a h:Nat) (H:fJ) (P:PAg) (x:AV) (r v:Nat) (T:List E) (L:fJ×LogS×Option Nat) (e:Ending) (w':World):Prop :=
 match iq T H.dp.room H.seen.length,L with
 | some f,_=>∃ b,e = .returned (.pointer (some ⟨b,0,none⟩))∧w.heap.size≤b∧w'.heap[b]?=some (.cells #[.int .i64 (f.1:Nat),.int .i64 (f.2:Nat),.nilIface] 166 (0,0))∧Below w.heap.size w w'
 | none,(H1,g1,some s)=>∃ b c F',e = .returned (.pointer (some ⟨b,0,none⟩))∧w.heap.size≤b∧w.heap.size≤c∧w'.heap[b]?=some (.cells #[.int .i64 12,.int .i64 0,.iface 168 (.pointer (some ⟨c,0,none⟩))] 166 (0,0))∧w'.heap[c]?=some (.cells #[.int .i64 ((s:Int)-2)] 171 (0,0))∧
   gU w' F' G O a h H1 {P with lg:=g1} x∧(∀ k,F' k→(F k∨w.heap.size≤k)∧k≠b∧k≠c)∧Ext (fun k=>F k∨k=x.lg) w w'
 | none,(H1,g1,none)=>∃ F',e = .returned (.pointer none)∧gU w' F' (fun k=>G k∨k=r) O a h (H1.mQ T) ⟨{P.a with V:=v,T:=T},P.sec,g1⟩ {x with r:=r}∧(∀ k,F' k→F k∨w.heap.size≤k)∧Ext (fun k=>F k∨k=x.lg∨k=a) w w'
theorem EE (a h:Nat) (F G O:Nat→Prop) (H:fJ) (P:PAg) (x:AV) (q r v:Nat) (T:List E) (gf:Nat) (lb:Array Value) (e5:∀ args w,(callFunc gf args).run Tryz.prog w = .ok (.enter gf args) w) (L:fJ×LogS×Option Nat) (w:World)
  (hm:gU w F G O a h H P x) (he:EntAt w q 0 r T) (hq:¬F q∧¬G q) (hr:¬F r∧¬G r∧¬O r) (bo:iq T H.dp.room H.seen.length=none→uz gf lb w x F h L) (hn:8≤H.seen.length∧H.seen.length≤1000) (hT:T.length≤100000000) (ca:sizeS T≤4611686018427387904) (br:L.1.dp.S.length≤100000000∧L.1.dp.log.length≤7500000000000∧L.1.dp.room=H.dp.room) (cb:∀ y∈L.1.dp.S,y.1.2.length≤gx) (dv:∀ y∈T,y.1.2.length≤gx∧y.2.length≤gx) :
  Calls Tryz.prog 145 #[.pointer (some ⟨a,0,none⟩),.int .u64 (v:Nat),.pointer (some ⟨q,0,none⟩),.func (.func gf) #[] lb] w (qD w F G O a h H P x r v T L):=by
 obtain ⟨hx,a3⟩:=hm.host
 have ce:=ae (fun (W:World) (hW:Below w.heap.size w W)=>AF q 0 r h hx T W (he.below hW) (a3.dp.row.fW (hW.block h (fI a3.dp.row))) (by omega))
 have cf:=ae (fun (W:World) (hW:Below w.heap.size w W)=>FX q 0 r T W (he.below hW) ca)
 have ci:=ae (fun (W:World) (hW:Below w.heap.size w W)=>nV h F H W (hm.host.below hW))
 have R:=hm.ag.row
 unfold AV.cells rO at R
 have c3:=af _ _ 3 _ _ _ R
 have cl:=fI R
 have bs:=he.cell
 have c8:=fP bs
 have co:=ae a3.dp.room
 have u:=ae hm
 have HE:=ae he
 have dT:=ae bo
 have eT:=nc h
 have eV:=lh h
 clear hm he bo R a3
 unfold rO at ce
 go_enter Tryz.func145,Tryz.ntmps145
 go_wp2
 go_region_held3 (fun w'=>w'.cell? ⟨a,3,none⟩=some (.iface 189 (.agg #[.pointer (some ⟨h,0,none⟩)])))
  (first | exact c3 | exact (i.out.cell (p:=⟨a,3,none⟩) cl).trans c3)
  (first | (go_at_call 159;refine (ce.out _ (by first | exact (Below.rf w).drew | exact Below.rf w)).mono ?_;rintro e w1 ⟨rfl,bv⟩;have i:Hid (Below w.heap.size w w1):=ae (by first | exact bv | exact (Below.rf w).drew.tn bv);clear bv))
 cases J:overS T H.dp.room with
 | some t =>
  obtain ⟨o1,-⟩:=CC (S:=T) (room:=hx.room) (t:=t) (by rw [co.out];exact J)
  rw [o1]
  have D:Hid (iq T H.dp.room H.seen.length=some (10,t)):=ae (by unfold iq;rw [J])
  clear J o1
  go_wp2_with fail
  refine (gE 10 t w1).mono ?_
  rintro e w2 ⟨rfl,bw⟩
  have hb:Below w1.heap.size w1 w2:=by rw [bw];exact (Below.rf w1).alloc (ah _) _
  have hn:w2.heap[w1.heap.size]?=some (.cells #[.int .i64 10,.int .i64 (t:Nat),.nilIface] 166 (0,0)):=by rw [bw];exact fL w1 _
  have HB:=ae (i.out.tn hb)
  have HN:=ae hn
  clear hb hn bw
  go_wp2
  go_ret
  unfold qD
  rw [D.out]
  exact ⟨_,rfl,i.out.size,HN.out,HB.out⟩
 | none =>
  rw [AE (S:=T) (room:=hx.room) (by rw [co.out];exact J)]
  have a4:=u.out.below i.out
  have C:=a4.ag.row
  unfold AV.cells rO at C
  have c2:=af _ _ 2 _ _ _ C
  have U:=a4.ag.log
  unfold LogAt at U
  have l0:=af _ _ 0 _ _ _ U
  have bz:=fI U
  have bD:=fI C
  have e0:=ae a4
  obtain ⟨n,bH⟩:∃ n,n=H.seen.length:=⟨_,rfl⟩
  have cp:=ae bH
  rw [←bH] at ci hn
  obtain ⟨z,hz⟩:∃ z,z=sizeS T:=⟨_,rfl⟩
  have HZ:=ae hz
  rw [←hz] at cf ca
  have bI:=ae J
  have dc:=(i.out.cell (p:=⟨q,0,none⟩) c8).trans bs
  have el:=fP dc
  clear a4 C U bH hz J c3 bs cl
  go_wp2
  go_region_held3 (fun w'=>w'.cell? ⟨a,2,none⟩=some (.pointer (some ⟨x.lg,0,none⟩))∧w'.cell? ⟨x.lg,0,none⟩=some (.iface 188 (.agg #[.pointer (some ⟨h,0,none⟩)])))
   (first | exact ⟨c2,l0⟩ | exact ⟨(o.out.cell (p:=⟨a,2,none⟩) bD).trans c2,(o.out.cell (p:=⟨x.lg,0,none⟩) bz).trans l0⟩)
   (first
    | (go_at_call 105;refine (cf.out _ (by first | exact i.out.tn (Below.rf w1).drew | exact i.out.tn o.out)).mono ?_;rintro e w2 ⟨rfl,I⟩;have o:Hid (Below w1.heap.size w1 w2):=ae (by first | exact (Below.rf w1).drew.tn I | exact o.out.tn I);clear I)
    | (go_at_call 201;refine (ci.out _ (by first | exact i.out.tn (Below.rf w1).drew | exact i.out.tn o.out)).mono ?_;rintro e w2 ⟨rfl,I⟩;have o:Hid (Below w1.heap.size w1 w2):=ae (by first | exact (Below.rf w1).drew.tn I | exact o.out.tn I);clear I))
  all_goals
   rw [show IntKind.i64.wrap ((n:Int)-8)=((n-8:Nat):Int) by rw [show (n:Int)-8=((n-8:Nat):Int) by omega];exact IntWalk.i64_in _ (by omega),show IntKind.i64.wrap (16*((n-8:Nat):Int))=((16*(n-8):Nat):Int) by rw [show 16*((n-8:Nat):Int)=((16*(n-8):Nat):Int) by omega];exact IntWalk.i64_in _ (by omega)]
   obtain ⟨m,bL⟩:∃ m,m=16*(n-8):=⟨_,rfl⟩
   have cq:=ae bL
   rw [←bL]
   have j:=ae (i.out.tn o.out)
   clear bL c2 l0 bz bD
   by_cases a5:m<z
   ·have dk:(m:Int)<(z:Int):=by omega
    have D:Hid (iq T H.dp.room H.seen.length=some (11,0)):=ae (by unfold iq;rw [bI.out];simp only;rw [aF (by rw [←cp.out,←cq.out,←HZ.out];exact a5)])
    clear a5
    go_wp2_with fail
    refine (gE 11 0 w2).mono ?_
    rintro e w3 ⟨rfl,bM⟩
    have hb:Below w2.heap.size w2 w3:=by rw [bM];exact (Below.rf w2).alloc (ah _) _
    have ab:w3.heap[w2.heap.size]?=some (.cells #[.int .i64 11,.int .i64 0,.nilIface] 166 (0,0)):=by rw [bM];exact fL w2 _
    have HB:=ae (j.out.tn hb)
    have HN:=ae ab
    clear hb ab bM
    go_wp2
    go_ret
    unfold qD
    rw [D.out]
    exact ⟨_,rfl,j.out.size,HN.out,HB.out⟩
   ·have dk:¬(m:Int)<(z:Int):=by omega
    have D:Hid (iq T H.dp.room H.seen.length=none):=ae (by unfold iq;rw [bI.out];simp only;rw [aw (by rw [←cp.out,←cq.out,←HZ.out];exact a5)])
    clear a5
    go_wp2_with fail
    refine (dT.out D.out w2 j.out).mono ?_
    rintro e w3 ⟨rv,rfl,bN,a6,d4⟩
    obtain ⟨H1,g1,rf⟩:=L
    obtain ⟨X,M,ak,N⟩:=d4
    have bO:=u.out.below j.out
    have e1:=j.out.size
    have al:AgAt w3 G O a h {P with lg:=g1} x:=bO.ag.IV N (fun k hk hD=>hD.elim (fun e=>absurd hk (u.out.fg k e)) id) (fun k hk hD=>hD.elim (fun e=>u.out.fo k e hk) fun e=>u.out.ag.sep x.lg u.out.ag.gin.2.2.1 (e▸hk)) a6
    have Y:Ext (fun k=>F k∨k=x.lg) w w3:=(Ext.fM j.out).trans N
    have a7:∀ k,X k→¬G k:=fun k hk B=>(ak k hk).elim (fun e=>u.out.fg k e B) fun e=>by have:=u.out.ag.glt k B;omega
    have a9:∀ k,X k→¬O k:=fun k hk B=>(ak k hk).elim (fun e=>u.out.fo k e B) fun e=>by have:=u.out.ag.olt k B;omega
    have ba:∀ k,X k→F k∨w.heap.size≤k:=fun k hk=>(ak k hk).imp id fun e=>by omega
    simp only at bN a6 M br cb
    cases rf with
    | some s =>
     obtain ⟨c,rfl,e2,bP⟩:=bN
     have Z:=M.lt
     have cr:gU w3 (fun k=>X k∧k≠c) G O a h H1 {P with lg:=g1} x:=by
      obtain ⟨e3,dn⟩:=M
      exact ⟨⟨_,dn.drop bP⟩,al,fun k hk=>a7 k hk.1,fun k hk=>a9 k hk.1⟩
     have d5:=ae cr
     have am:=ae Y
     have ap:=ae (show ∀ k,X k∧k≠c→(F k∨w.heap.size≤k)∧k≠w3.heap.size∧k≠c from fun k hk=>⟨ba k hk.1,fun e=>by have:=Z k hk.1;omega,hk.2⟩)
     have HC:=ae bP
     have d7:=ae (show w.heap.size≤c by omega)
     clear N ak bO al Y a7 a9 ba M cr Z bP a6
     go_wp2_with fail
     refine (vD c w3).mono ?_
     rintro e w4 ⟨rfl,bS⟩
     have hb:Below w3.heap.size w3 w4:=by rw [bS];exact (Below.rf w3).alloc (ah _) _
     have ab:w4.heap[w3.heap.size]?=some (.cells #[.int .i64 12,.int .i64 0,.iface 168 (.pointer (some ⟨c,0,none⟩))] 166 (0,0)):=by rw [bS];exact fL w3 _
     have HB:=ae hb
     have HN:=ae ab
     clear hb ab bS
     go_wp2
     go_ret
     unfold qD
     rw [D.out]
     exact ⟨_,c,_,rfl,am.out.size,d7.out,HN.out,fK HB.out (fI HC.out) HC.out,d5.out.below HB.out,ap.out,am.out.trans (Ext.fM HB.out)⟩
    | none =>
     obtain rfl:rv = .nilIface:=bN
     have bX:=N.cell (p:=⟨q,0,none⟩) (show ¬(F q∨q=x.lg) from fun e=>e.elim hq.1 fun e=>hq.2 (e▸u.out.ag.gin.2.2.1)) ((j.out.cell (p:=⟨q,0,none⟩) HE.out.lt).trans HE.out.cell)
     have b8:=fP bX
     have cs:=(HE.out.below j.out).tab.fW (N.block r ((HE.out.below j.out).tab.lt) (fun e=>e.elim hr.1 fun e=>hr.2.1 (e▸u.out.ag.gin.2.2.1)))
     have b:=al.row
     unfold AV.cells rO at b
     have c0:=af _ _ 0 _ _ _ b
     have c1:=af _ _ 1 _ _ _ b
     have z0:=ao _ _ 0 _ _ b
     have z1:=ao _ _ 1 _ _ b
     have Z:=fI b
     have bb:=ae al
     have bc:=ae cs
     have d9:=ae M
     have am:=ae Y
     have ap:=ae ba
     have b0:=ae a7
     have ct:=ae a9
     clear N ak bO al Y a7 a9 ba M a6 b cs
     go_wp2
     have Q:Ext (fun k=>k=a) w3 ((w3.setCell ⟨a,0,none⟩ (.map (some r))).setCell ⟨a,1,none⟩ (.int .u64 (v:Nat))):=((Ext.refl (fun k=>k=a) w3).setCell ⟨a,0,none⟩ _ (.inl rfl)).setCell ⟨a,1,none⟩ _ (.inl rfl)
     have bi:((w3.setCell ⟨a,0,none⟩ (.map (some r))).setCell ⟨a,1,none⟩ (.int .u64 (v:Nat))).heap[a]?=some (.cells (AV.cells {x with r:=r} v h) 117 (0,0)):=heap_setCell _ _ 1 _ (heap_setCell _ _ 0 _ bb.out.row)
     generalize (w3.setCell ⟨a,0,none⟩ (.map (some r))).setCell ⟨a,1,none⟩ (.int .u64 (v:Nat))=W1 at Q bi⊢
     have av:=bb.out.IW (v:=v) (T:=T) Q bi bc.out hr.2.2
     have a0:¬X a:=fun e=>b0.out a e bb.out.gin.1
     have cu:=d9.out.ext Q (fun k hk e=>a0 (e▸hk))
     have eD:=cu.lt
     obtain ⟨bk,d⟩:=cu
     have em:r<w.heap.size:=HE.out.tab.lt
     have a1:¬X r:=fun e=>(ap.out r e).elim hr.1 fun e=>by omega
     obtain ⟨f1,f2,f3⟩:=d.foot
     have l:=bi
     unfold AV.cells rO at l
     have d0:=af _ _ 0 _ _ _ l
     have d3:=af _ _ 3 _ _ _ l
     have eS:=fI l
     have cv:=ae (xz 0 a 0 r h bk H1.dp T W1.drew ⟨d0,(bc.out.fW (Q.block _ bc.out.lt fun e=>bc.out.jQ bb.out.row e.symm)).fW rfl⟩ ⟨d.dp.row,d.dp.left,d.dp.dead,d.dp.room,d.dp.tab.fW rfl,d.dp.own.below ((Below.rf W1).drew),d.dp.ltyp,d.dp.lo,d.dp.lb⟩ hT br.1 br.2.1 cb dv (aL _) (fun e=>a0 (e▸f1)) (fun e=>a0 (f3 a e)) (fun e=>a1 (e▸f2)))
     have eb:=ae d
     have cB:=ae Q
     have b2:=ae av
     have ds:=ae (show ∀ k,(k=h∨k=bk.r∨bk.log.ownBlock=some k)→X k from fun k e=>by
      rcases e with e | e | e
      ·rw [e];exact f1
      ·rw [e];exact f2
      ·exact f3 k e)
     clear Q bi av d f1 f2 f3 l c0 c1 z0 z1 Z bX b8
     unfold rO at cv
     go_still_tail 7,(by kernel_rfl)
     go_wp2_with fail
     refine cv.out.mono ?_
     rintro e w5 ⟨rfl,c4⟩
     have a2:l7 W1 0 h bk (H1.dp.run (je H1.dp.S T)) w5:=l7.gw ((Below.rf W1).drew) c4
     obtain ⟨F5,c5,bl,-⟩:=eb.out.brought a2
     have b3:Ext (fun k=>X k) W1 w5:=a2.2.mono ds.out
     have b4:=b2.out.olt
     have b5:=b2.out.glt
     have c6:gU w5 F5 (fun k=>G k∨k=r) O a h (H1.mQ T) ⟨{P.a with V:=v,T:=T},P.sec,g1⟩ {x with r:=r} := by
      refine ⟨c5,b2.out.frame b3 (fun k hk e => ?_) (fun k hk e=>ct.out k e hk),fun k hk B => ?_,fun k hk hO => ?_⟩
      ·rcases hk with hk | hk
       ·exact b0.out k e hk
       ·exact a1 (hk▸e)
      ·rcases bl k hk with e | e
       ·rcases B with B | B
        ·exact b0.out k e B
        ·exact a1 (B▸e)
       ·have:=b5 k B;omega
      ·rcases bl k hk with e | e
       ·exact ct.out k e hO
       ·have:=b4 k hO;omega
     have ed:=ae c6
     have eg:=ae (show ∀ k,F5 k→F k∨w.heap.size≤k from fun k hk=>(bl k hk).elim (ap.out k) fun e => .inr (by have:=am.out.size;have:=cB.out.size;omega))
     have ej:=ae (show Ext (fun k=>F k∨k=x.lg∨k=a) w w5 from ((am.out.mono fun k e=>e.imp id .inl).trans (cB.out.mono fun k e => .inr (.inr e))).trans' b3 fun k e=>(ap.out k e).imp .inl id)
     clear c4 a2 c5 bl b3 b4 b5 c6
     go_wp2
     go_ret
     unfold qD
     rw [D.out]
     exact ⟨_,rfl,ed.out,eg.out,ej.out⟩
theorem gU.se {w w':World} {F G O:Nat→Prop} {a h:Nat} {H:fJ} {P:PAg} {x:AV} (hm:gU w F G O a h H P x) (B b:Nat) (f:Nat×Nat) (s:Nat) (d:Ext (fun k=>k=a) w w') (j:w'.heap[a]?=some (.cells (AV.cells {x with fp := .pointer (some ⟨b,0,none⟩)} P.a.V h) 117 (0,0)))
  (i:B≤b∧¬F b∧¬O b) (o:(f.1≠12∧w.heap[b]?=some (.cells #[.int .i64 (f.1:Nat),.int .i64 (f.2:Nat),.nilIface] 166 (0,0)))∨(f.1=12∧∃ c,(B≤c∧¬F c∧¬O c)∧w.heap[b]?=some (.cells #[.int .i64 (f.1:Nat),.int .i64 (f.2:Nat),.iface 168 (.pointer (some ⟨c,0,none⟩))] 166 (0,0))∧w.heap[c]?=some (.cells #[.int .i64 ((s:Int)-2)] 171 (0,0)))) :
  gU w' F (fun k=>G k∨(B≤k∧k<w.heap.size∧¬F k∧¬O k)) O a h H ⟨{P.a with deg:=some f},s,P.lg⟩ {x with fp := .pointer (some ⟨b,0,none⟩)} := by
 have l:=hm.ag.row
 have m:∀ k,F k→k≠a:=fun k hk e=>hm.fg k hk (e▸hm.ag.gin.1)
 refine ⟨hm.host.ext d fun k hk e=>m k hk e,hm.ag.oq d j rfl rfl rfl rfl rfl rfl (fun k => .inl) (fun k hk => ?_) ?_ ((hm.ag.yu d).mono fun _ => .inl),fun k hk q=>q.elim (hm.fg k hk) fun e=>e.2.2.1 hk,hm.fo⟩
 ·rcases hk with hk | hk
  ·exact ⟨aC (hm.ag.glt k hk) d.size,hm.ag.sep k hk⟩
  ·exact ⟨aC hk.2.1 d.size,hk.2.2.2⟩
 ·have ha:∀ (k:Nat) (C:Array Value) (T:TypeId) (fz:Nat×Nat),w.heap[k]?=some (Obj.cells C T fz)→T≠117→w'.heap[k]?=some (Obj.cells C T fz):=fun k C T fz hk r=>d.at (fun e=>iM hk l r e) hk
  rcases o with ⟨h1,h2⟩ | ⟨h1,c,hc,h2,h3⟩
  ·exact ⟨b,rfl,.inr ⟨i.1,fI h2,i.2⟩,.inl ⟨h1,ha _ _ _ _ h2 (by decide)⟩⟩
  ·exact ⟨b,rfl,.inr ⟨i.1,fI h2,i.2⟩,.inr ⟨h1,c,.inr ⟨hc.1,fI h3,hc.2⟩,ha _ _ _ _ h2 (by decide),ha _ _ _ _ h3 (by decide)⟩⟩
theorem Cq {T:List E} {room:Nat→Int} {n:Nat} {f:Nat×Nat} (h:iq T room n=some f):f.1≠12∧f.1<256:=by
 unfold iq at h
 split at h
 ·cases h;simp
 ·split at h
  ·cases h;simp
  ·cases h
def nZ (H:fJ) (P:PAg) (v:Nat) (T:List E) (L:fJ×LogS×Option Nat):fJ×PAg :=
 match iq T H.dp.room H.seen.length,L with
 | some f,_=>(H,{P with a:=P.a.stops f,sec:=0})
 | none,(H1,g1,some s)=>(H1,⟨P.a.stops (12,0),s,g1⟩)
 | none,(H1,g1,none)=>(H1.mQ T,⟨AgA.lJ {P.a with V:=v,T:=T},P.sec,g1⟩)
theorem gU.pH {w w1 w':World} {j d i M:Nat→Prop} {a h:Nat} {H1:fJ} {o P':PAg} {l:AV} (b:gU w1 j d i a h H1 o l) (q:∀ k,j k∨d k∨i k→M k∨w.heap.size≤k) (m:Ext M w w1) (r:ke w1 d i a h P' l w'):kh w M a h H1 P' w':=by
 obtain ⟨s,h1,h2,h3⟩:=oP.Hm (M:=fun k=>M k∨w.heap.size≤k) b q (r.go b.ag.gin.2.2.2)
 exact ⟨s,h1,fun k hk=>(h2 k hk).elim id fun e => .inr (aI m.size e),m.trans' h3 fun k hk=>hk⟩
theorem uZ (a h:Nat) (F G O M:Nat→Prop) (H:fJ) (P:PAg) (x:AV) (q r v:Nat) (T:List E) (gf:Nat) (lb:Array Value) (eg:∀ args w,(callFunc gf args).run Tryz.prog w = .ok (.enter gf args) w) (L:fJ×LogS×Option Nat) (w:World)
  (hm:gU w F G O a h H P x) (hM:∀ k,F k∨G k∨O k→M k) (he:EntAt w q 0 r T) (hq:¬F q∧¬G q) (hr:¬F r∧¬G r∧¬O r) (ab:iq T H.dp.room H.seen.length=none→uz gf lb w x F h L) (hn:8≤H.seen.length∧H.seen.length≤1000) (hT:T.length≤100000000) (bi:sizeS T≤4611686018427387904) (bk:L.1.dp.S.length≤100000000∧L.1.dp.log.length≤7500000000000∧L.1.dp.room=H.dp.room) (bl:∀ y∈L.1.dp.S,y.1.2.length≤gx) (bn:∀ y∈T,y.1.2.length≤gx∧y.2.length≤gx)
  (a4:P.a.deg=none) (hv:v<18446744073709551616) :
  Calls Tryz.prog 117 #[.pointer (some ⟨a,0,none⟩),.int .u64 (v:Nat),.pointer (some ⟨q,0,none⟩),.func (.func gf) #[] lb] w fun e w'=>e = .returned (.tuple #[])∧kh w (fun k=>M k∨k=r) a h (nZ H P v T L).1 (nZ H P v T L).2 w':=by
 have bo:=ae (EE a h F G O H P x q r v T gf lb eg L w hm he hq hr ab hn hT bi bk bl bn)
 have HM:=ae hm
 have l:=ae hM
 have ak:x.fp = .pointer none:=by
  have:=hm.ag.flt
  rw [a4] at this
  exact this
 obtain ⟨R,hR⟩:∃ R,R=nZ H P v T L:=⟨_,rfl⟩
 have HR:=ae hR
 rw [←hR]
 clear hm hM he ab hR
 go_enter Tryz.func117,Tryz.ntmps117
 go_wp2_with fail
 refine bo.out.mono ?_
 rintro e w1 Q
 unfold qD at Q
 cases B:iq T H.dp.room H.seen.length with
 | some f =>
  rw [B] at Q
  have U:=ae B
  obtain ⟨b,rfl,al,u,am⟩:=Q
  have i:=HM.out.below am
  have d:=i.ag.row
  have a7:=u
  obtain ⟨br,a9⟩:=Cq B
  unfold AV.cells at d
  have c5:=af _ _ 5 _ _ _ d
  have z5:=ao _ _ 5 _ _ d
  have a2:=fI d
  have m:Ext (fun k=>k=a) w1 (w1.setCell ⟨a,5,none⟩ (.pointer (some ⟨b,0,none⟩))):=(Ext.refl (fun k=>k=a) w1).setCell ⟨a,5,none⟩ _ (.inl rfl)
  have o:(w1.setCell ⟨a,5,none⟩ (.pointer (some ⟨b,0,none⟩))).heap[a]?=some (.cells (AV.cells {x with fp := .pointer (some ⟨b,0,none⟩)} P.a.V h) 117 (0,0)):=heap_setCell _ _ 5 _ i.ag.row
  have C:=i.se w.heap.size b f 0 m o ⟨al,fun e=>by have:=HM.out.host.lt b e;omega,fun e=>by have:=HM.out.ag.olt b e;omega⟩ (.inl ⟨br,u⟩)
  have ap:b≠a:=iM u i.ag.row (by decide)
  have I:=m.at (fun e=>ap e) u
  have f0:=af _ _ 0 _ _ _ I
  have j:=o
  unfold AV.cells at j
  have e5:=af _ _ 5 _ _ _ j
  have bb:=fI I
  have av:=fI j
  have D:=ae C
  have W:=ae ((Ext.fM am).trans (m.mono fun k e=>(.inl (l.out k (.inr (.inl (e▸HM.out.ag.gin.1)))):M k∨k=r)):Ext (fun k=>M k∨k=r) w _)
  clear i d u a7 am m o C j I
  go_wp2_with fail
  refine (mw a h f.1 _ _ _ _ _ D.out.ag a9).mono ?_
  rintro e w3 ⟨rfl,X⟩
  have HG:=ae (gU.pH (M:=fun k=>M k∨k=r) D.out (fun k hk=>by
   rcases hk with hk | (hk | hk) | hk
   ·exact .inl (.inl (l.out k (.inl hk)))
   ·exact .inl (.inl (l.out k (.inr (.inl hk))))
   ·exact .inr hk.1
   ·exact .inl (.inl (l.out k (.inr (.inr hk))))) W.out X)
  have Y:Hid (R=(H,{P with a:=P.a.stops f,sec:=0})):=ae (by rw [HR.out];unfold nZ;rw [U.out])
  clear X
  go_wp2
  refine aK (eh rfl _ _ _) rfl ?_
  refine ⟨rfl,?_⟩
  rw [Y.out]
  exact HG.out
 | none =>
  rw [B] at Q
  have U:=ae B
  clear B
  obtain ⟨H1,g1,rf⟩:=L
  cases rf with
  | some s =>
   obtain ⟨b,c,F',rfl,al,bs,u,a3,i,J,Z⟩:=Q
   have d:=i.ag.row
   unfold AV.cells at d
   have c5:=af _ _ 5 _ _ _ d
   have z5:=ao _ _ 5 _ _ d
   have a2:=fI d
   have m:Ext (fun k=>k=a) w1 (w1.setCell ⟨a,5,none⟩ (.pointer (some ⟨b,0,none⟩))):=(Ext.refl (fun k=>k=a) w1).setCell ⟨a,5,none⟩ _ (.inl rfl)
   have o:(w1.setCell ⟨a,5,none⟩ (.pointer (some ⟨b,0,none⟩))).heap[a]?=some (.cells (AV.cells {x with fp := .pointer (some ⟨b,0,none⟩)} P.a.V h) 117 (0,0)):=heap_setCell _ _ 5 _ i.ag.row
   have a0:=HM.out.ag.olt
   have C:=i.se w.heap.size b (12,0) s m o ⟨al,fun e=>(J b e).2.1 rfl,fun e=>by have:=a0 b e;omega⟩ (.inr ⟨rfl,c,⟨bs,fun e=>(J c e).2.2 rfl,fun e=>by have:=a0 c e;omega⟩,u,a3⟩)
   have ap:b≠a:=iM u i.ag.row (by decide)
   have I:=m.at (fun e=>ap e) u
   have f0:=af _ _ 0 _ _ _ I
   have j:=o
   unfold AV.cells at j
   have e5:=af _ _ 5 _ _ _ j
   have bb:=fI I
   have av:=fI j
   have D:=ae C
   have N:=HM.out.ag.gin
   have W:=ae (((Z.mono fun k e=>by
    rcases e with e | e
    ·exact .inl (l.out k (.inl e))
    ·exact .inl (l.out k (.inr (.inl (e▸N.2.2.1))))).trans (m.mono fun k e=>(.inl (l.out k (.inr (.inl (e▸N.1)))):M k∨k=r))):Ext (fun k=>M k∨k=r) w _)
   have a1:=ae J
   clear i d u a3 Z m o C j I J
   go_wp2_with fail
   refine (mw a h 12 _ _ _ _ _ D.out.ag (by omega)).mono ?_
   rintro e w3 ⟨rfl,X⟩
   have HG:=ae (gU.pH (M:=fun k=>M k∨k=r) D.out (fun k hk=>by
    rcases hk with hk | (hk | hk) | hk
    ·exact (a1.out k hk).1.imp (fun e => .inl (l.out k (.inl e))) id
    ·exact .inl (.inl (l.out k (.inr (.inl hk))))
    ·exact .inr hk.1
    ·exact .inl (.inl (l.out k (.inr (.inr hk))))) W.out X)
   have Y:Hid (R=(H1,⟨P.a.stops (12,0),s,g1⟩)):=ae (by rw [HR.out];unfold nZ;rw [U.out])
   clear X
   go_wp2
   refine aK (eh rfl _ _ _) rfl ?_
   refine ⟨rfl,?_⟩
   rw [Y.out]
   exact HG.out
  | none =>
   obtain ⟨F',rfl,i,J,Z⟩:=Q
   have d:=i.ag.row
   unfold AV.cells at d
   have c5:=af _ _ 5 _ _ _ d
   have z5:=ao _ _ 5 _ _ d
   have a2:=fI d
   have m:Ext (fun k=>k=a) w1 (w1.setCell ⟨a,5,none⟩ (.pointer none)):=(Ext.refl (fun k=>k=a) w1).setCell ⟨a,5,none⟩ _ (.inl rfl)
   have o:(w1.setCell ⟨a,5,none⟩ (.pointer none)).heap[a]?=some (.cells (AV.cells {x with r:=r} v h) 117 (0,0)):=by
    have h1:=heap_setCell _ _ 5 (.pointer none) i.ag.row
    have e:(AV.cells {x with r:=r} v h).setIfInBounds 5 (.pointer none)=AV.cells {x with r:=r} v h:=by
     unfold AV.cells
     simp only [ak]
     rfl
    exact h1.trans (bB (fun z=>some (Obj.cells z 117 (0,0))) e)
   have N:=HM.out.ag.gin
   have C:gU (w1.setCell ⟨a,5,none⟩ (.pointer none)) F' (fun k=>G k∨k=r) O a h (H1.mQ T) ⟨{P.a with V:=v,T:=T},P.sec,g1⟩ {x with r:=r} := by
    refine ⟨i.host.ext m fun k hk e=>i.fg k hk (.inl (e▸N.1)),i.ag.oq m o rfl rfl rfl rfl rfl rfl (fun _=>id) (fun k hk=>⟨aC (i.ag.glt k hk) m.size,i.ag.sep k hk⟩) (i.ag.uG m) (i.ag.yu m),i.fg,i.fo⟩
   have j:=o
   unfold AV.cells at j
   have e5:=af _ _ 5 _ _ _ j
   rw [ak] at e5
   have av:=fI j
   have D:=ae C
   have W:=ae (((Z.mono fun k e=>by
    rcases e with e | e | e
    ·exact .inl (l.out k (.inl e))
    ·exact .inl (l.out k (.inr (.inl (e▸N.2.2.1))))
    ·exact .inl (l.out k (.inr (.inl (e▸N.1))))).trans (m.mono fun k e=>(.inl (l.out k (.inr (.inl (e▸N.1)))):M k∨k=r))):Ext (fun k=>M k∨k=r) w _)
   have a1:=ae J
   clear i d Z m o C j J
   go_wp2_with fail
   refine (oS a h _ _ _ _ _ D.out.ag hv).mono ?_
   rintro e w3 ⟨rfl,X⟩
   have HG:=ae (gU.pH (M:=fun k=>M k∨k=r) D.out (fun k hk=>by
    rcases hk with hk | (hk | hk) | hk
    ·exact (a1.out k hk).imp (fun e => .inl (l.out k (.inl e))) id
    ·exact .inl (.inl (l.out k (.inr (.inl hk))))
    ·exact .inl (.inr hk)
    ·exact .inl (.inl (l.out k (.inr (.inr hk))))) W.out X)
   have Y:Hid (R=(H1.mQ T,⟨AgA.lJ {P.a with V:=v,T:=T},P.sec,g1⟩)):=ae (by rw [HR.out];unfold nZ;rw [U.out])
   clear X
   go_wp2
   go_end0
   refine ⟨rfl,?_⟩
   rw [Y.out]
   exact HG.out
end Go.Proofs.YtkkfmkhbdoeglaaGreatDoor
namespace Go.Proofs.YtkkfmkhbdoeglaaGreatDoor
structure WInv (n:Nat) (l:List Int) (s:Nat) (H:fJ) (P:Option PAg) (a:AgA) (maybe:List (Nat×List E)) (ever:List E) (armed:Bool):Prop where
 may:May n H s fun v T=>(v,T)∈maybe
 tabs:∀ m∈maybe,TabOk n (roomN l) m.1 m.2
 uniq:∀ m∈maybe,∀ k∈maybe,m.1=k.1→m=k
 everT:∀ m∈maybe,∀ x∈m.2,x∈ever
 everD:∀ x∈H.dp.S,x∈ever
 sorted:SortedE H.dp.S
 room:H.dp.room=roomN l
 arm:0≤H.fail→armed=true
 self:(a.V,a.T)∈maybe
 up:∀ p,P=some p→H.dp.dead=false→p.a=a∧p.lg.stamp≤s∧H.dp.S=a.T∧(a.deg=none→UpAg n l H p∧maybe=[(a.V,a.T)]∧p.sec=0)∧(∀ f,a.deg=some f→(f.1=12↔1≤p.sec))
theorem WInv.mono {n:Nat} {l:List Int} {s t:Nat} {H:fJ} {P:Option PAg} {a:AgA} {maybe:List (Nat×List E)} {ever ever':List E} {armed:Bool} (h:WInv n l s H P a maybe ever armed) (hs:s≤t) (he:∀ x∈ever,x∈ever'):WInv n l t H P a maybe ever' armed :=
 ⟨h.may.mono hs fun _ _ h=>h,h.tabs,h.uniq,fun m hm x b=>he x (h.everT m hm x b),fun x b=>he x (h.everD x b),h.sorted,h.room,h.arm,h.self,fun p d hd=>by
  obtain ⟨h1,h2,h3⟩:=h.up p d hd
  exact ⟨h1,by omega,h3⟩⟩
theorem DiskUp.writes {n:Nat} {H:fJ} {g:LogS} {v:Nat} {T:List E} (h:DiskUp n H g v T) (k:Int) (b:Int) (d:Int) (lg:List (List UInt8)):DiskUp n {H with writes:=k,fail:=d,dp := {H.dp with left:=b,log:=lg}} g v T:=⟨h.seen,h.late,h.len,h.stamps,h.inv,h.next,h.dead⟩
theorem UpAg.oq {n:Nat} {l:List Int} {H:fJ} {P:PAg} (h:UpAg n l H P) (k:Int) (b:Int) (d:Int) (lg:List (List UInt8)):UpAg n l {H with writes:=k,fail:=d,dp := {H.dp with left:=b,log:=lg}} P:=⟨h.disk.writes k b d lg,h.dpS,h.room,h.tab,h.deg⟩
theorem WInv.oq {n:Nat} {l:List Int} {s:Nat} {H:fJ} {P:Option PAg} {a:AgA} {maybe:List (Nat×List E)} {ever:List E} {armed:Bool} (h:WInv n l s H P a maybe ever armed) (k i d:Int) (lg:List (List UInt8)) (b:Bool) (ha:0≤d→b=true):WInv n l s {H with writes:=k,fail:=d,dp := {H.dp with left:=i,log:=lg}} P a maybe ever b :=
 ⟨h.may,h.tabs,h.uniq,h.everT,h.everD,h.sorted,h.room,ha,h.self,fun p j hd=>by
  obtain ⟨h1,h2,h3,h5,h6⟩:=h.up p j hd
  exact ⟨h1,h2,h3,fun e=>⟨(h5 e).1.oq k i d lg,(h5 e).2⟩,h6⟩⟩
theorem WInv.own {n:Nat} {l:List Int} {s:Nat} {H:fJ} {p:PAg} {a a1:AgA} {maybe:List (Nat×List E)} {ever:List E} {armed:Bool} (h:WInv n l s H (some p) a maybe ever armed) (h1:a1.V=a.V) (h2:a1.T=a.T) (h3:a1.deg=a.deg):WInv n l s H (some {p with a:=a1}) a1 maybe ever armed :=
 ⟨h.may,h.tabs,h.uniq,h.everT,h.everD,h.sorted,h.room,h.arm,by rw [h1,h2];exact h.self,fun q hq hd=>by
  cases hq
  obtain ⟨g1,g2,g3,g5,g6⟩:=h.up p rfl hd
  refine ⟨rfl,g2,by rw [h2];exact g3,fun e => ?_,fun f e=>g6 f (by rw [←h3];exact e)⟩
  obtain ⟨u,u2,u3⟩:=g5 (by rw [←h3];exact e)
  have u1:=u.disk
  rw [g1,←h1,←h2] at u1
  have ut:=u.tab
  rw [g1,←h1,←h2] at ut
  exact ⟨⟨u1,by rw [h2];exact g3,u.room,ut,e⟩,by rw [h1,h2];exact u2,u3⟩⟩
theorem WInv.rP {n:Nat} {l:List Int} {s:Nat} {H:fJ} {p:PAg} {a a1:AgA} {maybe:List (Nat×List E)} {ever:List E} {armed:Bool} {frame:List UInt8} (h:WInv n l s H (some p) a maybe ever armed) (hd:H.dp.dead=false) (b:a.taken frame=(a1,none)) :
  iy H p frame=(H,{p with a:=a1})∧WInv n l s H (some {p with a:=a1}) a1 maybe ever armed:=by
 obtain ⟨g1,-⟩:=h.up p rfl hd
 obtain ⟨h1,h2,h3⟩:=pw b
 refine ⟨?_,h.own h1 h2 h3⟩
 unfold iy
 rw [g1,b]
theorem WInv.full {n:Nat} {l:List Int} {s:Nat} {H:fJ} {p:PAg} {a a1:AgA} {maybe:List (Nat×List E)} {ever:List E} {armed:Bool} {frame:List UInt8} {tk:ie} {f:Nat×Nat} (h:WInv n l s H (some p) a maybe ever armed) (hd:H.dp.dead=false) (i:a.taken frame=(a1,some tk)) (hl:iq (tk.T a1.T) (roomN l) n=some f) :
  iy H p frame=(H,⟨a1.stops f,0,p.lg⟩)∧a1.takes tk (roomN l) n=a1.stops f∧a1.done tk (roomN l) n=[]∧WInv n l s H (some ⟨a1.stops f,0,p.lg⟩) (a1.stops f) maybe ever armed:=by
 obtain ⟨g1,g2,g3,g5,g6⟩:=h.up p rfl hd
 have b:=h.tabs _ h.self
 obtain ⟨t1,t2,t3,t4,t5,t6⟩:=px i b.sorted b.good p.sec p.lg
 obtain ⟨u,u2,u3⟩:=g5 t1
 have hlen:H.seen.length=n:=by rw [u.disk.seen,u.disk.len]
 have d:f.1≠12:=by
  unfold iq at hl
  split at hl
  ·cases hl
   show (10:Nat)≠12
   decide
  ·split at hl
   ·cases hl
    show (11:Nat)≠12
    decide
   ·cases hl
 obtain ⟨j,o,m⟩:=jD {a1 with deg:=some f} 18 [UInt8.ofNat f.1]
 refine ⟨?_,?_,?_,?_⟩
 ·unfold iy
  rw [g1,i]
  simp only
  unfold jU
  simp only [h.room,hlen,hl]
 ·unfold AgA.takes;rw [hl]
 ·unfold AgA.done;rw [hl]
 ·refine ⟨h.may,h.tabs,h.uniq,h.everT,h.everD,h.sorted,h.room,h.arm,?_,fun q hq hd => ?_⟩
  ·rw [show (a1.stops f).V=a.V from o.trans t2,show (a1.stops f).T=a.T from m.trans t3]
   exact h.self
  ·cases hq
   refine ⟨rfl,g2,g3.trans ((show (a1.stops f).T=a.T from m.trans t3)).symm,fun e => ?_,fun k e => ?_⟩
   ·rw [show (a1.stops f).deg=some f from j] at e
    cases e
   ·rw [show (a1.stops f).deg=some f from j] at e
    cases e
    exact ⟨fun e=>absurd e d,fun (e:1≤0)=>by omega⟩
theorem WInv.takes {n:Nat} {l:List Int} {s:Nat} {H:fJ} {p:PAg} {a a1:AgA} {maybe:List (Nat×List E)} {ever ever':List E} {armed:Bool} {frame:List UInt8} {tk:ie} (h:WInv n l s H (some p) a maybe ever armed) (hn:32≤n∧n≤128) (hs:s+2<18446744073709551616) (hd:H.dp.dead=false) (X:a.taken frame=(a1,some tk)) (hl:iq (tk.T a1.T) (roomN l) n=none)
  (he:∀ x,x∈ever∨x∈tk.T a1.T→x∈ever') :
  ∃ H' d,iy H p frame=(H',d)∧(a1.takes tk (roomN l) n).deg=none∧
   (H'.dp.dead=true→WInv n l (s+2) H' (some d) a1 [(a1.V,a1.T),((a1.takes tk (roomN l) n).V,(a1.takes tk (roomN l) n).T)] ever' armed∧∀ x∈H'.dp.S,x∈ever')∧
   (H'.dp.dead=false→
    (d.a=a1.takes tk (roomN l) n∧d.sec=0∧H'.dp.log=H.dp.log++a1.done tk (roomN l) n∧WInv n l (s+2) H' (some d) (a1.takes tk (roomN l) n) [((a1.takes tk (roomN l) n).V,(a1.takes tk (roomN l) n).T)] ever' armed)∨
    (d.a=a1.stops (12,0)∧1≤d.sec∧armed=true∧H'.dp.log=H.dp.log∧WInv n l (s+2) H' (some d) (a1.stops (12,0)) [(a1.V,a1.T),((a1.takes tk (roomN l) n).V,(a1.takes tk (roomN l) n).T)] ever' armed)):=by
 obtain ⟨g1,g2,g3,g5,g6⟩:=h.up p rfl hd
 have B:=h.tabs _ h.self
 obtain ⟨t1,t2,t3,t4,t5,t6⟩:=px X B.sorted B.good p.sec p.lg
 obtain ⟨u,u2,u3⟩:=g5 t1
 have hu:UpAg n l H {p with a:=a1} := by
  have u1:=u.disk
  rw [g1,←t2,←t3] at u1
  have ut:=u.tab
  rw [g1,←t2,←t3] at ut
  exact ⟨u1,by rw [t3];exact g3,u.room,ut,t4.trans t1⟩
 obtain ⟨C,Q⟩:=t6.tab hu hl
 have Q:a1.V<tk.V:=Q
 have C:TabOk n (roomN l) tk.V (tk.T a1.T):=C
 have k:=CY hu hn (by show p.lg.stamp+2<_;omega) t6 hl
 have R:iy H p frame=jU H {p with a:=a1} tk:=by
  unfold iy
  rw [g1,X]
 rw [R]
 generalize jU H {p with a:=a1} tk=q at *
 obtain ⟨H',d⟩:=q
 obtain ⟨Y,D,G,I,Z,J,k7⟩:=k
 simp only at Y D G I Z J k7
 have U:a1.takes tk (roomN l) n=AgA.lJ {a1 with V:=tk.V,T:=tk.T a1.T} := by unfold AgA.takes;rw [hl]
 obtain ⟨p1,p2,p3⟩:=jD {a1 with V:=tk.V,T:=tk.T a1.T} 17 (j4 tk.V)
 have M:(a1.takes tk (roomN l) n).V=tk.V:=by rw [U];exact p2
 have N:(a1.takes tk (roomN l) n).T=tk.T a1.T:=by rw [U];exact p3
 have eD:(a1.takes tk (roomN l) n).deg=none:=by rw [U];exact p1.trans (t4.trans t1)
 have ag:TabOk n (roomN l) a1.V a1.T:=hu.tab
 have i:∀ x,x∈a1.T∨x∈tk.T a1.T→x∈ever':=fun x b=>he x (b.imp (fun b=>h.everT _ h.self x (by rw [←t3];exact b)) id)
 have j:∀ m∈[(a1.V,a1.T),((a1.takes tk (roomN l) n).V,(a1.takes tk (roomN l) n).T)],TabOk n (roomN l) m.1 m.2:=fun m hm=>by
  rw [M,N] at hm
  rcases aV.1 hm with rfl | hm
  ·exact ag
  ·rw [az.1 hm];exact C
 have y:∀ m∈[(a1.V,a1.T),((a1.takes tk (roomN l) n).V,(a1.takes tk (roomN l) n).T)],∀ k∈[(a1.V,a1.T),((a1.takes tk (roomN l) n).V,(a1.takes tk (roomN l) n).T)],m.1=k.1→m=k:=fun m hm k hk e=>by
  rw [M,N] at hm hk
  rcases aV.1 hm with rfl | hm <;> rcases aV.1 hk with rfl | hk
  ·rfl
  ·rw [az.1 hk] at e⊢
   simp only at e
   omega
  ·rw [az.1 hm] at e⊢
   simp only at e
   omega
  ·rw [az.1 hm,az.1 hk]
 have o:∀ m∈[(a1.V,a1.T),((a1.takes tk (roomN l) n).V,(a1.takes tk (roomN l) n).T)],∀ x∈m.2,x∈ever':=fun m hm x b=>by
  rw [M,N] at hm
  rcases aV.1 hm with rfl | hm
  ·exact i x (.inl b)
  ·rw [az.1 hm] at b;exact i x (.inr b)
 have F:May n H' (s+2) fun v T=>(v,T)∈[(a1.V,a1.T),((a1.takes tk (roomN l) n).V,(a1.takes tk (roomN l) n).T)]:=Y.mono (by show p.lg.stamp+2≤s+2;omega) fun v T hc=>by
  rw [M,N]
  rcases hc with ⟨rfl,rfl⟩ | ⟨rfl,rfl⟩
  ·exact ck
  ·exact aT _ (az.2 rfl)
 have r:0≤H'.fail→armed=true:=fun e=>h.arm (Z e)
 refine ⟨H',d,rfl,eD,fun hdd=>⟨⟨F,j,y,o,fun x b=>i x (D x b),G,I,r,ck,fun q hq e => ?_⟩,fun x b=>i x (D x b)⟩,fun hdd => ?_⟩
 ·rw [hdd] at e;cases e
 ·rcases k7 hdd with ⟨r1,r2,O,W⟩ | ⟨r1,r2,O,W,r5⟩
  ·left
   refine ⟨r2,O.trans u3,W,⟨?_,?_,?_,?_,fun x b=>i x (D x b),G,I,r,ck,fun q hq _ => ?_⟩⟩
   ·refine (r1.disk.may.mono (t:=s+2) (by have:d.lg.stamp≤p.lg.stamp+2:=J;omega) fun v T hc => ?_)
    rw [az,hc.1,hc.2,r2]
   ·exact fun m hm=>j m (by rw [az.1 hm];exact aT _ (az.2 rfl))
   ·exact fun m hm k hk _=>by rw [az.1 hm,az.1 hk]
   ·exact fun m hm=>o m (by rw [az.1 hm];exact aT _ (az.2 rfl))
   ·cases hq
    refine ⟨r2,by have:d.lg.stamp≤p.lg.stamp+2:=J;omega,r1.dpS.trans (by rw [r2]),fun _=>⟨r1,rfl,O.trans u3⟩,fun f e => ?_⟩
    rw [eD] at e
    cases e
  ·right
   obtain ⟨q1,q2,q3⟩:=jD {a1 with deg:=some (12,0)} 18 [UInt8.ofNat 12]
   have eS:((a1.stops (12,0)).V,(a1.stops (12,0)).T)=(a1.V,a1.T):=Prod.ext q2 q3
   refine ⟨r1,r2,h.arm O,r5,⟨F,j,y,o,fun x b=>i x (D x b),G,I,r,by rw [eS];exact ck,fun q hq _ => ?_⟩⟩
   cases hq
   refine ⟨r1,by have:d.lg.stamp≤p.lg.stamp+2:=J;omega,W.trans q3.symm,fun e => ?_,fun f e => ?_⟩
   ·rw [show (a1.stops (12,0)).deg=some (12,0) from q1] at e
    cases e
   ·rw [show (a1.stops (12,0)).deg=some (12,0) from q1] at e
    cases e
    exact ⟨fun _=>r2,fun _=>rfl⟩
theorem WInv.ph {n:Nat} {l:List Int} {s:Nat} {H:fJ} {P:Option PAg} {a:AgA} {maybe:List (Nat×List E)} {ever:List E} {armed:Bool} (h:WInv n l s H P a maybe ever armed) (mask cut fail:Int) :
  (∃ H' f,ia (H.again mask cut fail)=(H',.inr (12,0,f))∧1≤f∧0≤fail∧WInv n l s H' none a maybe ever (decide (0≤fail))∧∀ x∈H'.dp.S,x∈ever)∨
  (∃ H' p v T,ia (H.again mask cut fail)=(H',.inl p)∧(v,T)∈maybe∧p.a=begunA v T∧(∀ x∈H'.dp.S,x∈ever)∧(H'.dp.dead=true→WInv n l s H' (some p) a maybe ever (decide (0≤fail)))∧
   (H'.dp.dead=false→WInv n l s H' (some p) (begunA v T) [(v,T)] ever (decide (0≤fail)))):=by
 obtain ⟨m1,m2,m3,m4,m5,m6⟩:=vd h.may mask cut fail
 have d:∀ k:Int,(0≤k→0≤(H.again mask cut fail).fail)→0≤k→decide (0≤fail)=true:=fun k hk e=>bZ (m6 (hk e))
 have i:=wD (l:=l) m1 (fun v T hc=>h.tabs _ hc) m2 m3 (by rw [m4];exact h.sorted) (m5.trans h.room)
 generalize ia (H.again mask cut fail)=q at i
 obtain ⟨H',r⟩:=q
 simp only at i
 cases i with
 | bad f h1 h2 h3 h4 h5 h6 =>
  left
  have o:H'.dp.S=H.dp.S:=by rw [h3];exact m4
  refine ⟨H',f,rfl,h1,m6 h2,⟨h4,h.tabs,h.uniq,h.everT,by rw [o];exact h.everD,by rw [o];exact h.sorted,by rw [h3];exact m5.trans h.room,fun e=>by rw [h5] at e;omega,h.self,fun q hq=>by cases hq⟩,by rw [o];exact h.everD⟩
 | good p v T h1 h2 h3 h4 h5 h6 h7 h8 h9 =>
  right
  have j:∀ x∈H'.dp.S,x∈ever:=fun x b=>by
   rcases h4 x b with b | b
   ·rw [m4] at b;exact h.everD x b
   ·exact h.everT _ h1 x b
  refine ⟨H',p,v,T,rfl,h1,h2.1,j,fun hdd=>⟨h3,h.tabs,h.uniq,h.everT,j,h5,h6,d _ h7,h.self,fun q hq e => ?_⟩,fun hdd => ?_⟩
  ·rw [hdd] at e;cases e
  ·obtain ⟨u,y,B⟩:=jK v T
   have hu:=h9 hdd
   refine ⟨?_,?_,?_,?_,j,h5,h6,d _ h7,by rw [u,y];exact ck,fun q hq _ => ?_⟩
   ·refine hu.disk.may.mono (t:=s) h8 fun w U hc => ?_
    rw [az,hc.1,hc.2,h2.1,u,y]
   ·exact fun m hm=>by rw [az.1 hm];exact h.tabs _ h1
   ·exact fun m hm k hk _=>by rw [az.1 hm,az.1 hk]
   ·exact fun m hm=>by rw [az.1 hm];exact h.everT _ h1
   ·cases hq
    refine ⟨h2.1,h8,hu.dpS.trans (by rw [h2.1]),fun _=>⟨hu,by rw [u,y],h2.2⟩,fun f e => ?_⟩
    rw [B] at e
    cases e
theorem WInv.begun (n:Nat) (l:List Int) (u:32≤n∧n≤128) :
  ∃ H' p,ia (nb n (roomN l))=(H',.inl p)∧p.a=begunA 0 []∧H'.dp.dead=false∧H'.dp.log=[]∧WInv n l 0 H' (some p) (begunA 0 []) [(0,[])] [] false:=by
 obtain ⟨m1,m2,m3,m4,m5⟩:=Aw n l u
 have b:=wD (l:=l) m1 (fun v T hc=>by rw [hc.1,hc.2];exact TabOk.nil n l) m2 m3 (by rw [m4];exact SortedE.nil) (by rw [m4])
 have hdd:(ia (nb n (roomN l))).1.dp.dead=false∧(ia (nb n (roomN l))).1.fail = -1∧(ia (nb n (roomN l))).1.dp.log=[]:=by
  obtain ⟨v,T,⟨rfl,rfl⟩,i⟩:=m1 fun _=>true
  rw [m2] at i
  have i:lF n (nb n (roomN l)).held 0 0 []:=i
  obtain ⟨g,y,-⟩:=pe i
  unfold ia readAll
  rw [aw (by rw [m5];omega)]
  simp only
  rw [m3,y]
  simp only
  rw [m4,(TabOk.nil n l).over]
  exact ⟨rfl,rfl,rfl⟩
 generalize ia (nb n (roomN l))=q at b hdd
 obtain ⟨H',r⟩:=q
 simp only at b hdd
 cases b with
 | bad f h1 h2 h3 h4 h5 h6=>rw [m5] at h2;omega
 | good p v T h1 h2 h3 h4 h5 h6 h7 h8 h9 =>
  obtain ⟨rfl,rfl⟩:=h1
  obtain ⟨o,j,B⟩:=jK 0 []
  have hu:=h9 hdd.1
  have s:H'.dp.S=[]:=hu.dpS.trans (by rw [h2.1,j])
  refine ⟨H',p,rfl,h2.1,hdd.1,hdd.2.2,⟨h3.mono (ah _) fun v T hc=>(by rw [hc.1,hc.2];exact az.2 rfl),fun m hm=>(by rw [az.1 hm];exact TabOk.nil n l),fun m hm k hk _=>(by rw [az.1 hm,az.1 hk]),fun m hm x d=>(by rw [az.1 hm] at d;cases d),fun x d=>(by rw [s] at d;cases d),h5,h6,fun e=>(by rw [hdd.2.1] at e;omega),(by rw [o,j];exact ck),fun q hq _ => ?_⟩⟩
  cases hq
  refine ⟨h2.1,h8,s.trans j.symm,fun _=>⟨hu,by rw [o,j],h2.2⟩,fun f e => ?_⟩
  rw [B] at e
  cases e
end Go.Proofs.YtkkfmkhbdoeglaaGreatDoor
namespace Go.Proofs.YtkkfmkhbdoeglaaGreatDoor
theorem nf (k:UInt8) (b:List UInt8):(sealB k b).length=b.length+5:=by
 unfold sealB
 simp [zp]
theorem AgA.Fit.put {a:AgA} (h:a.Fit) (k:UInt8) (b:List UInt8) (d:b.length≤8):(a.put k b).Fit:=by
 unfold AgA.put
 split
 ·refine ⟨h.v,by simp only [ar,dt];omega,fun s hs => ?_,h.com⟩
  rcases bU.1 hs with hs | hs
  ·exact h.olen s hs
  ·rw [az.1 hs,nf];omega
 ·exact h
theorem AgA.Fit.jb {a:AgA} (h:a.Fit):a.jb.Fit:=h.put _ _ (by rw [fY];omega)
theorem AgA.Fit.lJ {a:AgA} (h:a.Fit):a.lJ.Fit:=h.put _ _ (by rw [fY];omega)
theorem AgA.Fit.gW {a:AgA} (h:a.Fit) (k:Nat):(a.gW k).Fit:=h.put _ _ (by simp)
theorem AgA.Fit.jM {a:AgA} (h:a.Fit):a.jM.Fit:=h.put _ _ (by simp)
theorem AgA.Fit.bad {a:AgA} (h:a.Fit) (k:Nat):(a.bad k).Fit:=(h.gW k).jb
theorem AgA.Fit.stops {a:AgA} (h:a.Fit) (f:Nat×Nat):(a.stops f).Fit:=AgA.Fit.gW (a := {a with deg:=some f}) ⟨h.v,h.out,h.olen,h.com⟩ f.1
theorem AgA.Fit.next {a:AgA} (h:a.Fit):a.next.1.Fit:=by
 unfold AgA.next
 split
 ·exact h
 ·rename_i s l e
  exact ⟨h.v,by have:=h.out;rw [e] at this;simp at this;show l.length≤6;omega,fun t b=>h.olen t (by rw [e];exact aT _ b),h.com⟩
theorem AgA.Fit.fin {a:AgA} (h:a.Fit):AgA.Fit {a with com:=none} := ⟨h.v,h.out,h.olen,fun _ _ _ e=>by cases e⟩
theorem AgA.Fit.begun (v:Nat) (T:List E) (b:v<18446744073709551615):(begunA v T).Fit:=AgA.Fit.jb ⟨b,by simp,by simp,fun _ _ _ e=>by cases e⟩
theorem AgA.Fit.mM {a:AgA} (h:a.Fit) (body:List UInt8):(a.mM body).Fit:=by
 unfold AgA.mM
 split
 ·exact h.bad 1
 ·split
  ·exact h.bad 2
  ·split
   ·exact h.bad 4
   ·rename_i h9 d _
    split
    ·exact h.bad 5
    ·rename_i j
     split
     ·exact h.lJ
     ·refine AgA.Fit.jM ⟨h.v,h.out,h.olen,fun tv of got e => ?_⟩
      cases e
      have hl:=qL 8 (body.take 8) (by rw [aA];omega)
      rw [aS (by rw [aA];omega)] at hl
      have i:iL (body.take 8)<256^8:=hl
      have b:(256:Nat)^8=18446744073709551616:=by decide
      refine ⟨by show 0<_;omega,by omega,by omega,fun s hs=>by cases hs⟩
theorem AgA.Fit.lO {a:AgA} (h:a.Fit) (tv:Nat) (bytes:List UInt8):(a.lO tv bytes).1.Fit:=by
 unfold AgA.lO
 split
 ·exact h.bad _
 ·split
  ·exact h.bad 4
  ·split
   ·exact h.lJ
   ·exact h
theorem AgA.Fit.piece {a:AgA} (h:a.Fit) (body:List UInt8):(a.piece body).1.Fit:=by
 unfold AgA.piece
 split
 ·exact h.bad 1
 ·split
  ·exact h.bad 2
  ·rename_i i
   split
   ·exact h.jb
   ·rename_i tv of got e
    obtain ⟨c1,c2,c3,c4⟩:=h.com tv of got e
    split
    ·exact h.jM
    ·split
     ·refine AgA.Fit.jM ⟨h.v,h.out,h.olen,fun j l b d => ?_⟩
      cases d
      refine ⟨by rw [ar,dt];omega,c2,c3,fun s hs => ?_⟩
      rcases bU.1 hs with hs | hs
      ·exact c4 s hs
      ·rw [az.1 hs,a8];omega
     ·exact h.fin.lO _ _
theorem AgA.Fit.taken {a:AgA} (h:a.Fit) (frame:List UInt8):(a.taken frame).1.Fit:=by
 unfold AgA.taken
 split
 ·exact h.gW 13
 ·split
  ·exact h.bad _
  ·split
   ·unfold AgA.delta
    split
    ·exact h.bad _
    ·split
     ·exact h.lJ
     ·split
      ·exact h.jb
      ·exact h
   ·split
    ·show (if _ then _ else _:AgA).Fit
     split
     ·exact h.jb
     ·exact h.bad 2
    ·split
     ·exact h.mM _
     ·split
      ·exact h.piece _
      ·exact h.bad 6
theorem AgA.Fit.takes {a:AgA} (h:a.Fit) (tk:ie) (room:Nat→Int) (n:Nat) (b:tk.V<18446744073709551615):(a.takes tk room n).Fit:=by
 unfold AgA.takes
 split
 ·exact h.stops _
 ·exact AgA.Fit.lJ ⟨b,h.out,h.olen,h.com⟩
theorem G7 {s:Nat} {data b:List UInt8} (h:b∈gj s data):b.length=64:=by
 unfold gj at h
 obtain ⟨i,-,rfl⟩:=aB.1 h
 exact mr (by rw [pJ];have:=oX data i;omega)
theorem HostOk.gD:∀ (l:List (List UInt8)) {H:fJ} {B:Nat} (n:Nat),HostOk H B→(∀ b∈l,b.length=64)→n+l.length≤H.seen.length→HostOk (gD l H n).1 (B+l.length)∧(gD l H n).1.seen.length=H.seen.length
 | [],H,B,n,h,_,_=>⟨h,rfl⟩
 | s::l,H,B,n,h,hl,d=>by
  unfold _root_.Go.Proofs.YtkkfmkhbdoeglaaGreatDoor.gD
  rw [au] at d
  obtain ⟨h1,h2⟩:=h.write (n:=n) (by omega) (hl s (by simp))
  generalize H.write n s=q at h1 h2⊢
  obtain ⟨H1,r⟩:=q
  cases r with
  | some f=>exact ⟨h1.mono (by rw [au];omega),h2⟩
  | none =>
   have j:H1.seen.length=H.seen.length:=h2
   obtain ⟨g1,g2⟩:=HostOk.gD l (n+1) h1 (fun b i=>hl b (by simp [i])) (by show n+1+l.length≤H1.seen.length;omega)
   exact ⟨g1.mono (by rw [au];omega),g2.trans h2⟩
theorem HostOk.fO {H:fJ} {B:Nat} (h:HostOk H B) (g:LogS) (at':Nat) (data:List UInt8) (d:at'+partsOf data.length≤H.seen.length):HostOk (fO H g at' data).1 (B+partsOf data.length)∧(fO H g at' data).1.seen.length=H.seen.length:=by
 obtain ⟨h1,h2⟩:=HostOk.gD (gj (g.stamp+1) data) (H:=H) (B:=B) at' h (fun b i=>G7 i) (by rw [iU];exact d)
 rw [iU] at h1
 unfold _root_.Go.Proofs.YtkkfmkhbdoeglaaGreatDoor.fO
 generalize _root_.Go.Proofs.YtkkfmkhbdoeglaaGreatDoor.gD (gj (g.stamp+1) data) H at'=q at h1 h2⊢
 obtain ⟨H1,r⟩:=q
 cases r with
 | some f=>exact ⟨h1,h2⟩
 | none=>exact ⟨h1.flush.1,h1.flush.2.trans h2⟩
theorem HostOk.fT {H:fJ} {B:Nat} (h:HostOk H B) (g:LogS) (v:Nat) (T:List E) (hs:g.slot<2) (l:sizeS T≤16*(H.seen.length-8)):HostOk (fT H g v T).1 (B+128)∧(fT H g v T).1.seen.length=H.seen.length∧(fT H g v T).2.1.next≤max g.next (2*placeOf H.seen.length)∧(fT H g v T).2.1.slot<2:=by
 have b:=h.n
 have i:=jf b.1 b.2
 have j:partsOf (gH v T).length≤placeOf H.seen.length:=mB (by rw [lH];omega)
 have d:(1-g.slot)*placeOf H.seen.length+partsOf (gH v T).length≤H.seen.length:=by
  rcases (show g.slot=0∨g.slot=1 by omega) with e | e <;> rw [e] <;> omega
 obtain ⟨h1,h2⟩:=h.fO g ((1-g.slot)*placeOf H.seen.length) (gH v T) d
 unfold _root_.Go.Proofs.YtkkfmkhbdoeglaaGreatDoor.fT
 generalize _root_.Go.Proofs.YtkkfmkhbdoeglaaGreatDoor.fO H g ((1-g.slot)*placeOf H.seen.length) (gH v T)=q at h1 h2⊢
 obtain ⟨H1,r⟩:=q
 cases r with
 | some f=>exact ⟨h1.mono (by omega),h2,by show g.next≤_;omega,hs⟩
 | none=>exact ⟨h1.mono (by omega),h2,by show 2*placeOf H.seen.length≤_;omega,by show 1-g.slot<2;omega⟩
theorem HostOk.gR {H:fJ} {B:Nat} (h:HostOk H B) (g:LogS) (b:List UInt8) (v:Nat) (T:List E) (hs:g.slot<2) (m:sizeS T≤16*(H.seen.length-8)) (y:b.length≤700) (_hg:g.next≤H.seen.length):HostOk (gR H g b v T).1 (B+256)∧(gR H g b v T).1.seen.length=H.seen.length:=by
 have j:=h.n
 have u:=jf j.1 j.2
 have x:partsOf b.length≤14:=by unfold partsOf;omega
 have key:∀ (H':fJ) (d:LogS) (C:Nat),HostOk H' C→C+14≤B+256→H'.seen.length=H.seen.length→d.next+partsOf b.length≤H.seen.length→HostOk (gI H' d b).1 (B+256)∧(gI H' d b).1.seen.length=H.seen.length:=by
  intro H' d C o D l s
  obtain ⟨h1,h2⟩:=o.fO d d.next b (by rw [l];exact s)
  unfold gI
  generalize _root_.Go.Proofs.YtkkfmkhbdoeglaaGreatDoor.fO H' d d.next b=q at h1 h2⊢
  obtain ⟨H1,r⟩:=q
  cases r <;> exact ⟨h1.mono (by omega),h2.trans l⟩
 unfold _root_.Go.Proofs.YtkkfmkhbdoeglaaGreatDoor.gR
 split
 ·obtain ⟨h1,h2,h3,h4⟩:=h.fT g v T hs m
  have i:(_root_.Go.Proofs.YtkkfmkhbdoeglaaGreatDoor.fT H g v T).2.2=none→(_root_.Go.Proofs.YtkkfmkhbdoeglaaGreatDoor.fT H g v T).2.1.next=2*placeOf H.seen.length:=by
   unfold _root_.Go.Proofs.YtkkfmkhbdoeglaaGreatDoor.fT
   generalize _root_.Go.Proofs.YtkkfmkhbdoeglaaGreatDoor.fO H g ((1-g.slot)*placeOf H.seen.length) (gH v T)=q
   obtain ⟨H1,r⟩:=q
   cases r with
   | some f=>intro e;cases e
   | none=>intro _;rfl
  generalize _root_.Go.Proofs.YtkkfmkhbdoeglaaGreatDoor.fT H g v T=q at h1 h2 h3 h4 i⊢
  obtain ⟨H1,g1,r⟩:=q
  cases r with
  | some f=>exact ⟨h1.mono (by omega),h2⟩
  | none=>exact key H1 g1 (B+128) h1 (by omega) h2 (by have:=i rfl;simp only at this;omega)
 ·exact key H g B h (by omega) rfl (by omega)
structure DpFine (l:List Int) (B:Nat) (d:DpS):Prop where
 there:ThereOk (roomN l) EntGood d.S
 room:d.room=roomN l
 log:d.log.length≤B
 left : -1≤d.left∧d.left≤9223372036854775807
theorem DpFine.mono {l:List Int} {B C:Nat} {d:DpS} (h:DpFine l B d) (b:B≤C):DpFine l C d:=⟨h.there,h.room,aI h.log b,h.left⟩
theorem EntGood.tab {x:E} (h:EntGood x):inTab x.1:=⟨h.1,h.2.1⟩
theorem DpFine.stop {l:List Int} {B:Nat} {d:DpS} (h:DpFine l B d):DpFine l B d.stop:=⟨h.there,h.room,h.log,by
 have:=h.left
 show -1≤(if 0<d.left then d.left-1 else d.left)∧(if 0<d.left then d.left-1 else d.left)≤_
 split <;> omega⟩
theorem ThereOk.drop {room:Nat→Int} {P:E→Prop} {S:List E} (h:ThereOk room P S) (k:K):ThereOk room P (nQ k S):=by
 have hs:=lI k h.sorted
 refine ⟨hs,fun x b=>h.tab x ((my k S x).1 b).1,fun t d => ?_,fun x b=>h.mem x ((my k S x).1 b).1⟩
 have h1:=qF hs (fun x b=>aB.2 ⟨x,((my k S x).1 b).1,rfl⟩:∀ x∈nQ k S,x.1∈S.map (·.1)) (t:Int)
 have:=h.room t d
 omega
theorem DpFine.step {l:List Int} {B:Nat} {d:DpS} (h:DpFine l B d) (o:ry) (m:∀ v,o.2=some v→EntGood (o.1,v)):DpFine l (B+2) (d.step o):=by
 obtain ⟨k,v⟩:=o
 have hs:=h.stop
 have hl:=h.log
 cases v with
 | none =>
  unfold DpS.step DpS.drop
  simp only
  split
  ·exact hs.mono (by omega)
  ·exact ⟨h.there.drop k,h.room,by simp only [ar,dt];omega,hs.left⟩
 | some v =>
  have i:=m v rfl
  unfold DpS.step DpS.put
  simp only
  split
  ·exact hs.mono (by omega)
  ·split
   ·rename_i b
    refine ⟨?_,h.room,by simp only [ar,dt];omega,hs.left⟩
    have h1:=h.there.step i
    unfold tu at h1
    have j:=i.tab
    rw [aF j] at h1
    unfold DpS.lY DpS.vZ at b
    rw [aF (show 0≤k.1∧k.1<3 from j),h.room] at b
    rw [aF b] at h1
    exact h1
   ·exact ⟨h.there,h.room,by simp only [ar,dt];omega,hs.left⟩
theorem DpFine.run {l:List Int} : ∀ (os:List ry) {B:Nat} {d:DpS},DpFine l B d→(∀ o∈os,∀ v,o.2=some v→EntGood (o.1,v))→DpFine l (B+2*os.length) (d.run os)
 | [],_,_,h,_=>h
 | o::os,B,d,h,b=>(DpFine.run os (h.step o (b o (by simp))) fun u hu=>b u (by simp [hu])).mono (by rw [au];omega)
theorem AA (h w:List E):(je h w).length≤h.length+w.length:=by
 unfold je lU kz ny qT
 rw [ar,aH,aH]
 exact Nat.add_le_add (dr _ _) (dr _ _)
theorem DpFine.mQ {l:List Int} {B:Nat} {d:DpS} (h:DpFine l B d) {T:List E} (j:∀ x∈T,EntGood x) (hl:T.length≤120):DpFine l (B+480) (d.run (je d.S T)):=by
 refine (h.run (je d.S T) fun o b v i => ?_).mono ?_
 ·unfold je at b
  rcases bU.1 b with b | b
  ·obtain ⟨x,-,rfl⟩:=aB.1 b
   cases i
  ·obtain ⟨x,m,rfl⟩:=aB.1 b
   cases i
   exact j x (cm.1 m).1
 ·have h1:=AA d.S T
  have h2:=h.there.len
  omega
structure Fine (n:Nat) (l:List Int) (B:Nat) (H:fJ):Prop where
 ok:HostOk H B
 len:H.seen.length=n
 dp:DpFine l B H.dp
theorem Fine.mono {n:Nat} {l:List Int} {B C:Nat} {H:fJ} (h:Fine n l B H) (b:B≤C):Fine n l C H:=⟨h.ok.mono b,h.len,h.dp.mono b⟩
theorem Fine.mQ {n:Nat} {l:List Int} {B:Nat} {H:fJ} (h:Fine n l B H) {T:List E} (b:∀ x∈T,EntGood x) (hl:T.length≤120):Fine n l (B+480) (H.mQ T) :=
 ⟨⟨h.ok.n,h.ok.hl,h.ok.s64,h.ok.h64,h.ok.late,h.ok.fail,by have:=h.ok.writes;show 0≤H.writes∧H.writes≤_;omega,by have:=h.ok.ll;show H.late.length≤_;omega⟩,h.len,h.dp.mQ b hl⟩
theorem DpFine.write {l:List Int} {B:Nat} {H:fJ} (h:DpFine l B H.dp) (n:Nat) (s:List UInt8):DpFine l B (H.write n s).1.dp:=by
 unfold fJ.write
 split
 ·exact h
 ·exact h.stop
theorem DpFine.writes {l:List Int} {B:Nat} : ∀ (ps:List (List UInt8)) (H:fJ) (n:Nat),DpFine l B H.dp→DpFine l B (gD ps H n).1.dp
 | [],_,_,h=>h
 | s::ps,H,n,h=>by
  unfold gD
  have h1:=h.write n s
  generalize H.write n s=q at h1⊢
  obtain ⟨H1,r⟩:=q
  cases r with
  | some f=>exact h1
  | none=>exact DpFine.writes ps H1 (n+1) h1
theorem DpFine.flush {l:List Int} {B:Nat} {H:fJ} (h:DpFine l B H.dp):DpFine l B H.flush.1.dp:=by
 unfold fJ.flush
 split
 ·exact h
 ·split <;> exact h.stop
theorem DpFine.fO {l:List Int} {B:Nat} {H:fJ} (h:DpFine l B H.dp) (g:LogS) (n:Nat) (b:List UInt8):DpFine l B (fO H g n b).1.dp:=by
 unfold _root_.Go.Proofs.YtkkfmkhbdoeglaaGreatDoor.fO
 have h1:=DpFine.writes (gj (g.stamp+1) b) H n h
 generalize gD (gj (g.stamp+1) b) H n=q at h1⊢
 obtain ⟨H1,r⟩:=q
 cases r with
 | some f=>exact h1
 | none=>exact h1.flush
theorem DpFine.fT {l:List Int} {B:Nat} {H:fJ} (h:DpFine l B H.dp) (g:LogS) (v:Nat) (T:List E):DpFine l B (fT H g v T).1.dp:=by
 unfold _root_.Go.Proofs.YtkkfmkhbdoeglaaGreatDoor.fT
 have h1:=h.fO g ((1-g.slot)*placeOf H.seen.length) (gH v T)
 generalize _root_.Go.Proofs.YtkkfmkhbdoeglaaGreatDoor.fO H g ((1-g.slot)*placeOf H.seen.length) (gH v T)=q at h1⊢
 obtain ⟨H1,r⟩:=q
 cases r with
 | some f=>exact h1
 | none=>exact h1
theorem DpFine.gI {l:List Int} {B:Nat} {H:fJ} (h:DpFine l B H.dp) (g:LogS) (b:List UInt8):DpFine l B (gI H g b).1.dp:=by
 unfold _root_.Go.Proofs.YtkkfmkhbdoeglaaGreatDoor.gI
 have h1:=h.fO g g.next b
 generalize _root_.Go.Proofs.YtkkfmkhbdoeglaaGreatDoor.fO H g g.next b=q at h1⊢
 obtain ⟨H1,r⟩:=q
 cases r with
 | some f=>exact h1
 | none=>exact h1
theorem DpFine.gR {l:List Int} {B:Nat} {H:fJ} (h:DpFine l B H.dp) (g:LogS) (b:List UInt8) (v:Nat) (T:List E):DpFine l B (gR H g b v T).1.dp:=by
 unfold _root_.Go.Proofs.YtkkfmkhbdoeglaaGreatDoor.gR
 split
 ·have h1:=h.fT g v T
  generalize _root_.Go.Proofs.YtkkfmkhbdoeglaaGreatDoor.fT H g v T=q at h1⊢
  obtain ⟨H1,g1,r⟩:=q
  cases r with
  | some f=>exact h1
  | none=>exact DpFine.gI (H:=H1) h1 g1 b
 ·exact h.gI g b
theorem UpAg.slot {n:Nat} {l:List Int} {H:fJ} {P:PAg} (h:UpAg n l H P):P.lg.slot<2:=by
 obtain ⟨d,v0,i,L,j,b,-⟩:=h.disk.inv
 rcases b with ⟨-,-,-,h1,-⟩ | ⟨h1,-⟩
 ·omega
 ·exact h1
theorem UpAg.len {n:Nat} {l:List Int} {H:fJ} {P:PAg} (h:UpAg n l H P):H.seen.length=n:=by rw [h.disk.seen,h.disk.len]
theorem Fine.takes {n:Nat} {l:List Int} {B:Nat} {H:fJ} {P:PAg} {tk:ie} (h:Fine n l B H) (hu:UpAg n l H P) (j:uV P tk):Fine n l (B+1000) (jU H P tk).1:=by
 unfold jU
 cases hl:iq (tk.T P.a.T) H.dp.room H.seen.length with
 | some f=>exact h.mono (by omega)
 | none =>
  simp only
  rw [h.dp.room,h.len] at hl
  obtain ⟨b,-⟩:=j.tab hu hl
  have k:HostOk (tk.log H P).1 (B+256)∧(tk.log H P).1.seen.length=H.seen.length∧DpFine l B (tk.log H P).1.dp:=by
   cases tk with
   | delta v os =>
    obtain ⟨d,i⟩:=h.ok.gR P.lg (jo v os) P.a.V P.a.T hu.slot (by rw [hu.len];exact hu.tab.size) j.2.2.2.2.1 (by rw [hu.len];exact hu.disk.next)
    exact ⟨d,i,h.dp.gR _ _ _ _⟩
   | state v T =>
    obtain ⟨d,i,-,-⟩:=h.ok.fT P.lg v T hu.slot (by rw [hu.len];exact b.size)
    exact ⟨d.mono (by omega),i,h.dp.fT _ _ _⟩
  generalize tk.log H P=q at k⊢
  obtain ⟨H1,g1,r⟩:=q
  obtain ⟨d,i,m⟩:=k
  have f1:Fine n l (B+256) H1:=⟨d,i.trans h.len,m.mono (by omega)⟩
  cases r with
  | some f=>exact f1.mono (by omega)
  | none=>exact (f1.mQ b.good b.len).mono (by omega)
theorem Fine.recv {n:Nat} {l:List Int} {s B:Nat} {H:fJ} {p:PAg} {a:AgA} {maybe:List (Nat×List E)} {ever:List E} {armed:Bool} (h:Fine n l B H) (hw:WInv n l s H (some p) a maybe ever armed) (hd:H.dp.dead=false) (frame:List UInt8):Fine n l (B+1000) (iy H p frame).1:=by
 obtain ⟨g1,g2,g3,g5,g6⟩:=hw.up p rfl hd
 have b:=hw.tabs _ hw.self
 unfold iy
 rw [g1]
 cases d:a.taken frame with
 | mk a1 r =>
  cases r with
  | none=>exact h.mono (by omega)
  | some tk =>
   obtain ⟨t1,t2,t3,t4,t5,t6⟩:=px d b.sorted b.good p.sec p.lg
   obtain ⟨u,u2,u3⟩:=g5 t1
   have u1:=u.disk
   rw [g1,←t2,←t3] at u1
   have ut:=u.tab
   rw [g1,←t2,←t3] at ut
   exact h.takes (P := {p with a:=a1}) ⟨u1,by rw [t3];exact g3,u.room,ut,t4.trans t1⟩ t6
theorem Fine.readAll {n:Nat} {l:List Int} {B:Nat} {H:fJ} (h:Fine n l B H):Fine n l B (readAll H).1:=by
 have b:=h.ok.fail
 have d:=h.ok.n
 unfold _root_.Go.Proofs.YtkkfmkhbdoeglaaGreatDoor.readAll
 split
 ·exact ⟨⟨h.ok.n,h.ok.hl,h.ok.s64,h.ok.h64,h.ok.late,⟨by show (-1:Int)≤-1;omega,by show (-1:Int)≤_;omega⟩,h.ok.writes,h.ok.ll⟩,h.len,h.dp⟩
 ·rename_i hc
  refine ⟨⟨h.ok.n,h.ok.hl,h.ok.s64,h.ok.h64,h.ok.late,?_,h.ok.writes,h.ok.ll⟩,h.len,h.dp⟩
  show -1≤(if H.fail<0 then H.fail else H.fail-H.seen.length)∧(if H.fail<0 then H.fail else H.fail-H.seen.length)≤_
  split <;> omega
theorem mW {α:Type} (b:Nat→Bool):∀ (l:List (α×Nat)) (k:Nat) (d:List α),(applySel b k l d).length=d.length
 | [],_,_=>rfl
 | (p,n)::l,k,d=>by
  unfold applySel
  rw [mW b l]
  split
  ·rw [b9]
  ·rfl
theorem oU {α:Type} (j:Nat→Bool) (Q : α→Prop):∀ (l:List (α×Nat)) (k:Nat) (d:List α),(∀ x∈l,Q x.1)→(∀ b∈d,Q b)→∀ b∈applySel j k l d,Q b
 | [],_,_,_,hd=>hd
 | (p,n)::l,k,d,hl,hd=>by
  unfold applySel
  refine oU j Q l _ _ (fun y m=>hl y (by simp [m])) fun b i => ?_
  split at i
  ·rcases cT i with i | rfl
   ·exact hd b i
   ·exact hl (_,n) (by simp)
  ·exact hd b i
theorem Fine.again {n:Nat} {l:List Int} {B:Nat} {H:fJ} (h:Fine n l B H) (mask cut fail:Int) (hc:cut≤9223372036854775807) (i:fail≤9223372036854775807):Fine n l B (H.again mask cut fail):=by
 have hl:(applySel (pj mask) 0 H.late H.held).length=H.seen.length:=by rw [mW];exact h.ok.hl
 have h64:∀ b∈applySel (pj mask) 0 H.late H.held,b.length=64:=oU _ (fun b=>b.length=64) _ _ _ (fun x d=>(h.ok.late x d).1) h.ok.h64
 refine ⟨⟨by show 32≤(applySel (pj mask) 0 H.late H.held).length∧(applySel (pj mask) 0 H.late H.held).length≤128;rw [hl];exact h.ok.n,rfl,h64,h64,fun x d=>(by cases d),⟨by show (-1:Int)≤max fail (-1);omega,by show max fail (-1)≤_;omega⟩,h.ok.writes,aL _⟩,hl.trans h.len,⟨h.dp.there,h.dp.room,h.dp.log,⟨by show (-1:Int)≤max cut (-1);omega,by show max cut (-1)≤_;omega⟩⟩⟩
theorem Fine.oq {n:Nat} {l:List Int} {B:Nat} {H:fJ} (h:Fine n l B H) (k b d:Int) (lg:List (List UInt8)) (hk:0≤k∧k≤B) (h1 : -1≤b∧b≤9223372036854775807) (h2 : -1≤d∧d≤9223372036854775807) (h3:lg.length≤B):Fine n l B {H with writes:=k,fail:=d,dp := {H.dp with left:=b,log:=lg}} :=
 ⟨⟨h.ok.n,h.ok.hl,h.ok.s64,h.ok.h64,h.ok.late,h2,hk,h.ok.ll⟩,h.len,⟨h.dp.there,h.dp.room,h3,h1⟩⟩
structure uT (n:Nat) (l:List Int) (B:Nat) (H:fJ) (p:PAg):Prop where
 fine:Fine n l B H
 low:B≤800000000
 fit:p.a.Fit
 up:p.a.deg=none→UpAg n l H p
 stamp:p.lg.stamp<8999999999999999999
def mS (n:Nat) (l:List Int) (seen:List (List UInt8)):Prop:=∃ g v T,Az seen=(g,v,T)∧DiskInv decSB decDB foldS [] (seen.map parseSec) (placeOf n) g.slot v T g.next∧TabOk n (roomN l) v T
theorem WInv.opens {n:Nat} {l:List Int} {s:Nat} {H:fJ} {P:Option PAg} {a:AgA} {maybe:List (Nat×List E)} {ever:List E} {armed:Bool} (h:WInv n l s H P a maybe ever armed) (mask cut fail:Int):mS n l (H.again mask cut fail).seen:=by
 obtain ⟨m1,m2,m3,-,-,-⟩:=vd h.may mask cut fail
 obtain ⟨v,T,hc,b⟩:=m1 fun _=>true
 rw [m2] at b
 obtain ⟨g,d,-,-,-,hd⟩:=pe (show lF n (H.again mask cut fail).held s v T from b)
 exact ⟨g,v,T,by rw [m3];exact d,by rw [m3];exact hd,h.tabs _ hc⟩
theorem xR (n:Nat) (l:List Int) (d:32≤n∧n≤128):mS n l (nb n (roomN l)).seen:=by
 obtain ⟨m1,m2,m3,-,-⟩:=Aw n l d
 obtain ⟨v,T,⟨rfl,rfl⟩,b⟩:=m1 fun _=>true
 rw [m2] at b
 obtain ⟨g,i,-,-,-,hd⟩:=pe (show lF n (nb n (roomN l)).held 0 0 [] from b)
 exact ⟨g,0,[],by rw [m3];exact i,by rw [m3];exact hd,TabOk.nil n l⟩
theorem Fine.start {n:Nat} {l:List Int} {B:Nat} {H:fJ} (h:Fine n l B H) (d:mS n l H.seen):Fine n l (B+480) (ia H).1:=by
 obtain ⟨g,v,T,i,-,b⟩:=d
 have h1:=h.readAll
 unfold ia
 generalize _root_.Go.Proofs.YtkkfmkhbdoeglaaGreatDoor.readAll H=q at h1⊢
 obtain ⟨H1,r⟩:=q
 cases r with
 | some f=>exact h1.mono (by omega)
 | none =>
  simp only
  rw [i]
  simp only
  split
  ·exact h1.mono (by omega)
  ·exact h1.mQ b.good b.len
theorem Fine.new (n:Nat) (l:List Int) (i:32≤n∧n≤128):Fine n l 0 (nb n (roomN l)):=by
 have j:iE.length=64:=by decide
 have h64:∀ b∈List.replicate n iE,b.length=64:=fun b m=>by rw [List.eq_of_mem_replicate m];exact j
 refine ⟨⟨by show 32≤(List.replicate n iE).length∧(List.replicate n iE).length≤128;rw [bG];exact i,rfl,h64,h64,fun x d=>(by cases d),⟨by show (-1:Int)≤-1;omega,by show (-1:Int)≤_;omega⟩,⟨Int.le_refl _,Int.le_refl _⟩,ah _⟩,bG ..,⟨⟨SortedE.nil,fun x d=>(by cases d),fun t o => ?_,fun x d=>(by cases d)⟩,rfl,ah _,⟨by show (-1:Int)≤-1;omega,by show (-1:Int)≤_;omega⟩⟩⟩
 exact (kA l t).1
end Go.Proofs.YtkkfmkhbdoeglaaGreatDoor
namespace Go.Proofs.YtkkfmkhbdoeglaaGreatDoor
open Go.RowKit Go.Shelf
theorem C7 (H:fJ) (n:Nat) (s:List UInt8):H.dp.Same (H.write n s).1.dp:=by
 unfold fJ.write
 split
 ·exact DpS.Same.refl _
 ·exact mi _
theorem BY (H:fJ):H.dp.Same H.flush.1.dp:=by
 unfold fJ.flush
 split
 ·exact DpS.Same.refl _
 ·split <;> exact mi _
theorem uk:∀ (l:List (List UInt8)) (H:fJ) (n:Nat),H.dp.Same (gD l H n).1.dp
 | [],_,_=>DpS.Same.refl _
 | s::l,H,n=>by
  unfold gD
  have h1:=C7 H n s
  generalize H.write n s=q at h1⊢
  obtain ⟨b,d⟩:=q
  cases d with
  | some f=>exact h1
  | none=>exact h1.trans (uk l b (n+1))
theorem ri (H:fJ) (g:LogS) (at':Nat) (data:List UInt8):H.dp.Same (fO H g at' data).1.dp:=by
 unfold fO
 have h1:=uk (gj (g.stamp+1) data) H at'
 generalize gD (gj (g.stamp+1) data) H at'=q at h1⊢
 obtain ⟨b,d⟩:=q
 cases d with
 | some f=>exact h1
 | none=>exact h1.trans (BY b)
theorem sr (H:fJ) (g:LogS) (v:Nat) (T:List E):H.dp.Same (fT H g v T).1.dp:=by
 unfold fT
 have h1:=ri H g ((1-g.slot)*placeOf H.seen.length) (gH v T)
 generalize fO H g ((1-g.slot)*placeOf H.seen.length) (gH v T)=q at h1⊢
 obtain ⟨d,b⟩:=q
 cases b <;> exact h1
theorem su (H:fJ) (g:LogS) (b:List UInt8):H.dp.Same (gI H g b).1.dp:=by
 unfold gI
 have h1:=ri H g g.next b
 generalize fO H g g.next b=q at h1⊢
 obtain ⟨i,d⟩:=q
 cases d <;> exact h1
theorem Am (H:fJ) (g:LogS) (b:List UInt8) (v:Nat) (T:List E):H.dp.Same (gR H g b v T).1.dp:=by
 unfold gR
 split
 ·have h1:=sr H g v T
  generalize fT H g v T=q at h1⊢
  obtain ⟨d,g1,i⟩:=q
  cases i with
  | some f=>exact h1
  | none=>exact h1.trans (su d g1 b)
 ·exact su H g b
theorem EntGood.small {x:E} (h:EntGood x):0≤x.1.1∧x.1.1<256∧x.1.2.length≤100∧x.2.length≤100:=by
 obtain ⟨h1,h2,h3,h4⟩:=h
 have b:=jg h3
 have d:=iO h1 h2 h4
 have i:=sS x.1.1
 have j:=tz x.1.1
 exact ⟨h1,by omega,by omega,by omega⟩
theorem wz {S:List E} (h:∀ x∈S,EntGood x):sizeS S≤201*S.length:=by
 induction S with
 | nil=>simp [sizeS]
 | cons x S ih =>
  have h1:=ih fun y b=>h y (aT _ b)
  obtain ⟨-,-,h3,h4⟩:=(h x (by simp)).small
  unfold sizeS at h1⊢
  rw [bq,List.sum_cons,au]
  omega
theorem E5 (n B a h d i:Nat) (l:List Int) (F G O:Nat→Prop) (H:fJ) (P:PAg) (x:AV) (bv:Value) (body:List UInt8) (w:World) (hm:gU w F G O a h H P x) (hu:UpAg n l H P) (Q:HostOk H B) (hB:B≤800000000) (R:P.lg.stamp<8999999999999999999)
  (I:BytesAt w bv body) (u:∀ k,bv.ownBlock=some k→¬F k∧k≠x.lg∧k<w.heap.size) (S:body.length≤700) (ha:w.cell? ⟨d,0,none⟩=some (.pointer (some ⟨a,0,none⟩))) (C:w.cell? ⟨i,0,none⟩=some bv) (o:(¬F d∧d≠x.lg)∧¬F i∧i≠x.lg) :
  uz 118 #[.pointer (some ⟨d,0,none⟩),.pointer (some ⟨i,0,none⟩)] w x F h (gR H P.lg body P.a.V P.a.T):=by
 intro W D
 have b:=hm.below D
 have j:=b.ag.row
 unfold AV.cells rO at j
 have c1:=af _ _ 1 _ _ _ j
 have c2:=af _ _ 2 _ _ _ j
 have c0:=af _ _ 0 _ _ _ j
 have U:=fI j
 have J:=(D.cell (p:=⟨d,0,none⟩) (fP ha)).trans ha
 have M:=(D.cell (p:=⟨i,0,none⟩) (fP C)).trans C
 obtain ⟨X,Z,rfl,-,-⟩:=I.opened
 have E:=I.below D
 have m:=b.ag.gin
 have aa:=ae (fun (Y:World) (s:Below W.heap.size W Y)=>Cr x.lg h F H P.lg B a 0 x.r P.a.V P.a.T (.slice X body.length Z) body Y (fK s (fI b.ag.log) b.ag.log) (b.host.below s) Q hB (fun e=>b.fg _ e m.2.2.1)
  ⟨(s.cell (p:=⟨a,0,none⟩) U).trans c0,b.ag.tab.fW (s.block _ b.ag.tab.lt)⟩ ⟨fun e=>b.fg _ e m.1,fun e=>iM b.ag.row b.ag.log (by decide) e⟩ ⟨fun e=>b.fg _ e m.2.1,fun e=>b.ag.tab.jQ b.ag.log e.symm⟩
  hu.slot (by rw [hu.len];exact hu.tab.size) (by have:=hu.tab.len;omega) (by have:=hu.tab.v64;omega) (fun y hy=>(hu.tab.good y hy).small) R (E.below s) (fun k e=>⟨(u k e).1,(u k e).2.1,by have:=(u k e).2.2;have:=D.size;have:=s.size;omega⟩) S (by rw [hu.len];exact hu.disk.next))
 have halt:=fP J
 have al:=fP M
 have q:=ae (show ¬(F d∨d=x.lg)∧¬(F i∨i=x.lg)∧¬(F a∨a=x.lg) from ⟨fun e=>e.elim o.1.1 o.1.2,fun e=>e.elim o.2.1 o.2.2,fun e=>e.elim (fun e=>b.fg _ e m.1) fun e=>iM b.ag.row b.ag.log (by decide) e⟩)
 clear hm b j I E m ha C
 go_enter Tryz.func118,Tryz.ntmps118
 go_wp2
 go_region_held3 (fun w'=>w'.cell? ⟨d,0,none⟩=some (.pointer (some ⟨a,0,none⟩))∧w'.cell? ⟨i,0,none⟩=some (.slice X body.length Z)∧w'.cell? ⟨a,2,none⟩=some (.pointer (some ⟨x.lg,0,none⟩))∧w'.cell? ⟨a,1,none⟩=some (.int .u64 (P.a.V:Nat)))
  (first | exact ⟨J,M,c2,c1⟩ | (obtain ⟨F',g1,g2,g3⟩:=h3;exact ⟨g3.cell (p:=⟨d,0,none⟩) q.out.1 J,g3.cell (p:=⟨i,0,none⟩) q.out.2.1 M,g3.cell (p:=⟨a,2,none⟩) q.out.2.2 c2,g3.cell (p:=⟨a,1,none⟩) q.out.2.2 c1⟩))
  (first | (go_at_call 119;refine (aa.out _ (by first | exact (Below.rf W).drew | exact Below.rf W)).mono ?_;rintro e w1 ⟨rv,rfl,h1,h2,h3,h4⟩))
 all_goals
  have N:=ae (⟨h1,h2,h3⟩:xp _ w1 rv (gR H P.lg body P.a.V P.a.T).2.2∧LogAt w1 x.lg h (gR H P.lg body P.a.V P.a.T).2.1∧ir _ F (fun k=>k=x.lg) h (gR H P.lg body P.a.V P.a.T).1 w1)
  clear h1 h2 h3 h4
  go_wp2
  go_ret
  exact ⟨_,rfl,N.out.1,N.out.2.1,ir.gw ((Below.rf W).drew) N.out.2.2⟩
def im (w:World) (M:Nat→Prop) (a h:Nat) (R:(fJ×PAg)×Option Nat) (e:Ending) (w':World):Prop :=
 kh w M a h R.1.1 R.1.2 w'∧match R.2 with
  | none=>e = .returned .nilIface
  | some k=>∃ ev p,e = .returned ev∧iT w' w.heap.size ev (k:Nat) p
def nu (H:fJ) (P:PAg) (body:List UInt8):(fJ×PAg)×Option Nat:=match pO body with
 | .inr f=>((H,P),some f.1)
 | .inl (v,os)=>(if v≤P.a.V then (H,{P with a:=P.a.lJ}) else if P.a.V+1<v then (H,{P with a:=P.a.jb}) else nZ H P v (foldS P.a.T os) (gR H P.lg body P.a.V P.a.T),none)
theorem FN {k:K} {v:List UInt8} {S:List E} {l:List E} (h:∀ x,x∈S↔x∈l) (hk:k∉l.map (·.1)) (x:E):x∈jJ k v S↔x∈l++[(k,v)]:=by
 rw [jn,bU,az,h]
 constructor
 ·rintro (h | ⟨h,-⟩)
  ·exact .inr h
  ·exact .inl h
 ·rintro (h1 | h1)
  ·exact .inr ⟨h1,fun e=>hk (aB.2 ⟨x,h1,e⟩)⟩
  ·exact .inl h1
theorem zB (n B a h:Nat) (l:List Int) (F G O M:Nat→Prop) (H:fJ) (P:PAg) (x:AV) (bv:Value) (body:List UInt8) (w:World) (hm:gU w F G O a h H P x) (hM:∀ k,F k∨G k∨O k→M k) (hu:UpAg n l H P) (hX:32≤n∧n≤128) (c3:HostOk H B) (hB:B≤800000000) (fb:P.lg.stamp<8999999999999999999) (hL:H.dp.log.length≤7500000000000)
  (hQ:BytesAt w bv body) (c4:∀ k,bv.ownBlock=some k→¬F k∧k≠x.lg∧k<w.heap.size) (fd:body.length≤gx) (bx:ShapesVar w) :
  Calls Tryz.prog 81 #[.pointer (some ⟨a,0,none⟩),bv] w (im w M a h (nu H P body)):=by
 obtain ⟨hN,hO,rfl,-,-⟩:=hQ.opened
 have W:Below w.heap.size w ((w.alloc (.cells #[.pointer (some ⟨a,0,none⟩)] 89)).alloc (.cells #[.slice hN body.length hO] 59)):=Below.al (Below.al (Below.rf w) _) _
 have a9:=fQ (w.alloc (.cells #[.pointer (some ⟨a,0,none⟩)] 89)) (.cells #[.slice hN body.length hO] 59) (fL w (.cells #[.pointer (some ⟨a,0,none⟩)] 89))
 have X:=fL (w.alloc (.cells #[.pointer (some ⟨a,0,none⟩)] 89)) (.cells #[.slice hN body.length hO] 59)
 have hh:((w.alloc (.cells #[.pointer (some ⟨a,0,none⟩)] 89)).alloc (.cells #[.slice hN body.length hO] 59)).heap.size=w.heap.size+2:=by rw [ax,ax]
 rw [ax] at X
 have J:=ae hm
 have ba:=ae hM
 have m:=ae hu
 have fg:=ae c3
 have D:=ae c4
 obtain ⟨R,hR⟩:∃ R,R=nu H P body:=⟨_,rfl⟩
 have HR:=ae hR
 rw [←hR]
 have b:=hQ.below W
 have bz:=bx.fW W.size (W.block _ bx.two)
 clear hm hM hu c3 c4 hR bx hQ
 go_enter Tryz.func81,Tryz.ntmps81
 go_upto_region 1 with fail
 generalize (w.alloc (.cells #[.pointer (some ⟨a,0,none⟩)] 89)).alloc (.cells #[.slice hN body.length hO] 59)=w0 at *
 have c5:=ae W
 have fi:=ae (uN (.slice hN body.length hO) body w0 b (fun k e=>by have:=(D.out k e).2.2;omega) fd bz)
 have a0:=af _ _ 0 _ _ _ a9
 have b0:=af _ _ 0 _ _ _ X
 have bD:=fI a9
 have bH:=fI X
 have fk:=ae a9
 have e1:=ae X
 have fl:=ae b
 clear W a9 X b bz
 go_wp2_with fail
 refine fi.out.mono ?_
 rintro e w1 ⟨b,bb⟩
 have bI:=ae (c5.out.tn b)
 have bc:=fK b bD fk.out
 have N:=fK b bH e1.out
 cases i:pO body with
 | inr f =>
  obtain ⟨hU,fp⟩:=f
  rw [i] at bb
  obtain ⟨ev,rfl,c6⟩:=bb
  have fn:=ae c6
  obtain ⟨g,rfl,-,-⟩:=c6
  have d:Hid (R=((H,P),some hU)):=ae (by rw [HR.out];unfold nu;rw [i])
  have c7:Below w1.heap.size w1 (w1.alloc (.cells #[.int .u64 0,.slice none 0 0] 34)):=(Below.rf w1).alloc (ah _) _
  have bL:=ae c7
  clear i b c7 bc N
  go_wp2
  refine aK (v := .iface 114 (.pointer (some ⟨g,0,none⟩))) (by simp [results,Tryz.results81,go_sem]) rfl ?_
  unfold im
  rw [d.out]
  refine ⟨⟨M,⟨F,G,O,x,(J.out.below bI.out).below bL.out,ba.out⟩,fun k => .inl,(Ext.fM bI.out).trans (Ext.fM bL.out)⟩,_,fp,rfl,?_⟩
  obtain ⟨g',hW,hY,hS⟩:=fn.out
  exact ⟨g',hW,by omega,fK bL.out (fI hS) hS⟩
 | inl y =>
  obtain ⟨v,os⟩:=y
  rw [i] at bb
  obtain ⟨sv,rfl,aE⟩:=bb
  obtain ⟨sa,s,rfl⟩:=aE.shape
  have bN:=i
  rw [oB] at bN
  obtain ⟨bO,bi⟩:=uE _ _ _ bN
  have fr:=ae bi
  have bP:=ae bO
  have fz:=ae (mx bO)
  have d:Hid (R=(if v≤P.a.V then (H,{P with a:=P.a.lJ}) else if P.a.V+1<v then (H,{P with a:=P.a.jb}) else nZ H P v (foldS P.a.T os) (gR H P.lg body P.a.V P.a.T),none)):=ae (by rw [HR.out];unfold nu;rw [i])
  have t2:Below w1.heap.size w1 (w1.alloc (.cells #[.int .u64 (v:Nat),.slice sa os.length s] 34)):=(Below.rf w1).alloc (ah _) _
  have D2:=fL w1 (.cells #[.int .u64 (v:Nat),.slice sa os.length s] 34)
  have fB:=ae (aE.below t2)
  have u:=ae (bI.out.tn t2)
  have bk:=fK t2 (fI bc) bc
  have Q:=fK t2 (fI N) N
  have hi:=b.size
  clear bN bO bi aE i b bc N HR
  go_upto_region 11 with fail
  generalize w1.alloc (.cells #[.int .u64 (v:Nat),.slice sa os.length s] 34)=w2 at *
  have bX:=J.out.below u.out
  have j:=bX.ag.row
  unfold AV.cells rO at j
  have c1:=af _ _ 1 _ _ _ j
  have c0:=af _ _ 0 _ _ _ j
  have g1:=fI j
  have d0:=af _ _ 0 _ _ _ D2
  have d1:=af _ _ 1 _ _ _ D2
  have g2:=fI D2
  have a2:=af _ _ 0 _ _ _ bk
  have b2:=af _ _ 0 _ _ _ Q
  have g3:=fI bk
  have g4:=fI Q
  have I:=ae bX
  have c8:=ae D2
  have b1:=ae bk
  have e2:=ae Q
  have e3:=m.out.tab.v64
  clear bX j D2 bk Q a0 b0 bD bH t2
  obtain ⟨V,hV⟩:∃ V,V=P.a.V:=⟨_,rfl⟩
  have HV:=ae hV
  rw [←hV] at c1 e3 d
  clear hV
  by_cases h1:v≤V
  ·have f0:(v:Int)≤(V:Int):=by omega
   rw [aF h1] at d
   clear h1
   go_region
   all_goals
    go_wp2_with fail
    refine (oS a h P x G O _ (I.out.below ((Below.rf w2).drew)).ag (by rw [←HV.out];omega)).mono ?_
    rintro e w3 ⟨rfl,Y⟩
    have HG:=ae (gU.pH (M:=M) (I.out.below ((Below.rf w2).drew)) (fun k hk => .inl (ba.out k hk)) (Ext.fM (u.out.tn ((Below.rf w2).drew))) Y)
    clear Y
    go_wp2
    go_ret
    unfold im
    rw [d.out]
    exact ⟨HG.out,rfl⟩
  ·have f0:¬(v:Int)≤(V:Int):=by omega
   rw [aw h1] at d
   have hj:IntKind.u64.wrap ((V:Int)+1)=((V+1:Nat):Int):=by rw [show ((V:Int)+1)=((V+1:Nat):Int) by omega];exact IntWalk.u64_in _ (by omega)
   by_cases h2:V+1<v
   ·have f1:((V+1:Nat):Int)<(v:Int):=by omega
    rw [aF h2] at d
    clear h1 h2
    go_region
    all_goals
     go_wp2
     go_region
     all_goals
      go_wp2_with fail
      refine (kI a h P x G O _ (I.out.below ((Below.rf w2).drew.drew)).ag (by rw [←HV.out];omega)).mono ?_
      rintro e w3 ⟨rfl,Y⟩
      have HG:=ae (gU.pH (M:=M) (I.out.below ((Below.rf w2).drew.drew)) (fun k hk => .inl (ba.out k hk)) (Ext.fM (u.out.tn ((Below.rf w2).drew.drew))) Y)
      clear Y
      go_wp2
      go_ret
      unfold im
      rw [d.out]
      exact ⟨HG.out,rfl⟩
   ·have f1:¬((V+1:Nat):Int)<(v:Int):=by omega
    rw [aw h2] at d
    obtain rfl:v=V+1:=by omega
    clear h1 h2
    go_region
    all_goals
     go_wp2
     go_region
     all_goals
      go_wp2_with fail
      refine (kX _).mono ?_
      rintro e w3 ⟨rfl,b3,c9,da⟩
      have bl:Below w2.heap.size w2 w3:=(Below.rf w2).drew.drew.tn c9
      have dc:=ae (show w3.heap.size=w2.heap.size+2 from da)
      have bn:=I.out.below bl
      have o:=bn.ag.row
      unfold AV.cells rO at o
      have e0:=af _ _ 0 _ _ _ o
      have go:=fI o
      have b4:=fK bl (fI b1.out) b1.out
      have a3:=af _ _ 0 _ _ _ b4
      have gp:=fI b4
      have f2:=ae bn
      have f3:=ae bl
      have dk:=ae b3
      obtain ⟨dl,L,b5,Y⟩:=bn.ag.tab
      have HP:=ae Y
      have dn:=ae dl
      have b6:w3.cell? ⟨w2.heap.size+1,0,none⟩=some (.map (some w2.heap.size)):=b3.cell
      have g5:=fP b6
      clear b3 c9 bl bn o b4 dl Y c0 c1 da
      go_upto_region 3 with fail
      go_wp2_with (first | (refine jY rfl _ rfl Tryz.underlying107 rfl b5 ?_;intro w4 e5 ds hl) | fail)
      clear b5
      have g6:x.r<w3.heap.size:=f2.out.ag.tab.lt
      have f5:Hid (x.r≠w2.heap.size):=ae (by have:=I.out.ag.tab.lt;omega)
      try go_frame
      go_loopw [8] (fun _ wr=>∃ (pl Sl:List E),gm wr x.r w3.heap.size L (pl.map zS)∧TabAt wr w2.heap.size Sl∧(∀ y,y∈Sl↔y∈pl)∧Ext (fun k=>k=w2.heap.size) w3 wr) (fun _ wr=>wr.rangeLeft x.r w3.heap.size)
      case atStart=>exact ⟨[],[],e5,dk.out.tab.fW (ds.block _ dk.out.tab.lt),fun y=>Iff.rfl,Ext.fM ds⟩
      case round =>
       obtain ⟨pl,Sl,Z,dv,b7,b8⟩:=hrel
       have aa:=ae dv
       have ca:=ae b8
       have dT:=ae b7
       clear dv b8 b7
       go_wp2_with (first | (refine kD rfl _ rfl rfl Z ?_ ?_) | fail)
       ·intro d2
        have d3:=qO (ky Z.sub.2.2) dn.out.nodup (d2.trans HP.out)
        have d4:Sl=P.a.T:=aa.out.sorted.ext dn.out fun y=>(dT.out y).trans d3.mem_iff
        rw [d4] at aa
        have ab:Ext (fun k=>k=w2.heap.size) w2 wr:=(Ext.fM f3.out).trans ca.out
        have tq:=ca.out.cell (p:=⟨w2.heap.size+1,0,none⟩) (show ¬w2.heap.size+1=w2.heap.size by omega) b6
        have hn:=fP tq
        have Dr:=ab.at (show ¬w1.heap.size=w2.heap.size by omega) c8.out
        have y0:=af _ _ 0 _ _ _ Dr
        have y1:=af _ _ 1 _ _ _ Dr
        have ho:=fI Dr
        have d5:iu wr (.slice sa os.length s) os:=(fB.out.frame ab.size fun k e hk=>ab.block k hk (show ¬k=w2.heap.size by omega)).sliceAt
        have f6:=ae d5
        have f7:=ae ab
        have f8:=ae aa.out
        clear d3 d4 Dr d5 ab Z d2 a3
        go_upto_region 7 with fail
        go_still_tail 4,(by kernel_rfl)
        go_wp2_with fail
        refine (sK (w2.heap.size+1) 0 w2.heap.size P.a.T (V+1) (.slice sa os.length s) os wr.drew ⟨tq,f8.out.fW rfl⟩ (f6.out.below ((Below.rf wr).drew)) (by have:=(oO bP.out).1;omega)).mono ?_
        rintro e w5 ⟨rfl,cb,d6⟩
        have ak:Ext (fun k=>k=w2.heap.size) w2 w5:=f7.out.drew.trans d6
        have d7:Below w.heap.size w w5:=u.out.trans (ak.below u.out.size fun k hk e=>by have:=u.out.size;omega)
        have am:=ae d7
        have hp:=ae cb
        have t5:=d6.cell (p:=⟨w2.heap.size+1,0,none⟩) (show ¬w2.heap.size+1=w2.heap.size by omega) (show wr.drew.cell? _=_ from tq)
        have f9:=ae (⟨t5,cb⟩:EntAt w5 (w2.heap.size+1) 0 w2.heap.size (foldS P.a.T os))
        have ce:=ae (ak.at (show ¬w.heap.size=w2.heap.size by omega) b1.out)
        have e7:=ae (ak.at (show ¬w.heap.size+1=w2.heap.size by omega) e2.out)
        have d8:=ae (ak.at (show ¬w1.heap.size=w2.heap.size by omega) c8.out)
        have a5:=af _ _ 0 _ _ _ ce.out
        have hr:=af _ _ 0 _ _ _ d8.out
        have g9:=fI ce.out
        have hb:=fI d8.out
        clear ak d7 cb t5 y0 y1
        go_wp2_with fail
        have hd:=am.out.size
        have bo:=J.out.ag.glt
        have br:=J.out.host.lt
        have ga:=J.out.ag.olt
        have hf:=u.out.size
        have d9:∀ y∈foldS P.a.T os,EntGood y:=((⟨ah _,m.out.tab.sorted,m.out.tab.good⟩:jy P.a.T.length P.a.T).fold bP.out).good
        have gq:(foldS P.a.T os).length≤128:=by
         have h1:=qa os m.out.tab.sorted
         have h2:=m.out.tab.len
         have h3:=(oO bP.out).1
         omega
        have q:=Am H P.lg body P.a.V P.a.T
        have hg:=wz d9
        have hs:(100:Nat)≤gx:=by unfold gx;omega
        have eb:=uZ a h F G O M H P x (w2.heap.size+1) w2.heap.size (V+1) (foldS P.a.T os) 118 #[.pointer (some ⟨w.heap.size,0,none⟩),.pointer (some ⟨w.heap.size+1,0,none⟩)] (fun _ _=>by kernel_rfl) (gR H P.lg body P.a.V P.a.T) w5 (J.out.below am.out) ba.out f9.out
         ⟨fun e=>by have:=br _ e;omega,fun e=>by have:=bo _ e;omega⟩ ⟨fun e=>by have:=br _ e;omega,fun e=>by have:=bo _ e;omega,fun e=>by have:=ga _ e;omega⟩
         (fun _=>E5 n B a h w.heap.size (w.heap.size+1) l F G O H P x (.slice hN body.length hO) body w5 (J.out.below am.out) m.out fg.out hB fb (fR.frame fl.out fun k e _=>(am.out.block k (D.out k e).2.2).trans (c5.out.block k (D.out k e).2.2).symm) (fun k e=>⟨(D.out k e).1,(D.out k e).2.1,by have:=(D.out k e).2.2;omega⟩) (by have:=fz.out.2;rw [fr.out] at this;omega) (af _ _ 0 _ _ _ ce.out) (af _ _ 0 _ _ _ e7.out) ⟨⟨fun e=>by have:=br _ e;omega,fun e=>by have:=bo _ (e▸J.out.ag.gin.2.2.1);omega⟩,fun e=>by have:=br _ e;omega,fun e=>by have:=bo _ (e▸J.out.ag.gin.2.2.1);omega⟩)
         (by rw [m.out.len];omega) (by omega) (by omega) ⟨by rw [q.1,m.out.dpS];have:=m.out.tab.len;omega,by rw [q.2.1];exact hL,q.2.2⟩ (fun y hP=>by rw [q.1,m.out.dpS] at hP;have:=(m.out.tab.good y hP).small;omega) (fun y hP=>by have:=(d9 y hP).small;omega) m.out.deg (by omega)
        rw [show ((V:Int)+1)=((V+1:Nat):Int) by omega]
        refine eb.mono ?_
        rintro e C ⟨rfl,ec⟩
        have HG:=ae (kh.trans (fun k hk=>hk.imp id fun e=>by omega) (Ext.fM am.out) ec)
        clear eb ec
        go_wp2
        go_ret
        unfold im
        rw [d.out]
        have ed:=HG.out
        rw [HV.out] at ed⊢
        exact ⟨ed,rfl⟩
       ·intro S U v' C hT gc cf ci eg bi ht
        obtain ⟨⟨k',vb⟩,ge,e⟩:=aB.1 (HP.out.mem_iff.1 hT)
        cases e
        have a4:gm C x.r w3.heap.size L ((pl++[((S,U),vb)]).map zS):=by rw [bC];exact cf
        have cl:=ae a4
        have gf:=ae Z
        have co:Ext (fun k=>k=w2.heap.size) w3 C:=ca.out.grow ci (.inr (ah _))
        have cp:=a4.sub.2.2
        rw [qH,bC,cj] at cp
        have gg:=ae (show (S,U)∉pl.map (·.1) from fun e=>cp.2.2 _ e _ (by simp) rfl)
        clear cf a4 hT gc ge Z cp
        unfold kP at bi
        unfold kP
        have hZ:=co.cell (p:=⟨w.heap.size,0,none⟩) (fun e=>by have e':w.heap.size=w2.heap.size:=e;omega) a3
        have al:=Below.al (Below.al (Below.rf C) (.cells #[.int .i64 S,.string ⟨U.toArray⟩] 94)) (.cells #[.string ⟨vb.toArray⟩] 180)
        have K7:=fQ (C.alloc (.cells #[.int .i64 S,.string ⟨U.toArray⟩] 94)) (.cells #[.string ⟨vb.toArray⟩] 180) (fL C (.cells #[.int .i64 S,.string ⟨U.toArray⟩] 94))
        have V7:=fL (C.alloc (.cells #[.int .i64 S,.string ⟨U.toArray⟩] 94)) (.cells #[.string ⟨vb.toArray⟩] 180)
        rw [ax] at V7
        have hv:=ae (show C.heap.size=wr.heap.size from eg)
        clear eg
        go_upto_region 6 with fail
        generalize (C.alloc (.cells #[.int .i64 S,.string ⟨U.toArray⟩] 94)).alloc (.cells #[.string ⟨vb.toArray⟩] 180)=w7 at *
        have cq:Ext (fun k=>k=w2.heap.size) w3 w7:=co.qj al
        have t7:=cq.cell (p:=⟨w2.heap.size+1,0,none⟩) (show ¬w2.heap.size+1=w2.heap.size by omega) b6
        have k0:=af _ _ 0 _ _ _ K7
        have k1:=af _ _ 1 _ _ _ K7
        have v0:=af _ _ 0 _ _ _ V7
        have hw:=fI K7
        have hx:=fI V7
        have hy:=fP t7
        have a6:TabAt C w2.heap.size Sl:=aa.out.fW (ci.block _ aa.out.lt (fun e=>by have:=dc.out;have:=Option.some.inj e;omega))
        have cr:TabAt w7 w2.heap.size Sl:=a6.fW (al.block _ a6.lt)
        obtain ⟨W8,hu,ej,bs,gn⟩:=cr.put (mt:=107) Tryz.underlying107 (S,U) vb
        have el:=hu 1
        have cs:∀ w:World,w.drewN 1=w.drew:=fun _=>rfl
        rw [cs,cs] at el
        simp only [kV,iX,kP] at el
        have em:Ext (fun k=>k=w2.heap.size) w3 W8:=cq.grow bs (.inl rfl)
        have bt:=cl.out.frame (al.block _ cl.out.lt.1) (al.block _ cl.out.lt.2)
        have ct:gm W8 x.r w3.heap.size L ((pl++[((S,U),vb)]).map zS):=bt.frame (bs.block _ bt.lt.1 (fun e=>f5.out (Option.some.inj e))) (bs.block _ bt.lt.2 (fun e=>by have:=dc.out;have:=Option.some.inj e;omega))
        have en:=ct.left
        have er:=gf.out.left
        simp only [aH,ar,au,aJ] at en er
        have e8:=ae (show (∃ (eC eD:List E),gm W8.drew x.r w3.heap.size L (eC.map zS)∧TabAt W8.drew w2.heap.size eD∧(∀ y,y∈eD↔y∈eC)∧Ext (fun k=>k=w2.heap.size) w3 W8.drew)∧W8.drew.rangeLeft x.r w3.heap.size<wr.rangeLeft x.r w3.heap.size from
         ⟨⟨_,_,ct,ej,FN dT.out gg.out,em.drew⟩,(show W8.rangeLeft x.r w3.heap.size<wr.rangeLeft x.r w3.heap.size by omega)⟩)
        clear hu cs ej bs gn em bt ct en er a6 cr cq K7 V7 al co ci
        go_region
        all_goals
         go_wp2
         exact e8.out
end Go.Proofs.YtkkfmkhbdoeglaaGreatDoor
namespace Go.Proofs.YtkkfmkhbdoeglaaGreatDoor
open Go.RowKit Go.Shelf
def Bu:(fJ×PAg)×Option Nat→fJ×PAg
 | (R,none)=>R
 | ((H,P),some k)=>(H,{P with a:=P.a.bad k})
def zd (H:fJ) (P:PAg) (k:UInt8) (body:List UInt8) (b:(fJ×PAg)×Option Nat):(fJ×PAg)×Option Nat :=
 if k=1 then nu H P body else if k=2 then ((H,if body=[] then {P with a:=P.a.jb} else P),if body=[] then none else some 2) else if k=3 then ((H,{P with a:=(P.a.gS body).1}),(P.a.gS body).2) else if k=4 then b else ((H,P),some 6)
def ue (H:fJ) (P:PAg) (frame:List UInt8) (b:(fJ×PAg)×Option Nat):fJ×PAg :=
 if P.a.deg.isSome then (H,{P with a:=P.a.gW 13}) else match gX frame with
 | .inr f=>Bu ((H,P),some f.1)
 | .inl (k,body)=>Bu (zd H P k body b)
theorem Hv (t:Value) (w:World):Calls Tryz.prog 86 #[.nilIface,t] w fun e w'=>e = .returned (.bool false)∧w'=w:=by
 go_enter Tryz.func86,Tryz.ntmps86
 go_wp2
 go_ret
 exact ⟨rfl,rfl⟩
theorem qC.out {w w':World} {F G O M:Nat→Prop} {a h:Nat} {H:fJ} {P b:PAg} {x:AV} {r:Option Nat} {e:Ending} (hm:gU w F G O a h H P x) (d:∀ k,F k∨G k∨O k→M k) (hs:qC w G O a h b r e w'):im w M a h ((H,b),r) e w' :=
 ⟨hs.1.Hm hm d,hs.2⟩
theorem im.gw {w w1 w':World} {M:Nat→Prop} {a h:Nat} {R:(fJ×PAg)×Option Nat} {e:Ending} (b:Below w.heap.size w w1) (hs:im w1 M a h R e w'):im w M a h R e w':=by
 obtain ⟨h1,h2⟩:=hs
 refine ⟨h1.gw b,?_⟩
 obtain ⟨R,r⟩:=R
 cases r with
 | none=>exact h2
 | some k =>
  obtain ⟨ev,p,d,g,i,j,l⟩:=h2
  exact ⟨ev,p,d,g,i,aI b.size j,l⟩
theorem Bc {l:List UInt8} {f:Nat×Nat} (h:gX l = .inr f):f.1<256:=by
 unfold gX at h
 split at h
 ·cases h;simp
 ·split at h
  ·split at h
   ·cases h
   ·cases h;simp
  ·cases h;simp
theorem ke.two {w w1 w':World} {G O b:Nat→Prop} {a h:Nat} {P:PAg} {x:AV} (h1:∀ k,b k→O k∨w.heap.size≤k) (h2:Ext (fun j=>j=x.c) w w1) (d:ke w1 G b a h P x w'):ke w G O a h P x w':=d.trans h1 h2
theorem wG {l:List UInt8} {k:UInt8} {p:List UInt8} (h:gX l = .inl (k,p)):p.length≤l.length:=by
 unfold gX at h
 split at h
 ·cases h
 ·split at h
  ·split at h
   ·cases h
    simp
    omega
   ·cases h
  ·cases h
theorem BD (H:fJ) (P:PAg) (body:List UInt8) (d:P.a.V<18446744073709551615) (k:Nat) (h:(nu H P body).2=some k):k<256∧(nu H P body).1.2.a.V<18446744073709551616:=by
 unfold nu at h⊢
 split at h
 ·rename_i f b
  cases h
  have:=CO (by rw [←oB];exact b)
  exact ⟨by omega,by show P.a.V<_;omega⟩
 ·cases h
theorem Dc (a:AgA) (k:Nat):(a.gW k).V=a.V:=(jD a 18 [UInt8.ofNat k]).2.1
theorem Dy (H:fJ) (P:PAg) (body:List UInt8) (d:P.a.V<18446744073709551615) (k:Nat) (h:(((H,if body=[] then {P with a:=P.a.jb} else P),if body=[] then none else some 2):(fJ×PAg)×Option Nat).2=some k):k<256∧(((H,if body=[] then {P with a:=P.a.jb} else P),if body=[] then none else some 2):(fJ×PAg)×Option Nat).1.2.a.V<18446744073709551616:=by
 by_cases b:body=[]
 ·rw [aF b,aF b] at h
  cases h
 ·rw [aw b,aw b] at h
  rw [aw b,aw b]
  cases h
  exact ⟨by omega,by show P.a.V<_;omega⟩
theorem Bv (H:fJ) (P:PAg) (body:List UInt8) (b:P.a.V<18446744073709551615) (k:Nat) (h:(((H,{P with a:=(P.a.gS body).1}),(P.a.gS body).2):(fJ×PAg)×Option Nat).2=some k):k<256∧(((H,{P with a:=(P.a.gS body).1}),(P.a.gS body).2):(fJ×PAg)×Option Nat).1.2.a.V<18446744073709551616:=by
 have key:∀ k,(P.a.gS body).2=some k→k<256∧(P.a.gS body).1.V<18446744073709551616:=by
  intro k h
  unfold AgA.gS at h⊢
  split at h
  ·rename_i c;rw [aF c];cases h;exact ⟨by omega,by show P.a.V<_;omega⟩
  ·rename_i c1;rw [aw c1]
   split at h
   ·rename_i c;rw [aF c];cases h;exact ⟨by omega,by show P.a.V<_;omega⟩
   ·rename_i c2;rw [aw c2]
    split at h
    ·rename_i c;rw [aF c];cases h;exact ⟨by omega,by show P.a.V<_;omega⟩
    ·rename_i c3;rw [aw c3]
     split at h
     ·rename_i c;rw [aF c];cases h;exact ⟨by omega,by show P.a.V<_;omega⟩
     ·split at h <;> cases h
 exact key k h
theorem im.ev {w w':World} {M:Nat→Prop} {a h:Nat} {R:(fJ×PAg)×Option Nat} {e:Ending} (hs:im w M a h R e w'):∃ ev,e = .returned ev:=by
 obtain ⟨-,h2⟩:=hs
 obtain ⟨R,r⟩:=R
 cases r with
 | none=>exact ⟨_,h2⟩
 | some k =>
  obtain ⟨ev,p,b,-⟩:=h2
  exact ⟨ev,b⟩
theorem Gb (H:fJ) (P:PAg) (k:UInt8) (body:List UInt8) (b:(fJ×PAg)×Option Nat) (d:P.a.V<18446744073709551615) (h4:∀ k,b.2=some k→k<256∧b.1.2.a.V<18446744073709551616) (j:Nat) (h:(zd H P k body b).2=some j):j<256∧(zd H P k body b).1.2.a.V<18446744073709551616:=by
 unfold zd at h⊢
 by_cases i:k=1
 ·rw [aF i] at h⊢;exact BD H P body d j h
 ·rw [aw i] at h⊢
  by_cases l:k=2
  ·rw [aF l] at h⊢;exact Dy H P body d j h
  ·rw [aw l] at h⊢
   by_cases m:k=3
   ·rw [aF m] at h⊢;exact Bv H P body d j h
   ·rw [aw m] at h⊢
    by_cases o:k=4
    ·rw [aF o] at h⊢;exact h4 j h
    ·rw [aw o] at h⊢
     cases h
     exact ⟨by omega,by show P.a.V<_;omega⟩
theorem wN (n B a h:Nat) (l:List Int) (F G O M:Nat→Prop) (H:fJ) (P:PAg) (x:AV) (bv:Value) (frame:List UInt8) (S4:(fJ×PAg)×Option Nat) (w:World) (hm:gU w F G O a h H P x) (hM:∀ k,F k∨G k∨O k→M k) (hu:P.a.deg=none→UpAg n l H P) (hn:32≤n∧n≤128) (cp:HostOk H B) (hB:B≤800000000) (dc:P.lg.stamp<8999999999999999999) (hL:H.dp.log.length≤7500000000000)
  (hb:BytesAt w bv frame) (dk:frame.length≤gx) (cq:ShapesVar w) (cr:ErrVar w) (hv:P.a.V<18446744073709551615) (cs:∀ k,M k→2≤k)
  (ct:∀ body W v',P.a.deg=none→gX frame = .inl (4,body)→Below w.heap.size w W→OwnS W w.heap.size 1 v' body.length (u8s body)→Calls Tryz.prog 84 #[.pointer (some ⟨a,0,none⟩),v'] W (im W M a h S4))
  (cu:∀ k,S4.2=some k→k<256∧S4.1.2.a.V<18446744073709551616) :
  Calls Tryz.prog 44 #[.pointer (some ⟨a,0,none⟩),bv] w fun e w'=>e = .returned (.tuple #[])∧kh w M a h (ue H P frame S4).1 (ue H P frame S4).2 w':=by
 obtain ⟨e3,e4,rfl,-,-⟩:=hb.opened
 have a2:=hm.ag.row
 unfold AV.cells rO at a2
 have c5:=af _ _ 5 _ _ _ a2
 have er:=fI a2
 have HM:=ae hm
 have a0:=ae hM
 have HU:=ae hu
 have dl:=ae cp
 have dn:=ae cq
 have cv:=ae cr
 have ds:=ae ct
 have dv:=ae cu
 have cB:=ae (rA (.slice e3 frame.length e4) frame w hb dk)
 obtain ⟨R,hR⟩:∃ R,R=ue H P frame S4:=⟨_,rfl⟩
 have HR:=ae hR
 rw [←hR]
 have I:=hm.ag.If
 clear hm hM hu cp cq cr ct cu hR a2 hb
 rcases I with ⟨J,I⟩ | ⟨f,fb,J,I⟩
 ·rw [I] at c5
  have bz:=ae J
  clear J I
  go_enter Tryz.func44,Tryz.ntmps44
  go_wp2_with fail
  refine cB.out.mono ?_
  rintro e w1 ⟨bM,bD⟩
  have q:=ae bM
  have N:=ae (HM.out.below bM)
  clear bM
  cases s:gX frame with
  | inr f =>
   obtain ⟨fk,fp⟩:=f
   rw [s] at bD
   obtain ⟨ev,rfl,dT⟩:=bD
   have HK:=ae (Bc s)
   have Q:Hid (R=Bu ((H,P),some fk)):=ae (by rw [HR.out];unfold ue;rw [bz.out,s];rfl)
   obtain ⟨g,rfl,d0,o⟩:=dT
   have a5:Hid (fk<256∧P.a.V<18446744073709551616):=ae ⟨HK.out,by omega⟩
   clear s
   have a6:kh w M a h H P w1:=⟨M,⟨F,G,O,x,N.out,a0.out⟩,fun k => .inl,Ext.fM q.out⟩
   obtain ⟨M2,a3,U,X⟩:=a6
   obtain ⟨F2,G2,O2,x2,i,Y⟩:=a3
   have e0:Below w1.heap.size w1 (w1.alloc (.cells #[.pointer none] 114)):=(Below.rf w1).alloc (ah _) _
   have t0:=fL w1 (.cells #[.pointer none] 114)
   have Z:ErrVar w1:=cv.out.ext X cs
   have aa:=Z.new e0
   have a7:=i.below e0
   have ab:=fK e0 (fI o) o
   have bP:=ae X
   have bS:=ae (show ∀ k,F2 k∨G2 k∨O2 k→M k∨w.heap.size≤k from fun k hk=>U k (Y k hk))
   have bX:=ae a7
   have a9:=ae ab
   have d1:=fI ab
   have ak:=ae (⟨i.host.lt,i.ag.glt,i.ag.olt⟩:(∀ k,F2 k→k<w1.heap.size)∧(∀ k,G2 k→k<w1.heap.size)∧∀ k,O2 k→k<w1.heap.size)
   clear i X U Y o Z a7 ab
   go_wp2_with fail
   generalize w1.alloc (.cells #[.pointer none] 114)=wA at *
   refine (uD ⟨g,0,none⟩ ⟨w1.heap.size,0,none⟩ (.pointer none) wA aa.2 (af _ _ 0 _ _ _ t0) (by rw [ao _ _ 0 _ _ t0])).mono ?_
   rintro e w3 ⟨rfl,ba⟩
   have x1:=si ⟨g,0,none⟩ ⟨w1.heap.size,0,none⟩ wA
   have t1:=uH ⟨g,0,none⟩ w1.heap.size wA t0
   rw [←ba] at x1 t1
   have am:g≠w1.heap.size:=iM a9.out t0 (by decide)
   have bb:Below w1.heap.size w1 w3:=e0.trans (x1.below (by have:=e0.size;omega) (fun k hk e=>by have e':k=w1.heap.size:=e;omega))
   have ap:=x1.at (fun e=>am e) a9.out
   have c0:=af _ _ 0 _ _ _ t1
   have g0:=af _ _ 0 _ _ _ ap
   have b0:=fI t1
   have b1:=fI ap
   have bc:=bX.out.frame x1 (fun k hk e=>by
    have e':k=w1.heap.size:=e
    rcases hk with hk | hk | hk
    ·exact absurd (ak.out.1 k hk) (by omega)
    ·exact absurd (ak.out.2.1 k hk) (by omega)
    ·exact absurd (ak.out.2.2 k hk) (by omega))
   have bi:=ae bc
   have b2:=ae bb
   clear ba x1 t1 am bb ap bc t0 e0 aa
   go_wp2_with fail
   refine (mw a h fk P x2 G2 O2 w3 bi.out.ag a5.out.1).mono ?_
   rintro e w4 ⟨rfl,E⟩
   obtain ⟨O4,bk,bl,bn⟩:=E
   have b3:=ae bk
   have b4:=ae bl
   have b5:=ae bn
   clear bk bl bn c0 g0 b0 b1
   go_wp2_with fail
   refine (kI a h _ x2 G2 O4 w4 b3.out (by show (AgA.gW _ _).V<_;rw [Dc];exact a5.out.2)).mono ?_
   rintro e w5 ⟨rfl,E⟩
   have bo:=ke.trans b4.out b5.out E
   have HG:=ae (gU.pH (M:=M) (w:=w) bi.out bS.out (bP.out.trans (Ext.fM b2.out)) bo)
   clear E bo
   go_wp2
   go_end0
   refine ⟨rfl,?_⟩
   rw [Q.out]
   exact HG.out
  | inl y =>
   obtain ⟨u,body⟩:=y
   rw [s] at bD
   obtain ⟨bH,rfl,j⟩:=bD
   have br:=ae j
   have b6:=ae (wG s)
   have d2:=ae s
   have c1:=ae (Gb H P u body S4 hv dv.out)
   have Q:Hid (R=Bu (zd H P u body S4)):=ae (by rw [HR.out];unfold ue;rw [bz.out,s];rfl)
   obtain ⟨S,hS⟩:∃ S,S=zd H P u body S4:=⟨_,rfl⟩
   rw [←hS] at c1 Q
   have HS:=ae hS
   clear s hS j
   go_upto_if 22 with fail
   go_cut [6] (fun ev wx=>im w M a h S (.returned ev) wx)
   case first =>
    have kf:∀ m:Nat,u≠UInt8.ofNat m→m<256→¬((u.toNat:Int)=(m:Int)):=fun m am hm e=>by
     have h2:(UInt8.ofNat m).toNat=m:=by rw [dz];omega
     exact am (by rw [←eu,h2];omega)
    by_cases k1:u=1
    ·subst k1
     have C:Hid (S=nu H P body):=ae (by rw [HS.out];unfold zd;rw [aF rfl])
     have j:=br.out
     have hD:=zB n B a h l F G O M H P x bH body w1 N.out a0.out (HU.out bz.out) hn dl.out hB dc hL j.bytes (fun k e=>⟨fun e'=>by have:=j.fU k e;have:=HM.out.host.lt k e';omega,fun e'=>by have:=j.fU k e;have:=HM.out.ag.glt x.lg HM.out.ag.gin.2.2.1;omega,j.gZ k e⟩) (by have:=b6.out;omega) (dn.out.new q.out)
     clear j
     go_wp2_with fail
     refine hD.mono ?_
     rintro e w2 d
     have b:=im.gw q.out d
     rw [←C.out] at b
     obtain ⟨ev,rfl⟩:=b.ev
     have D:=ae b
     clear d b hD
     go_wp2
     go_meet
     case rel=>exact D.out
    ·by_cases k2:u=2
     ·subst k2
      have C:Hid (S=((H,if body=[] then {P with a:=P.a.jb} else P),if body=[] then none else some 2)):=ae (by rw [HS.out];rfl)
      have hD:=zA a h P x G O bH body w1 N.out.ag (by omega) br.out.bytes (by have:=b6.out;omega)
      go_wp2_with fail
      refine hD.mono ?_
      rintro e w2 d
      have b:=im.gw q.out (qC.out N.out a0.out d)
      rw [←C.out] at b
      obtain ⟨ev,rfl⟩:=b.ev
      have D:=ae b
      clear d b hD
      go_wp2
      go_meet
      case rel=>exact D.out
     ·by_cases k3:u=3
      ·subst k3
       have C:Hid (S=((H,{P with a:=(P.a.gS body).1}),(P.a.gS body).2)):=ae (by rw [HS.out];rfl)
       have hD:=yn a h P x G O bH body w1 N.out.ag (by omega) br.out.bytes br.out.gZ (by have:=b6.out;omega)
       go_wp2_with fail
       refine hD.mono ?_
       rintro e w2 d
       have b:=im.gw q.out (qC.out N.out a0.out d)
       rw [←C.out] at b
       obtain ⟨ev,rfl⟩:=b.ev
       have D:=ae b
       clear d b hD
       go_wp2
       go_meet
       case rel=>exact D.out
      ·by_cases k4:u=4
       ·subst k4
        have C:Hid (S=S4):=ae (by rw [HS.out];rfl)
        have hD:=ds.out body w1 bH bz.out d2.out q.out br.out
        go_wp2_with fail
        refine hD.mono ?_
        rintro e w2 d
        have b:=im.gw q.out d
        rw [←C.out] at b
        obtain ⟨ev,rfl⟩:=b.ev
        have D:=ae b
        clear d b hD
        go_wp2
        go_meet
        case rel=>exact D.out
       ·have C:Hid (S=((H,P),some 6)):=ae (by rw [HS.out];unfold zd;rw [aw k1,aw k2,aw k3,aw k4])
        have n1:=kf 1 k1 (by omega)
        have n2:=kf 2 k2 (by omega)
        have n3:=kf 3 k3 (by omega)
        have n4:=kf 4 k4 (by omega)
        have q1:(((u.toNat:Int))==1)=false:=aD.2 n1
        have q2:(((u.toNat:Int))==2)=false:=aD.2 n2
        have q3:(((u.toNat:Int))==3)=false:=aD.2 n3
        have q4:(((u.toNat:Int))==4)=false:=aD.2 n4
        clear k1 k2 k3 k4 kf
        generalize u.toNat=eC at *
        go_wp2_with fail
        refine (gE 6 0 w1).mono ?_
        rintro e w2 ⟨rfl,ca⟩
        have cb:Below w1.heap.size w1 w2:=by rw [ca];exact (Below.rf w1).alloc (ah _) _
        have o:w2.heap[w1.heap.size]?=some (.cells #[.int .i64 ((6:Nat):Int),.int .i64 0,.nilIface] 166 (0,0)):=by rw [ca];exact fL w1 _
        have D:Hid (im w M a h S (.returned (.iface 114 (.pointer (some ⟨w1.heap.size,0,none⟩)))) w2):=ae (by
         rw [C.out]
         exact ⟨⟨M,⟨F,G,O,x,N.out.below cb,a0.out⟩,fun k => .inl,(Ext.fM q.out).trans (Ext.fM cb)⟩,_,0,rfl,_,rfl,q.out.size,o⟩)
        clear ca cb o
        go_wp2
        go_meet
        case rel=>exact D.out
   case rest =>
    have d:=hcut
    clear hcut
    obtain ⟨⟨H2,P2⟩,r⟩:=S
    obtain ⟨a6,bx⟩:=d
    cases r with
    | none =>
     have a1:Ending.returned u6 = .returned .nilIface:=bx
     obtain rfl:=Ending.returned.inj a1
     have HG:=ae a6
     clear a6 bx a1
     go_wp2_with fail
     refine (Hv _ _).mono ?_
     rintro e w3 ⟨rfl,rfl⟩
     go_wp2
     go_end0
     refine ⟨rfl,?_⟩
     rw [Q.out]
     exact HG.out.below ((Below.rf wc).alloc (ah _) _)
    | some k =>
     obtain ⟨eD,p,a1,g,ce,d0,o⟩:=bx
     rw [ce] at a1
     obtain rfl:=Ending.returned.inj a1
     have a5:Hid (k<256∧P2.a.V<18446744073709551616):=ae (c1.out k rfl)
     clear a1 ce
     obtain ⟨M2,a3,U,X⟩:=a6
     obtain ⟨F2,G2,O2,x2,i,Y⟩:=a3
     have e0:Below wc.heap.size wc (wc.alloc (.cells #[.pointer none] 114)):=(Below.rf wc).alloc (ah _) _
     have t0:=fL wc (.cells #[.pointer none] 114)
     have Z:ErrVar wc:=cv.out.ext X cs
     have aa:=Z.new e0
     have a7:=i.below e0
     have ab:=fK e0 (fI o) o
     have bP:=ae X
     have bS:=ae (show ∀ k,F2 k∨G2 k∨O2 k→M k∨w.heap.size≤k from fun k hk=>U k (Y k hk))
     have bX:=ae a7
     have a9:=ae ab
     have d1:=fI ab
     have ak:=ae (⟨i.host.lt,i.ag.glt,i.ag.olt⟩:(∀ k,F2 k→k<wc.heap.size)∧(∀ k,G2 k→k<wc.heap.size)∧∀ k,O2 k→k<wc.heap.size)
     clear i X U Y o Z a7 ab
     go_wp2_with fail
     generalize wc.alloc (.cells #[.pointer none] 114)=wA at *
     refine (uD ⟨g,0,none⟩ ⟨wc.heap.size,0,none⟩ (.pointer none) wA aa.2 (af _ _ 0 _ _ _ t0) (by rw [ao _ _ 0 _ _ t0])).mono ?_
     rintro e w3 ⟨rfl,ba⟩
     have x1:=si ⟨g,0,none⟩ ⟨wc.heap.size,0,none⟩ wA
     have t1:=uH ⟨g,0,none⟩ wc.heap.size wA t0
     rw [←ba] at x1 t1
     have am:g≠wc.heap.size:=iM a9.out t0 (by decide)
     have bb:Below wc.heap.size wc w3:=e0.trans (x1.below (by have:=e0.size;omega) (fun k hk e=>by have e':k=wc.heap.size:=e;omega))
     have ap:=x1.at (fun e=>am e) a9.out
     have c0:=af _ _ 0 _ _ _ t1
     have g0:=af _ _ 0 _ _ _ ap
     have b0:=fI t1
     have b1:=fI ap
     have bc:=bX.out.frame x1 (fun k hk e=>by
      have e':k=wc.heap.size:=e
      rcases hk with hk | hk | hk
      ·exact absurd (ak.out.1 k hk) (by omega)
      ·exact absurd (ak.out.2.1 k hk) (by omega)
      ·exact absurd (ak.out.2.2 k hk) (by omega))
     have bi:=ae bc
     have b2:=ae bb
     clear ba x1 t1 am bb ap bc t0 e0 aa
     go_wp2_with fail
     refine (mw a h k P2 x2 G2 O2 w3 bi.out.ag a5.out.1).mono ?_
     rintro e w4 ⟨rfl,E⟩
     obtain ⟨O4,bk,bl,bn⟩:=E
     have b3:=ae bk
     have b4:=ae bl
     have b5:=ae bn
     clear bk bl bn c0 g0 b0 b1
     go_wp2_with fail
     refine (kI a h _ x2 G2 O4 w4 b3.out (by show (AgA.gW _ _).V<_;rw [Dc];exact a5.out.2)).mono ?_
     rintro e w5 ⟨rfl,E⟩
     have bo:=ke.trans b4.out b5.out E
     have HG:=ae (gU.pH (M:=M) (w:=w) bi.out bS.out (bP.out.trans (Ext.fM b2.out)) bo)
     clear E bo
     go_wp2
     go_end0
     refine ⟨rfl,?_⟩
     rw [Q.out]
     exact HG.out
 ·rw [I] at c5
  have Q:Hid (R=(H,{P with a:=P.a.gW 13})):=ae (by rw [HR.out];unfold ue;rw [J];rfl)
  clear J I cB
  go_enter Tryz.func44,Tryz.ntmps44
  go_wp2_with fail
  refine (mw a h 13 P x G O w HM.out.ag (by omega)).mono ?_
  rintro e w1 ⟨rfl,E⟩
  have HG:=ae (gU.pH (M:=M) HM.out (fun k hk => .inl (a0.out k hk)) (Ext.refl M w) E)
  clear E
  go_wp2
  refine aK (eh rfl _ _ _) rfl ?_
  refine ⟨rfl,?_⟩
  rw [Q.out]
  exact HG.out
end Go.Proofs.YtkkfmkhbdoeglaaGreatDoor
