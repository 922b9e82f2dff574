/- A part of what is proved here: lemmas and contracts of single functions. No condition but those that each names. -/
import Derived.Test.YtkkfmkhbdoeglabGreatDoorG00
import Derived.Test.YtkkfmkhbdoeglabGreatDoorG02
import Derived.Test.YtkkfmkhbdoeglabGreatDoorG03
import Derived.Test.YtkkfmkhbdoeglabGreatDoorG06
import Derived.Test.YtkkfmkhbdoeglabGreatDoorG07
namespace Go.Proofs.YtkkfmkhbdoeglabGreatDoor
open Go.RowKit
theorem vd (a c:Int) (b d:List UInt8) (w:World):(binOp .eql 103 (.agg #[.int .i64 a,.string ⟨b.toArray⟩]) (.agg #[.int .i64 c,.string ⟨d.toArray⟩])).run Tryz.prog w = .ok (.bool ((a,b)==(c,d))) w:=by
 have h:=tA (a,b) (c,d) w
 unfold kV jh at h
 simp only [binOp]
 simp [h]
end Go.Proofs.YtkkfmkhbdoeglabGreatDoor
namespace Go.Proofs.YtkkfmkhbdoeglabGreatDoor
open Go.RowKit
theorem Ge (a b:Int) (c d:List UInt8) (w:World):(binOp .neq 105 (.agg #[.int .i64 a,.int .i64 b,.string ⟨c.toArray⟩,.string ⟨d.toArray⟩]) (.agg #[.int .i64 a,.int .i64 b,.string ⟨c.toArray⟩,.string ⟨d.toArray⟩])).run Tryz.prog w = .ok (.bool false) w:=by
 have h1:(part 3 #[Value.int .i64 a,.int .i64 b,.string ⟨c.toArray⟩,.string ⟨d.toArray⟩] 0).run Tryz.prog w = .ok (.int .i64 a) w:=cO w (by kernel_rfl) rfl
 have h2:(part 103 #[Value.int .i64 a,.int .i64 b,.string ⟨c.toArray⟩,.string ⟨d.toArray⟩] 1).run Tryz.prog w = .ok (jh b c) w:=by kernel_rfl
 have h3:(part 9 #[Value.int .i64 a,.int .i64 b,.string ⟨c.toArray⟩,.string ⟨d.toArray⟩] 3).run Tryz.prog w = .ok (.string ⟨d.toArray⟩) w:=cO w (by kernel_rfl) rfl
 have i:Tryz.prog.underlying 105=some (.struct (Tryz.prog.fieldsOf 105)):=by kernel_rfl
 have j:Tryz.prog.stoodInHeld 105=false:=by kernel_rfl
 have l:=TypeDesc.struct.inj (Option.some.inj (i.symm.trans Tryz.underlying105))
 have q:∀ m (x y:Int),(Op.equalIn (m+1) 3 (.int .i64 x) (.int .i64 y)).run Tryz.prog w = .ok (x==y) w:=fun m x y=>by simp [Op.equalIn,aL Tryz.underlying3]
 have r:∀ m (x y:ByteArray),(Op.equalIn (m+1) 9 (.string x) (.string y)).run Tryz.prog w = .ok (x==y) w:=fun m x y=>by simp [Op.equalIn,aL Tryz.underlying9]
 have s:∀ n,(Op.equalIn (n+2) 103 (jh b c) (jh b c)).run Tryz.prog w = .ok true w:=by
  intro n
  have g1:(part 3 #[Value.int .i64 b,.string ⟨c.toArray⟩] 0).run Tryz.prog w = .ok (.int .i64 b) w:=cO w (by kernel_rfl) rfl
  have g2:(part 9 #[Value.int .i64 b,.string ⟨c.toArray⟩] 1).run Tryz.prog w = .ok (.string ⟨c.toArray⟩) w:=cO w (by kernel_rfl) rfl
  have i:Tryz.prog.underlying 103=some (.struct (Tryz.prog.fieldsOf 103)):=by kernel_rfl
  have j:Tryz.prog.stoodInHeld 103=false:=by kernel_rfl
  have l:=TypeDesc.struct.inj (Option.some.inj (i.symm.trans Tryz.underlying103))
  unfold jh
  rw [fA w (n+1) 103 _ _ i j,l]
  simp only [Op.eqFields]
  rw [aD (by decide),aD (by decide)]
  have o:((⟨c.toArray⟩:ByteArray)==⟨c.toArray⟩)=true:=(cQ _ _).2 rfl
  simp [cn,g1,g2,q,r,cg,o]
 have hd:∀ n,(Op.equalIn (n+3) 105 (.agg #[.int .i64 a,.int .i64 b,.string ⟨c.toArray⟩,.string ⟨d.toArray⟩]) (.agg #[.int .i64 a,.int .i64 b,.string ⟨c.toArray⟩,.string ⟨d.toArray⟩])).run Tryz.prog w = .ok true w:=by
  intro n
  rw [fA w (n+2) 105 _ _ i j,l]
  simp only [Op.eqFields]
  rw [aD (by decide),aD (by decide),aD (by decide)]
  have o:((⟨d.toArray⟩:ByteArray)==⟨d.toArray⟩)=true:=(cQ _ _).2 rfl
  simp [cn,h1,h2,h3,q,r,s,cg,o]
 have u:=hd 9997
 simp only [binOp]
 simp [Op.equal,Op.maxDepth,u]
end Go.Proofs.YtkkfmkhbdoeglabGreatDoor
namespace Go.Proofs.YtkkfmkhbdoeglabGreatDoor
open Go.RowKit
def entCells (l:List E):List Value:=l.flatMap fun x=>[.int .i64 x.1.1,.string ⟨x.1.2.toArray⟩,.string ⟨x.2.toArray⟩]
theorem xA (l:List E) (x:E):entCells (l++[x])=entCells l++[.int .i64 x.1.1,.string ⟨x.1.2.toArray⟩,.string ⟨x.2.toArray⟩]:=by simp [entCells]
theorem kc (l:List E):(entCells l).length=l.length*3:=by
 induction l with
 | nil=>rfl
 | cons k l ih=>simp [entCells] at ih⊢;omega
theorem uh:∀ (l:List E) (i:Nat) (h:i<l.length),(entCells l)[i*3]?=some (.int .i64 l[i].1.1)∧(entCells l)[i*3+1]?=some (.string ⟨l[i].1.2.toArray⟩)∧(entCells l)[i*3+2]?=some (.string ⟨l[i].2.toArray⟩)
 | k::l,0,_=>⟨rfl,rfl,rfl⟩
 | k::l,i+1,h=>by
  have ih:=uh l i (by simpa using h)
  have e:entCells (k::l) = .int .i64 k.1.1 :: .string ⟨k.1.2.toArray⟩ :: .string ⟨k.2.toArray⟩::entCells l:=rfl
  rw [e,show (i+1)*3=i*3+1+1+1 by omega,show i*3+1+1+1+1=(i*3+1)+1+1+1 by omega,show i*3+1+1+1+2=(i*3+2)+1+1+1 by omega]
  simpa using ih
def iJ (w:World) (v:Value) (l:List E):Prop:=fW w v 3 l.length (entCells l)
theorem iJ.opened {w:World} {v:Value} {l:List E} (h:iJ w v l) :
  ∃ a cap,v = .slice a l.length cap∧l.length≤cap∧∀ i (h:i<l.length),∃ b off,a=some ⟨b,off,none⟩∧w.cell? ⟨b,off+i*3,none⟩=some (.int .i64 l[i].1.1)∧w.cell? ⟨b,off+i*3+1,none⟩=some (.string ⟨l[i].1.2.toArray⟩)∧w.cell? ⟨b,off+i*3+2,none⟩=some (.string ⟨l[i].2.toArray⟩):=by
 obtain ⟨_,a,cap,rfl,hc,d⟩:=h
 refine ⟨a,cap,rfl,hc,fun i m => ?_⟩
 have hl:=kc l
 obtain ⟨j,h1,h2⟩:=uh l i m
 obtain ⟨b,off,rfl,c0⟩:=d (i*3) (by omega)
 obtain ⟨r,s,o,c1⟩:=d (i*3+1) (by omega)
 cases o
 obtain ⟨u,x,q,c2⟩:=d (i*3+2) (by omega)
 cases q
 rw [ay (by omega)] at j h1 h2
 exact ⟨b,off,rfl,c0.trans j,(by rw [aW];exact c1.trans h1),(by rw [aW];exact c2.trans h2)⟩
theorem EL (a:Int) (c d:List UInt8) (w:World):(binOp .neq 101 (.agg #[.int .i64 a,.string ⟨c.toArray⟩,.string ⟨d.toArray⟩]) (.agg #[.int .i64 a,.string ⟨c.toArray⟩,.string ⟨d.toArray⟩])).run Tryz.prog w = .ok (.bool false) w:=by
 have h1:(part 3 #[Value.int .i64 a,.string ⟨c.toArray⟩,.string ⟨d.toArray⟩] 0).run Tryz.prog w = .ok (.int .i64 a) w:=cO w (by kernel_rfl) rfl
 have h2:(part 9 #[Value.int .i64 a,.string ⟨c.toArray⟩,.string ⟨d.toArray⟩] 1).run Tryz.prog w = .ok (.string ⟨c.toArray⟩) w:=cO w (by kernel_rfl) rfl
 have h3:(part 9 #[Value.int .i64 a,.string ⟨c.toArray⟩,.string ⟨d.toArray⟩] 2).run Tryz.prog w = .ok (.string ⟨d.toArray⟩) w:=cO w (by kernel_rfl) rfl
 have b:Tryz.prog.underlying 101=some (.struct (Tryz.prog.fieldsOf 101)):=by kernel_rfl
 have j:Tryz.prog.stoodInHeld 101=false:=by kernel_rfl
 have l:=TypeDesc.struct.inj (Option.some.inj (b.symm.trans Tryz.underlying101))
 have o:∀ m (x y:Int),(Op.equalIn (m+1) 3 (.int .i64 x) (.int .i64 y)).run Tryz.prog w = .ok (x==y) w:=fun m x y=>by simp [Op.equalIn,aL Tryz.underlying3]
 have q:∀ m (x y:ByteArray),(Op.equalIn (m+1) 9 (.string x) (.string y)).run Tryz.prog w = .ok (x==y) w:=fun m x y=>by simp [Op.equalIn,aL Tryz.underlying9]
 have hd:∀ n,(Op.equalIn (n+2) 101 (.agg #[.int .i64 a,.string ⟨c.toArray⟩,.string ⟨d.toArray⟩]) (.agg #[.int .i64 a,.string ⟨c.toArray⟩,.string ⟨d.toArray⟩])).run Tryz.prog w = .ok true w:=by
  intro n
  rw [fA w (n+1) 101 _ _ b j,l]
  simp only [Op.eqFields]
  rw [aD (by decide),aD (by decide),aD (by decide)]
  have r:((⟨c.toArray⟩:ByteArray)==⟨c.toArray⟩)=true:=(cQ _ _).2 rfl
  have i:((⟨d.toArray⟩:ByteArray)==⟨d.toArray⟩)=true:=(cQ _ _).2 rfl
  simp [cn,h1,h2,h3,o,q,cg,r,i]
 have s:=hd 9998
 simp only [binOp]
 simp [Op.equal,Op.maxDepth,s]
theorem my (j tv:Value) (l:List E) (w:World) (h1:iJ w j l) (h2:iJ w tv l) (hl:l.length≤1000000000) :
  Calls Tryz.prog 51 #[j,tv] w fun e w'=>e = .returned (.bool true)∧Below w.heap.size w w':=by
 obtain ⟨a,cap,rfl,-,m⟩:=h1.opened
 obtain ⟨b,s,rfl,-,r⟩:=h2.opened
 have u:=ab m
 have x:=ab r
 clear m r h1 h2
 go_enter Tryz.func51,Tryz.ntmps51
 go_wp2
 go_loopw [5] (fun i wr=>∃ k:Nat,k≤l.length∧i = .int .i64 k∧∃ q,wr=w.drewN q) (fun i _=>l.length-(intOf i).toNat)
 case atStart=>exact ⟨0,aM _,rfl,0,rfl⟩
 case round =>
  obtain ⟨k,hk,rfl,q,rfl⟩:=hrel
  by_cases d:k<l.length
  ·have y:(k:Int)<l.length:=by omega
   obtain ⟨G,I,rfl,c0,c1,c2⟩:=u.out k d
   obtain ⟨J,M,rfl,d0,d1,d2⟩:=x.out k d
   generalize l[k]=o at *
   obtain ⟨⟨T,B⟩,C⟩:=o
   have D:=fun w=>EL T B C w
   go_wp2
   go_quiet (fail)
   go_wp2
   exact ⟨⟨k+1,by omega,by go_num,_,rfl⟩,by simp [intOf];omega⟩
  ·obtain rfl:k=l.length:=by omega
   have F:¬(l.length:Int)<l.length:=by omega
   go_wp2
   go_ret
   exact ⟨rfl,(Below.refl _ w).drewN q⟩
end Go.Proofs.YtkkfmkhbdoeglabGreatDoor
namespace Go.Proofs.YtkkfmkhbdoeglabGreatDoor
open Go.RowKit
theorem pS (l m:List E):entCells (l++m)=entCells l++entCells m:=by simp [entCells]
theorem ze (l:List E):∀ u∈entCells l,u.oneCell'=true:=by
 intro u hu
 obtain ⟨x,-,b⟩:=List.mem_flatMap.1 hu
 simp at b
 rcases b with rfl | rfl | rfl <;> rfl
theorem iJ.below {w w':World} {v:Value} {l:List E} (h:iJ w v l) (b:Below w.heap.size w w'):iJ w' v l:=fW.below h b
theorem OwnS.Jd {w:World} {base:Nat} {v:Value} {l:List E} (h:OwnS w base 3 v l.length (entCells l)):iJ w v l:=h.sliceAt
end Go.Proofs.YtkkfmkhbdoeglabGreatDoor
