/- A part of what is proved here: lemmas and contracts of single functions. No condition but those that each names. -/
import Derived.Test.YtkkfmkhbdoeglaaGreatDoorG00
import Derived.Test.YtkkfmkhbdoeglaaGreatDoorG02
import Derived.Test.YtkkfmkhbdoeglaaGreatDoorG04
import Derived.Test.YtkkfmkhbdoeglaaGreatDoorG09
namespace Go.Proofs.YtkkfmkhbdoeglaaGreatDoor
open Go.RowKit
theorem sU (a c:Int) (b d:List UInt8) (w:World):(binOp .eql 94 (.agg #[.int .i64 a,.string ⟨b.toArray⟩]) (.agg #[.int .i64 c,.string ⟨d.toArray⟩])).run Tryz.prog w = .ok (.bool ((a,b)==(c,d))) w:=by
 have h:=rJ (a,b) (c,d) w
 unfold kV iD at h
 simp only [binOp]
 simp [h]
end Go.Proofs.YtkkfmkhbdoeglaaGreatDoor
namespace Go.Proofs.YtkkfmkhbdoeglaaGreatDoor
open Go.RowKit
theorem DP (a b:Int) (c d:List UInt8) (w:World):(binOp .neq 96 (.agg #[.int .i64 a,.int .i64 b,.string ⟨c.toArray⟩,.string ⟨d.toArray⟩]) (.agg #[.int .i64 a,.int .i64 b,.string ⟨c.toArray⟩,.string ⟨d.toArray⟩])).run Tryz.prog w = .ok (.bool false) w:=by
 have h1:(part 3 #[Value.int .i64 a,.int .i64 b,.string ⟨c.toArray⟩,.string ⟨d.toArray⟩] 0).run Tryz.prog w = .ok (.int .i64 a) w:=cJ w (by kernel_rfl) rfl
 have h2:(part 94 #[Value.int .i64 a,.int .i64 b,.string ⟨c.toArray⟩,.string ⟨d.toArray⟩] 1).run Tryz.prog w = .ok (iD b c) w:=by kernel_rfl
 have h3:(part 9 #[Value.int .i64 a,.int .i64 b,.string ⟨c.toArray⟩,.string ⟨d.toArray⟩] 3).run Tryz.prog w = .ok (.string ⟨d.toArray⟩) w:=cJ w (by kernel_rfl) rfl
 have i:Tryz.prog.underlying 96=some (.struct (Tryz.prog.fieldsOf 96)):=by kernel_rfl
 have j:Tryz.prog.stoodInHeld 96=false:=by kernel_rfl
 have l:=TypeDesc.struct.inj (Option.some.inj (i.symm.trans Tryz.underlying96))
 have q:∀ m (x y:Int),(Op.equalIn (m+1) 3 (.int .i64 x) (.int .i64 y)).run Tryz.prog w = .ok (x==y) w:=fun m x y=>by simp [Op.equalIn,aL Tryz.underlying3]
 have r:∀ m (x y:ByteArray),(Op.equalIn (m+1) 9 (.string x) (.string y)).run Tryz.prog w = .ok (x==y) w:=fun m x y=>by simp [Op.equalIn,aL Tryz.underlying9]
 have s:∀ n,(Op.equalIn (n+2) 94 (iD b c) (iD b c)).run Tryz.prog w = .ok true w:=by
  intro n
  have g1:(part 3 #[Value.int .i64 b,.string ⟨c.toArray⟩] 0).run Tryz.prog w = .ok (.int .i64 b) w:=cJ w (by kernel_rfl) rfl
  have g2:(part 9 #[Value.int .i64 b,.string ⟨c.toArray⟩] 1).run Tryz.prog w = .ok (.string ⟨c.toArray⟩) w:=cJ w (by kernel_rfl) rfl
  have i:Tryz.prog.underlying 94=some (.struct (Tryz.prog.fieldsOf 94)):=by kernel_rfl
  have j:Tryz.prog.stoodInHeld 94=false:=by kernel_rfl
  have l:=TypeDesc.struct.inj (Option.some.inj (i.symm.trans Tryz.underlying94))
  unfold iD
  rw [eQ w (n+1) 94 _ _ i j,l]
  simp only [Op.eqFields]
  rw [aB (by decide),aB (by decide)]
  have o:((⟨c.toArray⟩:ByteArray)==⟨c.toArray⟩)=true:=(cM _ _).2 rfl
  simp [ck,g1,g2,q,r,bZ,o]
 have hd:∀ n,(Op.equalIn (n+3) 96 (.agg #[.int .i64 a,.int .i64 b,.string ⟨c.toArray⟩,.string ⟨d.toArray⟩]) (.agg #[.int .i64 a,.int .i64 b,.string ⟨c.toArray⟩,.string ⟨d.toArray⟩])).run Tryz.prog w = .ok true w:=by
  intro n
  rw [eQ w (n+2) 96 _ _ i j,l]
  simp only [Op.eqFields]
  rw [aB (by decide),aB (by decide),aB (by decide)]
  have o:((⟨d.toArray⟩:ByteArray)==⟨d.toArray⟩)=true:=(cM _ _).2 rfl
  simp [ck,h1,h2,h3,q,r,s,bZ,o]
 have u:=hd 9997
 simp only [binOp]
 simp [Op.equal,Op.maxDepth,u]
end Go.Proofs.YtkkfmkhbdoeglaaGreatDoor
