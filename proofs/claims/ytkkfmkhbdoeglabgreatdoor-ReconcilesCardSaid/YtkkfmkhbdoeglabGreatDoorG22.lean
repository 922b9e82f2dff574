/- A part of what is proved here: lemmas and contracts of single functions. No condition but those that each names. -/
import Derived.Deep.DeepCutAuto
import Derived.Test.YtkkfmkhbdoeglabGreatDoorG13
import Derived.Test.YtkkfmkhbdoeglabGreatDoorG21
namespace Go.Proofs.YtkkfmkhbdoeglabGreatDoor
open Go.RowKit Go.Shelf
attribute [local go_sem] Oper.semAt_some
/-- an entry as bytes; a state as bytes -/
def entBytes (x : E) : List UInt8 := UInt8.ofNat x.1.1.toNat :: (x.1.2 ++ x.2)
def entsB (l : List E) : List UInt8 := l.flatMap entBytes
def allB (v : Nat) (S : List E) : List UInt8 := be8 v ++ [UInt8.ofNat (S.length / 256), UInt8.ofNat S.length] ++ entsB S
theorem TabAt.len {w : World} {r : Nat} {S : List E} (h : TabAt w r S) (ty : TypeId) : (Builtin.len_ #[162] ty #[.map (some r)]).run Tryz.prog w = .ok (.int .i64 (S.length : Int)) w := by
  obtain ⟨-, L, ⟨es, clock, hb, he, -⟩, hp⟩ := h
  have e1 : es.size = S.length := by
    have h1 := congrArg List.length he
    have h2 := hp.length_eq
    simp at h1 h2
    omega
  rw [← e1]
  simp [Builtin.len_, run_underlying Tryz.underlying162, MapKept.run_getObj_map hb, goInt, Result.andThen]
section
variable {w2 w3 : World} {base n : Nat} {bv : Value} {l : List UInt8} {u : Value} {t : TypeId}
end
end Go.Proofs.YtkkfmkhbdoeglabGreatDoor
