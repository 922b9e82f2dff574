/- A part of what is proved here: lemmas and contracts of single functions. No condition but those that each names. -/
import Derived.Test.YtkkfmkhbdoeglabGreatDoorG05
import Derived.Test.YtkkfmkhbdoeglabGreatDoorG06
namespace Go.Proofs.YtkkfmkhbdoeglabGreatDoor
open Go.RowKit
/-- a change, in plain data -/
structure OpB where
  kind : Int
  table : Int
  key : List UInt8
  val : List UInt8
deriving DecidableEq
def opV (o : OpB) : Value := .agg #[.int .i64 o.kind, .int .i64 o.table, .string ⟨o.key.toArray⟩, .string ⟨o.val.toArray⟩]
/-- a map tells which keys were seen, each once -/
def SeenAt (w : World) (r : Nat) (ks : List K) : Prop := MapAt w r (ks.map fun k => (k, .int .i64 1))
theorem CurAt.noFault {w : World} {base c : Nat} {cu : Cu} (h : CurAt w base c cu) (hf : cu.f = none) : w.cell? ⟨c, 3, none⟩ = some (.pointer none) := by
  obtain ⟨h1, h2, h3, h4, v, fp, h5, h6, h7, h8⟩ := h
  rw [hf] at h8
  obtain rfl : fp = none := h8
  exact cell_of_row w c 3 _ _ _ h5
end Go.Proofs.YtkkfmkhbdoeglabGreatDoor
