/- The walk of package overlaykeep's Longest. No condition. -/
import Derived.Test.YtkkfmkhbdoeglaaDoorTabApply
import Derived.Test.YtkkfmkhbdoeglaaDoorRoute
import Derived.Test.YtkkfmkhbdoeglaaDoorLongBits
import Derived.Test.YtkkfmkhbdoeglaaDoorKeepDelta
import Derived.Maps.OwnOps
namespace Go.Proofs.YtkkfmkhbdoeglaaDoor
open Go.RowKit

set_option maxRecDepth 100000 in
theorem foldedRoute_any (fb q r : Nat) (S : List E) (x0 x1 x2 x3 : UInt8) (w : World) (h : FoldAt w fb q r S) :
    Calls Tryd.prog 18 #[.pointer (some ⟨fb, 0, none⟩), .string ⟨[x0, x1, x2, x3].toArray⟩] w fun e w' => e = .returned (routeV (routeN (be32 x0 x1 x2 x3) S 32)) ∧ Below w.heap.size w w' := by
  have HE := Lib.hid h.ent
  have hc := h.cell
  have hlt := cell_lt hc
  have HR := Lib.hid (fun W hW => route_any q 0 r S x0 x1 x2 x3 W hW)
  generalize routeN (be32 x0 x1 x2 x3) S 32 = o at *
  clear h
  cases o with
  | some v =>
    go_enter Tryd.func18, Tryd.ntmps18
    go_wp2_with fail
    refine (HR.out _ HE.out).mono ?_
    rintro e w1 ⟨rfl, hb1⟩
    unfold routeV
    go_wp2
    go_ret2
    exact ⟨rfl, hb1⟩
  | none =>
    go_enter Tryd.func18, Tryd.ntmps18
    go_wp2_with fail
    refine (HR.out _ HE.out).mono ?_
    rintro e w1 ⟨rfl, hb1⟩
    unfold routeV
    go_wp2
    go_ret2
    exact ⟨rfl, hb1⟩
/-- block u is a map from strings to numbers: 1 for those of a list -/
def UsedAt (w : World) (u n : Nat) (L : List (List UInt8)) : Prop :=
  ∃ D : DataW Unit, w.ownsMap Tryd.prog 9 (plainElem Tryd.prog 3) u n D ∧ Maps.IsMap D ∧ ∀ s, D.atKey (.string s) (.lit (.int .i64 0)) = .lit (.int .i64 (if s ∈ L then 1 else 0))
theorem UsedAt.new (w : World) : UsedAt (w.alloc (.map #[] 0)) w.heap.size 0 [] :=
  ⟨_, World.ownsMap_made w _ _ _, ⟨[], rfl⟩, fun s => by simp [DataW.atKey]⟩
theorem UsedAt.old {w w' : World} {u n : Nat} {L : List (List UInt8)} (h : UsedAt w u n L) (hb : w'.heap[u]? = w.heap[u]?) : UsedAt w' u n L := by
  obtain ⟨D, ⟨es, clock, h1, h2⟩, h3⟩ := h
  exact ⟨D, ⟨es, clock, hb.trans h1, h2⟩, h3⟩
theorem UsedAt.lt {w : World} {u n : Nat} {L : List (List UInt8)} (h : UsedAt w u n L) : u < w.heap.size := by
  obtain ⟨D, ⟨es, clock, h1, h2⟩, h3⟩ := h
  exact block_lt h1
theorem isKeyStr (s : List UInt8) : WideAt.IsKeyLit (.string s) := by simp [WideAt.IsKeyLit]
theorem put_used {D : DataW Unit} {L : List (List UInt8)} (hm : Maps.IsMap D) (h : ∀ s, D.atKey (.string s) (.lit (.int .i64 0)) = .lit (.int .i64 (if s ∈ L then 1 else 0))) (k : List UInt8) :
    ∀ s, (D.put (.string k) (.lit (.int .i64 1))).atKey (.string s) (.lit (.int .i64 0)) = .lit (.int .i64 (if s ∈ k :: L then 1 else 0)) := by
  intro s
  by_cases hs : s = k
  · subst hs
    rw [Maps.atKey_put_same hm (isKeyStr s)]
    simp
  · rw [Maps.atKey_put_other (fun e => hs (by cases e; rfl)), h s]
    simp [hs]
end Go.Proofs.YtkkfmkhbdoeglaaDoor
