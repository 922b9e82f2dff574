/- The contract of package overlay's cursor.op, whatever is read. No condition. -/
import Derived.Test.YtkkfmkhbdoeglaaGreatDoorCurOp10
import Derived.Test.YtkkfmkhbdoeglaaGreatDoorCurOp20
namespace Go.Proofs.YtkkfmkhbdoeglaaGreatDoor
open Go.RowKit

/-- cursor.op, in plain data -/
def Cu.op (cu : Cu) (ks : List K) : Cu × OpB :=
  match (cu.take 2).2 with
  | [x, y] =>
    let C := ((cu.take 2).1.must (x.toNat == 1 || x.toNat == 2) 6).must (decide (y.toNat < 3)) 6
    match C.f with
    | some _ => (C, ⟨x.toNat, y.toNat, [], []⟩)
    | none => C.opTail x.toNat y.toNat ks (keyLen y.toNat) (valLen y.toNat)
  | _ => (cu, ⟨0, 0, [], []⟩)
theorem op_any (base c r : Nat) (cu : Cu) (ks : List K) (w : World) (h : CurAt w base c cu) (hm : SeenAt w r ks) (hg : ShapesVar w) (hb2 : 2 ≤ base) (hb : base ≤ w.heap.size) (hcr : c < r) :
    Calls Tryz.prog 144 #[.pointer (some ⟨c, 0, none⟩), .map (some r)] w fun e w' => e = .returned (opV (cu.op ks).2) ∧ CurAt w' base c (cu.op ks).1 ∧ ((cu.op ks).1.f = none → SeenAt w' r (ks ++ [((cu.op ks).2.table, (cu.op ks).2.key)])) ∧ Ext (fun i => i = c ∨ i = r) w w' := by
  obtain ⟨x, y, hh⟩ := length2 (Cu.take_length cu 2)
  unfold Cu.op
  rw [hh]
  simp only
  cases hf : ((((cu.take 2).1.must (x.toNat == 1 || x.toNat == 2) 6).must (decide (y.toNat < 3)) 6)).f with
  | some z =>
    simp only
    refine (op_bad base c r cu x y _ _ w h hb hh ?_ ?_ (by rw [hf]; simp)).mono fun e w' ⟨h1, h2, h3⟩ => ⟨h1, h2, fun k => absurd (hf.symm.trans k) (by simp), ⟨h3.os, h3.tape, h3.output, h3.size, fun k hk hs => h3.block k hk (fun e => hs (.inl (by cases e; rfl)))⟩⟩
    · by_cases h1 : x.toNat < 1
      · exact .inl ⟨h1, by rw [Bool.or_eq_false_iff, beq_eq_false_iff_ne, beq_eq_false_iff_ne]; omega⟩
      · by_cases h2 : x.toNat < 2
        · exact .inr (.inl ⟨by omega, h2, by rw [Bool.or_eq_true, beq_iff_eq, beq_iff_eq]; omega⟩)
        · by_cases h3 : x.toNat < 3
          · exact .inr (.inr (.inl ⟨by omega, h3, by rw [Bool.or_eq_true, beq_iff_eq, beq_iff_eq]; omega⟩))
          · exact .inr (.inr (.inr ⟨by omega, by rw [Bool.or_eq_false_iff, beq_eq_false_iff_ne, beq_eq_false_iff_ne]; omega⟩))
    · by_cases h1 : y.toNat < 3
      · exact .inl ⟨h1, decide_eq_true h1⟩
      · exact .inr ⟨by omega, decide_eq_false h1⟩
  | none =>
    simp only
    have k2 := Cu.must_f hf
    have k1 := Cu.must_f k2.1
    rw [k1.2, k2.2, Cu.must_true, Cu.must_true]
    have hy : y.toNat < 3 := of_decide_eq_true k2.2
    have hx : x.toNat = 1 ∨ x.toNat = 2 := by simpa using k1.2
    have hys : y.toNat = 0 ∨ y.toNat = 1 ∨ y.toNat = 2 := by omega
    rcases hx with hx | hx <;> rcases hys with hy | hy | hy <;> rw [hx, hy]
    · exact op_1_0 base c r cu x y ks w h hm hg hb2 hb hcr hh (by omega) (by omega) k1.1
    · exact op_1_1 base c r cu x y ks w h hm hg hb2 hb hcr hh (by omega) (by omega) k1.1
    · exact op_1_2 base c r cu x y ks w h hm hg hb2 hb hcr hh (by omega) (by omega) k1.1
    · exact op_2_0 base c r cu x y ks w h hm hg hb2 hb hcr hh (by omega) (by omega) k1.1
    · exact op_2_1 base c r cu x y ks w h hm hg hb2 hb hcr hh (by omega) (by omega) k1.1
    · exact op_2_2 base c r cu x y ks w h hm hg hb2 hb hcr hh (by omega) (by omega) k1.1
end Go.Proofs.YtkkfmkhbdoeglaaGreatDoor
