/- The parts of Longest's walk. No condition. -/
import Derived.Test.YtkkfmkhbdoeglaaDoorLongest2
namespace Go.Proofs.YtkkfmkhbdoeglaaDoor
open Go.RowKit

theorem be4_of (a b c d : UInt8) : be4 (be32 a b c d) = [a, b, c, d] := by
  have ha := a.toNat_lt
  have hb := b.toNat_lt
  have hc := c.toNat_lt
  have hd := d.toNat_lt
  obtain ⟨a', b', c', d', h1, h2⟩ := be4_be32 (be32 a b c d) (by unfold be32; omega)
  have ha' := a'.toNat_lt
  have hb' := b'.toNat_lt
  have hc' := c'.toNat_lt
  have hd' := d'.toNat_lt
  unfold be32 at h2
  rw [h1, UInt8.toNat_inj.1 (show a'.toNat = a.toNat by omega), UInt8.toNat_inj.1 (show b'.toNat = b.toNat by omega), UInt8.toNat_inj.1 (show c'.toNat = c.toNat by omega), UInt8.toNat_inj.1 (show d'.toNat = d.toNat by omega)]
theorem rowAt {w : World} {b : Nat} {C : Array Value} {t : TypeId} {f : Nat × Nat} (h : w.heap[b]? = some (.cells C t f)) (l : List UInt8) (n : Nat) (hn : l.length = n) (hC : C.toList = u8s l) : BytesAt w (.slice (some ⟨b, 0, none⟩) n n) l := by
  subst hn
  refine BytesAt.mk' (Nat.le_refl _) fun i hi => ⟨b, 0, rfl, ?_⟩
  have := cell_of_row w b i C t f h
  rw [Nat.zero_add, this, ← Array.getElem?_toList, hC]
  simp [u8s, hi]
theorem LongRel.same {w2 wo wr : World} {fb q r u A k : Nat} {l : List Int} {S : List E} {b : Int} {v : List UInt8} {L : List (List UInt8)} (hlt : k < l.length) (h40 : k < 40) (h1 : -1 ≤ b) (h2 : b ≤ 32) (hv : v.length ≤ 4)
    (hF : FoldAt wo fb q r S) (hI : LongInv A S b v) (hU : UsedAt wo u k L) (hL : ∀ s, s ∈ L ↔ ∃ x, ((1, s), x) ∈ S) (hX : Ext (fun j => j = r ∨ j = u) w2 wo) (hb : Below wo.heap.size wo wr) :
    LongRel w2 fb q r u A l (.int .i64 b) (.string ⟨v.toArray⟩) (.int .i64 ((k + 1 : Nat) : Int)) wr := by
  obtain ⟨D, hown, h3⟩ := hU.old (hb.block _ hU.lt)
  exact ⟨k + 1, S, b, v, L, rfl, by omega, by omega, rfl, h1, h2, rfl, hv, hF.below hb, hI, ⟨D, hown.mono (by omega), h3⟩, hL, hX.past hb⟩
theorem LongRel.next {w2 wr : World} {fb q r u A k N n : Nat} {l : List Int} {S : List E} {b b' : Int} {v v' vb : List UInt8} {L : List (List UInt8)} (hlt : k < l.length) (h40 : k < 40) (h1 : -1 ≤ b) (h2 : b ≤ 32) (hv : v.length ≤ 4) (hvb : vb.length ≤ 4)
    (hA : A < 4294967296) (hn : n ≤ 32) (hN : N < 4294967296) (hfree : keyA N n ∉ L)
    (hF : FoldAt wr fb q r (putS (1, keyA N n) vb S)) (hI : LongInv A S b v) (hU : UsedAt wr u (k + 1) (keyA N n :: L)) (hL : ∀ s, s ∈ L ↔ ∃ x, ((1, s), x) ∈ S) (hX : Ext (fun j => j = r ∨ j = u) w2 wr)
    (hb' : b' = if cutN A n = N ∧ b < n then (n : Int) else b) (hv' : v' = if cutN A n = N ∧ b < n then vb else v) :
    LongRel w2 fb q r u A l (.int .i64 b') (.string ⟨v'.toArray⟩) (.int .i64 ((k + 1 : Nat) : Int)) wr := by
  have hst := hI.step (v := vb) hA hn hN (fun x hx e => hfree ((hL _).2 ⟨x.2, by rw [← e]; exact hx⟩))
  rw [← hb', ← hv'] at hst
  refine ⟨k + 1, _, b', v', _, rfl, by omega, by omega, rfl, ?_, ?_, rfl, ?_, hF, hst, hU, ?_, hX⟩
  · subst hb'; split <;> omega
  · subst hb'; split <;> omega
  · subst hv'; split <;> assumption
  · intro s
    constructor
    · intro h
      rcases List.mem_cons.1 h with rfl | h
      · exact ⟨vb, (mem_put _ _ _ _).2 (.inl rfl)⟩
      · obtain ⟨x, hx⟩ := (hL s).1 h
        exact ⟨x, (mem_put _ _ _ _).2 (.inr ⟨hx, fun e => hfree (by cases e; exact h)⟩)⟩
    · rintro ⟨x, hx⟩
      rcases (mem_put _ _ _ _).1 hx with e | ⟨h, -⟩
      · cases e
        exact List.mem_cons_self
      · exact List.mem_cons_of_mem _ ((hL s).2 ⟨x, h⟩)
/-- such a change is right -/
theorem wrong_route {N n : Nat} (hn : n ≤ 32) (hN : N < 4294967296) (hc : cutN N n = N) (a b c d : UInt8) (hz : be32 a b c d ≠ 0) : wrongB 1 [⟨1, 1, keyA N n, [a, b, c, d]⟩] = none := by
  have h := keyA_good hn hN hc
  have : opWrong ⟨1, 1, keyA N n, [a, b, c, d]⟩ [] = 0 := by
    unfold opWrong
    simp [h, valOk, isValueB, hz]
  unfold wrongB
  rw [if_neg (by decide), if_neg (by simp)]
  unfold wrongFrom
  rw [if_pos this]
  rfl
theorem fits_route {N n : Nat} (a b c d : UInt8) : OpsFit [⟨1, 1, keyA N n, [a, b, c, d]⟩] := by
  intro o ho
  rw [List.mem_singleton] at ho
  subst ho
  simp [keyA, be4, maxB]
theorem apply_route (fb q r : Nat) (S : List E) (sv : Value) {N n : Nat} (hn : n ≤ 32) (hN : N < 4294967296) (hc : cutN N n = N) (a b c d : UInt8) (hz : be32 a b c d ≠ 0) (w : World) (he : FoldAt w fb q r S) (hs : OpsAt w sv [⟨1, 1, keyA N n, [a, b, c, d]⟩]) (hg : ShapesVar w) (hge : ErrVar w) (hr : 2 ≤ r) :
    Calls Tryd.prog 17 #[.pointer (some ⟨fb, 0, none⟩), .agg #[.int .u64 1, sv]] w fun e w' => e = .returned (.agg #[.int .i64 0, .int .i64 0, .int .i64 0]) ∧ TabAt w' r (putS (1, keyA N n) [a, b, c, d] S) ∧ Ext (fun i => i = r) w w' := by
  have hw := wrong_route hn hN hc a b c d hz
  have h := foldedApply_any fb q r S 1 sv _ w he hs hg hge (fits_route a b c d) hr
  have e1 : applyV 1 [⟨1, 1, keyA N n, [a, b, c, d]⟩] = .agg #[.int .i64 0, .int .i64 0, .int .i64 0] := by
    unfold applyV
    rw [hw]
    rfl
  have e2 : applyS 1 S [⟨1, 1, keyA N n, [a, b, c, d]⟩] = putS (1, keyA N n) [a, b, c, d] S := by
    unfold applyS
    rw [hw]
    rfl
  rw [e1, e2] at h
  exact h
theorem long_route (fb q r : Nat) {S : List E} {b : Int} {v : List UInt8} (x0 x1 x2 x3 : UInt8) (w : World) (he : FoldAt w fb q r S) (hI : LongInv (be32 x0 x1 x2 x3) S b v) (h1 : -1 ≤ b) (h2 : b ≤ 32) (hA : be32 x0 x1 x2 x3 < 4294967296) :
    Calls Tryd.prog 18 #[.pointer (some ⟨fb, 0, none⟩), .string ⟨[x0, x1, x2, x3].toArray⟩] w fun e w' => e = .returned (.tuple #[.string ⟨v.toArray⟩, .bool (decide (0 ≤ b))]) ∧ Below w.heap.size w w' := by
  have h := foldedRoute_any fb q r S x0 x1 x2 x3 w he
  rw [routeN_spec hI hA 32 h2 (Nat.le_refl _)] at h
  by_cases hb : b < 0
  · rw [if_pos hb] at h
    have hv : v = [] := by
      obtain ⟨-, -, ⟨-, hv, -⟩ | ⟨b', hb', -⟩⟩ := hI
      · exact hv
      · omega
    rw [hv, decide_eq_false (by omega)]
    exact h
  · rw [if_neg hb] at h
    rw [decide_eq_true (by omega)]
    exact h
/-- what holds at the loop that compares bits -/
def HoldRel (w8 : World) (A N n : Nat) (h i : Value) (wr : World) : Prop :=
  ∃ k : Nat, k ≤ n ∧ i = .int .i64 (k : Int) ∧ h = .bool (decide (topN A k = topN N k)) ∧ ∃ q, wr = w8.drewN q
theorem HoldRel.start {w8 : World} {A N n : Nat} (hA : A < 4294967296) (hN : N < 4294967296) : HoldRel w8 A N n (.bool true) (.int .i64 0) w8 :=
  ⟨0, Nat.zero_le _, rfl, by rw [topN_zero A hA, topN_zero N hN]; rfl, 0, rfl⟩
theorem HoldRel.step {w8 : World} {A N n k q : Nat} {h : Bool} (hk : k < n) (hn : n ≤ 32) (hh : h = (decide (topN A k = topN N k) && decide (N / 2 ^ (31 - k) % 2 = A / 2 ^ (31 - k) % 2))) : HoldRel w8 A N n (.bool h) (.int .i64 ((k + 1 : Nat) : Int)) (w8.drewN q) := by
  refine ⟨k + 1, by omega, rfl, ?_, q, rfl⟩
  subst hh
  rw [← Bool.decide_and]
  congr 1
  apply decide_eq_decide.2
  rw [top_step A N k (by omega)]
  constructor
  · rintro ⟨h1, h2⟩; exact ⟨h1, h2.symm⟩
  · rintro ⟨h1, h2⟩; exact ⟨h1, h2.symm⟩
end Go.Proofs.YtkkfmkhbdoeglaaDoor
