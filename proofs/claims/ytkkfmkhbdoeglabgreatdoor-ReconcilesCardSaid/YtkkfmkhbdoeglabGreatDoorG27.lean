/- A part of what is proved here: lemmas and contracts of single functions. No condition but those that each names. -/
import Derived.Test.YtkkfmkhbdoeglabGreatDoorG08
import Derived.Test.YtkkfmkhbdoeglabGreatDoorG10
import Derived.Test.YtkkfmkhbdoeglabGreatDoorG12
import Derived.Test.YtkkfmkhbdoeglabGreatDoorG14
import Derived.Test.YtkkfmkhbdoeglabGreatDoorG26
namespace Go.Proofs.YtkkfmkhbdoeglabGreatDoor
/-- the first n bits of 32, as a number; the others struck -/
def topN (N n : Nat) : Nat := N / 2 ^ (32 - n)
def cutN (N n : Nat) : Nat := topN N n * 2 ^ (32 - n)
def keyA (N n : Nat) : List UInt8 := be4 N ++ [UInt8.ofNat n]
theorem cutN_le (N n : Nat) : cutN N n ≤ N := Nat.div_mul_le_self _ _
theorem be4_inj {M N : Nat} (hm : M < 4294967296) (hn : N < 4294967296) (h : be4 M = be4 N) : M = N := by
  obtain ⟨a, b, c, d, h1, h2⟩ := be4_be32 M hm
  obtain ⟨a', b', c', d', h3, h4⟩ := be4_be32 N hn
  rw [h1, h3] at h
  cases h
  exact h2.symm.trans h4
theorem keyA_inj {M N m n : Nat} (hM : M < 4294967296) (hN : N < 4294967296) (hm : m ≤ 32) (hn : n ≤ 32) (h : keyA M m = keyA N n) : M = N ∧ m = n := by
  unfold keyA at h
  obtain ⟨h1, h2⟩ := List.append_inj h (by simp [be4])
  refine ⟨be4_inj hM hN h1, ?_⟩
  have := congrArg (fun l => l.map UInt8.toNat) h2
  simp at this
  omega
/-- all entries are routes -/
def RouteE (e : E) : Prop := ∃ N n, n ≤ 32 ∧ N < 4294967296 ∧ e.1 = (1, keyA N n)
/-- best and value: the longest route of S that holds for A, and its next hop -/
def LongInv (A : Nat) (S : List E) (best : Int) (value : List UInt8) : Prop :=
  SortedE S ∧ (∀ e ∈ S, RouteE e) ∧ ((best = -1 ∧ value = [] ∧ ∀ N n v, ((1, keyA N n), v) ∈ S → n ≤ 32 → N < 4294967296 → cutN A n ≠ N) ∨
    ∃ b : Nat, best = b ∧ b ≤ 32 ∧ ((1, keyA (cutN A b) b), value) ∈ S ∧ ∀ N n v, ((1, keyA N n), v) ∈ S → n ≤ 32 → N < 4294967296 → cutN A n = N → n ≤ b)
theorem LongInv.start (A : Nat) : LongInv A [] (-1) [] := ⟨SortedE.nil, (fun _ h => by cases h), .inl ⟨rfl, rfl, fun _ _ _ h => by cases h⟩⟩
theorem LongInv.step {A : Nat} {S : List E} {best : Int} {value v : List UInt8} {N n : Nat} (h : LongInv A S best value) (_hA : A < 4294967296) (hn : n ≤ 32) (hN : N < 4294967296) (hfree : ∀ x ∈ S, x.1 ≠ (1, keyA N n)) :
    LongInv A (putS (1, keyA N n) v S) (if cutN A n = N ∧ best < n then (n : Int) else best) (if cutN A n = N ∧ best < n then v else value) := by
  obtain ⟨hs, hr, hb⟩ := h
  refine ⟨sorted_put _ _ hs, fun e he => ?_, ?_⟩
  · rcases (mem_put _ _ _ _).1 he with rfl | ⟨h1, -⟩
    · exact ⟨N, n, hn, hN, rfl⟩
    · exact hr e h1
  · have hold : ∀ N' n' v', ((1, keyA N' n'), v') ∈ putS (1, keyA N n) v S → n' ≤ 32 → N' < 4294967296 → (N' = N ∧ n' = n) ∨ ((1, keyA N' n'), v') ∈ S := by
      intro N' n' v' hm h1 h2
      rcases (mem_put _ _ _ _).1 hm with e | ⟨h3, -⟩
      · have := congrArg (fun x : E => x.1.2) e
        exact .inl (keyA_inj h2 hN h1 hn this)
      · exact .inr h3
    by_cases hc : cutN A n = N ∧ best < n
    · rw [if_pos hc, if_pos hc]
      refine .inr ⟨n, rfl, hn, (mem_put _ _ _ _).2 (.inl (by rw [hc.1])), fun N' n' v' hm h1 h2 h3 => ?_⟩
      rcases hold N' n' v' hm h1 h2 with ⟨-, rfl⟩ | hm'
      · exact Nat.le_refl _
      · rcases hb with ⟨-, -, hb⟩ | ⟨b, hb1, -, -, hb⟩
        · exact absurd h3 (hb N' n' v' hm' h1 h2)
        · have := hb N' n' v' hm' h1 h2 h3
          have := hc.2
          omega
    · rw [if_neg hc, if_neg hc]
      rcases hb with ⟨hb0, hv, hb⟩ | ⟨b, hb1, hb2, hb3, hb⟩
      · refine .inl ⟨hb0, hv, fun N' n' v' hm h1 h2 h3 => ?_⟩
        rcases hold N' n' v' hm h1 h2 with ⟨rfl, rfl⟩ | hm'
        · exact hc ⟨h3, by omega⟩
        · exact hb N' n' v' hm' h1 h2 h3
      · refine .inr ⟨b, hb1, hb2, (mem_put _ _ _ _).2 (.inr ⟨hb3, hfree _ hb3⟩), fun N' n' v' hm h1 h2 h3 => ?_⟩
        rcases hold N' n' v' hm h1 h2 with ⟨rfl, rfl⟩ | hm'
        · refine Nat.le_of_not_lt fun hlt => hc ⟨h3, by omega⟩
        · exact hb N' n' v' hm' h1 h2 h3
/-- what Route finds: from 32 bits down -/
def routeN (A : Nat) (S : List E) : Nat → Option (List UInt8)
  | 0 => getS (1, keyA (cutN A 0) 0) S
  | n + 1 => match getS (1, keyA (cutN A (n + 1)) (n + 1)) S with
    | some v => some v
    | none => routeN A S n
theorem routeN_spec {A : Nat} {S : List E} {best : Int} {value : List UInt8} (h : LongInv A S best value) (hA : A < 4294967296) : ∀ m : Nat, best ≤ m → m ≤ 32 → routeN A S m = if best < 0 then none else some value := by
  obtain ⟨hs, -, hb⟩ := h
  have hc : ∀ n, cutN A n < 4294967296 := fun n => Nat.lt_of_le_of_lt (cutN_le A n) hA
  have hnone : ∀ n : Nat, best < n → n ≤ 32 → getS (1, keyA (cutN A n) n) S = none := by
    intro n h1 h2
    rw [get_none]
    rintro ⟨k, v⟩ hx e
    simp only at e
    subst e
    rcases hb with ⟨-, -, hb⟩ | ⟨b, hb1, -, -, hb⟩
    · exact hb _ _ _ hx h2 (hc n) rfl
    · have := hb _ _ _ hx h2 (hc n) rfl
      omega
  have hsome : ∀ n : Nat, best = n → getS (1, keyA (cutN A n) n) S = some value := by
    intro n h1
    rcases hb with ⟨hb0, -, -⟩ | ⟨b, hb1, -, hb3, -⟩
    · omega
    · obtain rfl : n = b := by omega
      exact (get_iff hs.keys _ _).2 hb3
  intro m
  induction m with
  | zero =>
    intro h1 h2
    unfold routeN
    by_cases h0 : best = 0
    · rw [hsome 0 h0, if_neg (by omega)]
    · rw [hnone 0 (by omega) h2, if_pos (by omega)]
  | succ m ih =>
    intro h1 h2
    unfold routeN
    by_cases h0 : best = (m + 1 : Nat)
    · rw [hsome _ h0, if_neg (by omega)]
    · rw [hnone _ (by omega) h2]
      exact ih (by omega) (by omega)
end Go.Proofs.YtkkfmkhbdoeglabGreatDoor
namespace Go.Proofs.YtkkfmkhbdoeglabGreatDoor
open Go.RowKit
/-- what holds at Route's loop -/
def RouteRel (w : World) (A : Nat) (S : List E) (n : Value) (wr : World) : Prop :=
  Below w.heap.size w wr ∧ ((∃ k : Nat, k ≤ 32 ∧ n = .int .i64 (k : Int) ∧ routeN A S 32 = routeN A S k) ∨ (n = .int .i64 (-1) ∧ routeN A S 32 = none))
def routeV (o : Option (List UInt8)) : Value := match o with
  | some v => .tuple #[.string ⟨v.toArray⟩, .bool true]
  | none => .tuple #[.string ⟨#[]⟩, .bool false]
theorem routeN_at (A : Nat) (S : List E) (k : Nat) : routeN A S k = match getS (1, keyA (cutN A k) k) S with
    | some v => some v
    | none => if k = 0 then none else routeN A S (k - 1) := by
  cases k with
  | zero =>
    unfold routeN
    cases getS (1, keyA (cutN A 0) 0) S <;> rfl
  | succ k =>
    rw [show routeN A S (k + 1) = match getS (1, keyA (cutN A (k + 1)) (k + 1)) S with | some v => some v | none => routeN A S k from rfl]
    cases getS (1, keyA (cutN A (k + 1)) (k + 1)) S with
    | some v => rfl
    | none => simp
theorem RouteRel.next {w W : World} {A k : Nat} {S : List E} (hb : Below w.heap.size w W) (hk : k ≤ 32) (h32 : routeN A S 32 = routeN A S k) (hg : getS (1, keyA (cutN A k) k) S = none) (q : Nat) : RouteRel w A S (.int .i64 ((k : Int) - 1)) (W.drewN q) := by
  rw [routeN_at A S k, hg] at h32
  refine ⟨hb.drewN q, ?_⟩
  by_cases h0 : k = 0
  · subst h0
    exact .inr ⟨rfl, h32⟩
  · simp only [if_neg h0] at h32
    exact .inl ⟨k - 1, by omega, by rw [show ((k - 1 : Nat) : Int) = (k : Int) - 1 by omega], h32⟩
end Go.Proofs.YtkkfmkhbdoeglabGreatDoor
