/- The contract of the reference's change: the change at a place. No condition. -/
import Derived.Test.YtkkfmkhbdoeglaaDoorRefOp
import Derived.Test.YtkkfmkhbdoeglaaDoorPlainA
namespace Go.Proofs.YtkkfmkhbdoeglaaDoor
open Go.RowKit

/-- what the reference's change tells -/
def changeV (s : List UInt8) (at' : Nat) (ks : List K) (v : Value) : Prop :=
  match changeB s at' ks with
  | .inl (o, to) => v = .tuple #[opV o, .int .i64 to, .agg #[.int .i64 0, .int .i64 0]]
  | .inr (k, p) => ∃ o, v = .tuple #[opV o, .int .i64 0, .agg #[.int .i64 k, .int .i64 p]]
theorem changeV_inl {s : List UInt8} {at' : Nat} {ks : List K} {v : Value} {o : OpB} {to : Nat} (h : changeB s at' ks = .inl (o, to)) (hv : v = .tuple #[opV o, .int .i64 to, .agg #[.int .i64 0, .int .i64 0]]) : changeV s at' ks v := by
  unfold changeV
  rw [h]
  exact hv
theorem changeV_inr {s : List UInt8} {at' : Nat} {ks : List K} {v : Value} (o : OpB) {k p : Nat} (h : changeB s at' ks = .inr (k, p)) (hv : v = .tuple #[opV o, .int .i64 0, .agg #[.int .i64 k, .int .i64 p]]) : changeV s at' ks v := by
  unfold changeV
  rw [h]
  exact ⟨o, hv⟩
set_option maxRecDepth 100000 in
set_option maxHeartbeats 1000000 in
theorem refChange_short (s : List UInt8) (at' : Nat) (sv : Value) (ks : List K) (w : World) (hs : s.length ≤ 9223372036854770000) (ha : at' ≤ s.length) (hlt : s.length < at' + 2) :
    Calls Tryd.prog 61 #[.string ⟨s.toArray⟩, .int .i64 at', sv] w fun e w' => (∃ v, e = .returned v ∧ changeV s at' ks v) ∧ Below w.heap.size w w' := by
  have hc : changeB s at' ks = .inr (1, at') := by
    unfold changeB
    split
    · rename_i x y r hd
      have := (drop2 hd).2
      omega
    · rfl
  have HC := Lib.hid hc
  clear hc
  have hlt' : (s.length : Int) < at' + 2 := by omega
  go_enter Tryd.func61, Tryd.ntmps61
  go_wp2
  refine bodyPost_ret (v := .tuple #[opV ⟨0, 0, [], []⟩, .int .i64 0, .agg #[.int .i64 1, .int .i64 at']]) (by simp [results, Tryd.results61, go_sem, opV]) rfl ⟨⟨_, rfl, changeV_inr _ HC.out rfl⟩, ?_⟩
  exact (((Below.refl _ w).alloc (Nat.le_refl _) _).alloc (by simp) _).alloc (by simp; omega) _
set_option maxRecDepth 100000 in
set_option maxHeartbeats 2000000 in
theorem refChange_head (s : List UInt8) (at' : Nat) (x y : UInt8) (r : List UInt8) (sv : Value) (us : List OpB) (w : World) (hs : s.length ≤ 9223372036854770000) (hd : s.drop at' = x :: y :: r) (hb : x.toNat < 1 ∨ 2 < x.toNat ∨ 2 < y.toNat) :
    Calls Tryd.prog 61 #[.string ⟨s.toArray⟩, .int .i64 at', sv] w fun e w' => (∃ v, e = .returned v ∧ changeV s at' (keysOf us) v) ∧ Below w.heap.size w w' := by
  obtain ⟨hd2, hlen⟩ := drop2 hd
  have hx0 : s[at']? = some x := by have := congrArg (fun l => l[0]?) hd; simpa using this
  have hy0 : s[at' + 1]? = some y := by have := congrArg (fun l => l[1]?) hd; simpa using this
  have hx := x.toNat_lt
  have hy := y.toNat_lt
  have i0 : ∀ w, (Instr.index 9 (.string ⟨s.toArray⟩) (.int .i64 (at' : Int))).run Tryd.prog w = .ok (.int .u8 x.toNat) w := fun w => run_index_str Tryd.underlying9 _ _ _ x (by omega) (by rw [Int.toNat_natCast]; exact hx0) w
  have i1 : ∀ w, (Instr.index 9 (.string ⟨s.toArray⟩) (.int .i64 ((at' : Int) + 1))).run Tryd.prog w = .ok (.int .u8 y.toNat) w := fun w => run_index_str Tryd.underlying9 _ _ _ y (by omega) (by rw [show ((at' : Int) + 1).toNat = at' + 1 by omega]; exact hy0) w
  have hge : ¬ (s.length : Int) < at' + 2 := by omega
  have hlen' : s.length = at' + 2 + r.length := hlen
  clear hx0 hy0 hlen
  have HD := Lib.hid hd
  have HD2 := Lib.hid hd2
  clear hd hd2
  have HC : Hid (changeB s at' (keysOf us) = .inr (6, at')) := Lib.hid (by unfold changeB; rw [HD.out]; simp only; rw [if_pos hb])
  have hsp : (x.toNat : Int) < 1 ∨ ((1 : Int) ≤ x.toNat ∧ (3 : Int) ≤ x.toNat) ∨ ((1 : Int) ≤ x.toNat ∧ (x.toNat : Int) ≤ 2 ∧ (3 : Int) ≤ y.toNat) := by omega
  clear hb
  rcases hsp with h1 | ⟨h1, h2⟩ | ⟨h1, h2, h3⟩
  all_goals
    go_enter Tryd.func61, Tryd.ntmps61
    go_wp2
    refine bodyPost_ret (v := .tuple #[opV ⟨x.toNat, y.toNat, [], []⟩, .int .i64 0, .agg #[.int .i64 6, .int .i64 at']]) (by simp [results, Tryd.results61, go_sem, opV]) rfl ⟨⟨_, rfl, changeV_inr _ HC.out rfl⟩, ?_⟩
    exact (((Below.refl _ w).alloc (Nat.le_refl _) _).alloc (by simp) _).alloc (by simp; omega) _
end Go.Proofs.YtkkfmkhbdoeglaaDoor
