/- The contract of the reference's Decode. No condition. -/
import Derived.Test.YtkkfmkhbdoeglaaDoorRefChange2
import Derived.Test.YtkkfmkhbdoeglaaDoorHeap4
import Derived.Test.YtkkfmkhbdoeglaaDoorHeap
import Derived.Test.YtkkfmkhbdoeglaaDoorEncode
namespace Go.Proofs.YtkkfmkhbdoeglaaDoor
open Go.RowKit

theorem refChange_any (s : List UInt8) (at' : Nat) (sv : Value) (us : List OpB) (w : World) (hs : s.length ≤ maxB) (ha : at' ≤ s.length) (hus : OpsAt w sv us) (hl : us.length ≤ 100) :
    Calls Tryd.prog 61 #[.string ⟨s.toArray⟩, .int .i64 at', sv] w fun e w' => (∃ v, e = .returned v ∧ changeV s at' (keysOf us) v) ∧ Below w.heap.size w w' := by
  have hs' : s.length ≤ 9223372036854770000 := by unfold maxB at hs; omega
  cases hd : s.drop at' with
  | nil => exact refChange_short s at' sv (keysOf us) w hs' ha (by have := congrArg List.length hd; simp at this; omega)
  | cons x t =>
    cases t with
    | nil => exact refChange_short s at' sv (keysOf us) w hs' ha (by have := congrArg List.length hd; simp at this; omega)
    | cons y r =>
      by_cases hb : x.toNat < 1 ∨ 2 < x.toNat ∨ 2 < y.toNat
      · exact refChange_head s at' x y r sv us w hs' hd hb
      · by_cases hk : r.length < keyLen y.toNat
        · exact refChange_keyShort s at' x y r sv (keysOf us) w hs' hd (by omega) (by omega) (by omega) hk
        · exact refChange_key s at' x y r sv us w hs' hd (by omega) (by omega) (by omega) hk hus hl
/-- what the reference's Decode tells -/
def RefDecPost (s : List UInt8) (w : World) (e : Ending) (w' : World) : Prop :=
  Below w.heap.size w w' ∧ match refDecB s with
    | .inl (n, os) => ∃ sv, e = .returned (.tuple #[.agg #[.int .u64 n, sv], .agg #[.int .i64 0, .int .i64 0]]) ∧ OwnS w' w.heap.size 4 sv os.length (opCells os)
    | .inr (k, p) => e = .returned (.tuple #[.agg #[.int .u64 0, .slice none 0 0], .agg #[.int .i64 k, .int .i64 p]])
theorem RefDecPost.bad {s : List UInt8} {w w' : World} {e : Ending} {k p : Nat} (hb : Below w.heap.size w w') (h : refDecB s = .inr (k, p)) (he : e = .returned (.tuple #[.agg #[.int .u64 0, .slice none 0 0], .agg #[.int .i64 k, .int .i64 p]])) : RefDecPost s w e w' := by
  refine ⟨hb, ?_⟩
  rw [h]
  exact he
theorem RefDecPost.good {s : List UInt8} {w w' : World} {e : Ending} {n : Nat} {os : List OpB} (hb : Below w.heap.size w w') (h : refDecB s = .inl (n, os)) {sv : Value} (he : e = .returned (.tuple #[.agg #[.int .u64 n, sv], .agg #[.int .i64 0, .int .i64 0]])) (ho : OwnS w' w.heap.size 4 sv os.length (opCells os)) : RefDecPost s w e w' := by
  refine ⟨hb, ?_⟩
  rw [h]
  exact ⟨sv, he, ho⟩
/-- four stores: into two blocks of two cells -/
def set22 (wr : World) (A Q : Nat) (u0 u1 v0 v1 : Value) : World :=
  (((wr.setCell ⟨A, 0, none⟩ u0).setCell ⟨A, 1, none⟩ u1).setCell ⟨Q, 0, none⟩ v0).setCell ⟨Q, 1, none⟩ v1
theorem set22_at {wr : World} {A Q : Nat} (h : A ≠ Q) {a0 a1 b0 b1 : Value} {TA TQ : TypeId} (RR : wr.heap[A]? = some (.cells #[a0, a1] TA (0, 0))) (QR : wr.heap[Q]? = some (.cells #[b0, b1] TQ (0, 0))) (u0 u1 v0 v1 : Value) :
    (set22 wr A Q u0 u1 v0 v1).cell? ⟨A, 0, none⟩ = some u0 ∧ (set22 wr A Q u0 u1 v0 v1).cell? ⟨A, 1, none⟩ = some u1 ∧ (set22 wr A Q u0 u1 v0 v1).cell? ⟨Q, 0, none⟩ = some v0 ∧ (set22 wr A Q u0 u1 v0 v1).cell? ⟨Q, 1, none⟩ = some v1 := by
  have e1 : ((wr.setCell ⟨A, 0, none⟩ u0).setCell ⟨A, 1, none⟩ u1).heap[A]? = some (.cells #[u0, u1] TA (0, 0)) := heap_setCell _ _ 1 _ (heap_setCell _ _ 0 _ RR)
  have q1 : ((wr.setCell ⟨A, 0, none⟩ u0).setCell ⟨A, 1, none⟩ u1).heap[Q]? = some (.cells #[b0, b1] TQ (0, 0)) := by
    rw [Below.heap_setCell _ ⟨A, 1, none⟩ _ Q (Ne.symm h), Below.heap_setCell _ ⟨A, 0, none⟩ _ Q (Ne.symm h)]
    exact QR
  have q2 : (set22 wr A Q u0 u1 v0 v1).heap[Q]? = some (.cells #[v0, v1] TQ (0, 0)) := heap_setCell _ _ 1 _ (heap_setCell _ _ 0 _ q1)
  have e2 : (set22 wr A Q u0 u1 v0 v1).heap[A]? = some (.cells #[u0, u1] TA (0, 0)) := by
    unfold set22
    rw [Below.heap_setCell _ ⟨Q, 1, none⟩ _ A h, Below.heap_setCell _ ⟨Q, 0, none⟩ _ A h]
    exact e1
  exact ⟨cell_of_row _ _ 0 _ _ _ e2, cell_of_row _ _ 1 _ _ _ e2, cell_of_row _ _ 0 _ _ _ q2, cell_of_row _ _ 1 _ _ _ q2⟩
theorem set22_below {B : Nat} {w0 wr : World} (h : Below B w0 wr) {A Q : Nat} (hA : B ≤ A) (hQ : B ≤ Q) (u0 u1 v0 v1 : Value) : Below B w0 (set22 wr A Q u0 u1 v0 v1) :=
  (((h.setCell (p := ⟨A, 0, none⟩) hA _).setCell (p := ⟨A, 1, none⟩) hA _).setCell (p := ⟨Q, 0, none⟩) hQ _).setCell (p := ⟨Q, 1, none⟩) hQ _
theorem set22_own {wr : World} {base k n : Nat} {v : Value} {xs : List Value} (h : OwnS wr base k v n xs) {A Q : Nat} (hA : A < base) (hQ : Q < base) (u0 u1 v0 v1 : Value) : OwnS (set22 wr A Q u0 u1 v0 v1) base k v n xs := by
  have o1 : ∀ {W : World} (p : Addr) (u : Value), p.block < base → OwnS W base k v n xs → OwnS (W.setCell p u) base k v n xs := fun {W} p u hp hW =>
    hW.frame (by rw [size_setCell]; exact Nat.le_refl _) (fun b hb _ => Below.heap_setCell W p u b (fun e => hW.apart hp (by rw [hb, e])))
  exact o1 ⟨Q, 1, none⟩ _ hQ (o1 ⟨Q, 0, none⟩ _ hQ (o1 ⟨A, 1, none⟩ _ hA (o1 ⟨A, 0, none⟩ _ hA h)))
set_option maxRecDepth 100000 in
set_option maxHeartbeats 1000000 in
theorem refDecode_short (s : List UInt8) (w : World) (hl : s.length < 8) :
    Calls Tryd.prog 40 #[.string ⟨s.toArray⟩] w (RefDecPost s w) := by
  have HC : Hid (refDecB s = .inr (1, 0)) := Lib.hid (by unfold refDecB; rw [if_pos hl])
  have hl' : (s.length : Int) < 8 := by omega
  clear hl
  go_enter Tryd.func40, Tryd.ntmps40
  go_wp2
  refine bodyPost_ret (v := .tuple #[.agg #[.int .u64 0, .slice none 0 0], .agg #[.int .i64 1, .int .i64 0]]) (by simp [results, Tryd.results40, go_sem]) rfl (RefDecPost.bad ?_ HC.out rfl)
  (repeat refine Below.setCell (p := ⟨_, _, none⟩) ?_ (by simp <;> omega) _)
  exact (((Below.refl _ w).alloc (Nat.le_refl _) _).alloc (by simp) _).alloc (by simp <;> omega) _
/-- what holds at the loop over the version's bytes -/
def RefVerRel (w : World) (B : Nat) (s : List UInt8) (i : Value) (wr : World) : Prop :=
  ∃ k : Nat, k ≤ 8 ∧ i = .int .i64 (k : Int) ∧ wr.heap[B]? = some (.cells #[.int .u64 0, .slice none 0 0] 46 (0, 0)) ∧ wr.heap[B + 1]? = some (.cells #[.int .i64 0, .int .i64 0] 53 (0, 0)) ∧
    wr.heap[B + 1 + 1]? = some (.cells #[.int .u64 0, .slice none 0 0] 46 (0, 0)) ∧ wr.heap[B + 1 + 1 + 1]? = some (.cells #[.int .u64 (numB (s.take k) : Nat), .slice none 0 0] 46 (0, 0)) ∧ Below B w wr
theorem RefVerRel.step {w wr : World} {B k v : Nat} {s : List UInt8} {x : Nat} (hk : k < 8) (hB : B ≤ w.heap.size) (h0 : wr.heap[B]? = some (.cells #[.int .u64 0, .slice none 0 0] 46 (0, 0))) (h1 : wr.heap[B + 1]? = some (.cells #[.int .i64 0, .int .i64 0] 53 (0, 0)))
    (h2 : wr.heap[B + 1 + 1]? = some (.cells #[.int .u64 0, .slice none 0 0] 46 (0, 0))) (h3 : wr.heap[B + 1 + 1 + 1]? = some (.cells #[.int .u64 (v : Nat), .slice none 0 0] 46 (0, 0))) (hb : Below B w wr) (hn : numB (s.take (k + 1)) = v * 256 + x) (u : Int) (hu : u = 256 * (v : Int) + x) :
    RefVerRel w B s (.int .i64 ((k + 1 : Nat) : Int)) (wr.setCell ⟨B + 1 + 1 + 1, 0, none⟩ (.int .u64 u)).drew := by
  have e : ∀ j, j ≠ B + 1 + 1 + 1 → (wr.setCell ⟨B + 1 + 1 + 1, 0, none⟩ (.int .u64 u)).drew.heap[j]? = wr.heap[j]? := fun j hj => Below.heap_setCell _ ⟨B + 1 + 1 + 1, 0, none⟩ _ j hj
  refine ⟨k + 1, hk, rfl, (e _ (by omega)).trans h0, (e _ (by omega)).trans h1, (e _ (by omega)).trans h2, ?_, (hb.setCell (p := ⟨B + 1 + 1 + 1, 0, none⟩) (by simp <;> omega) _).drew⟩
  have := heap_setCell wr (B + 1 + 1 + 1) 0 (.int .u64 u) h3
  rw [hn, show ((v * 256 + x : Nat) : Int) = u by omega]
  exact this
/-- what holds at the loop over the changes -/
def RefDecRel (w : World) (B n v : Nat) (s : List UInt8) (at' i : Value) (wr : World) : Prop :=
  ∃ (k p : Nat) (os : List OpB) (sv : Value), k ≤ n ∧ i = .int .i64 (k : Int) ∧ at' = .int .i64 (p : Int) ∧ p ≤ s.length ∧ os.length = k ∧ changesB s n 9 [] [] = changesB s (n - k) p (keysOf os) os ∧
    wr.heap[B]? = some (.cells #[.int .u64 0, .slice none 0 0] 46 (0, 0)) ∧ wr.heap[B + 1]? = some (.cells #[.int .i64 0, .int .i64 0] 53 (0, 0)) ∧
    wr.heap[B + 1 + 1]? = some (.cells #[.int .u64 0, .slice none 0 0] 46 (0, 0)) ∧ wr.heap[B + 1 + 1 + 1]? = some (.cells #[.int .u64 (v : Nat), sv] 46 (0, 0)) ∧ OwnS wr (B + 4) 4 sv os.length (opCells os) ∧ Below B w wr
theorem RefDecRel.step {w w8 : World} {B n v k p to : Nat} {s : List UInt8} {os : List OpB} {o : OpB} {sv : Value} {sa8 : Option Addr} {cap8 : Nat} (hk : k < n) (hto : to ≤ s.length) (hol : os.length = k) (hcs : changesB s n 9 [] [] = changesB s (n - k) p (keysOf os) os) (hc : changeB s p (keysOf os) = .inl (o, to))
    (h0 : w8.heap[B]? = some (.cells #[.int .u64 0, .slice none 0 0] 46 (0, 0))) (h1 : w8.heap[B + 1]? = some (.cells #[.int .i64 0, .int .i64 0] 53 (0, 0)))
    (h2 : w8.heap[B + 1 + 1]? = some (.cells #[.int .u64 0, .slice none 0 0] 46 (0, 0))) (h3 : w8.heap[B + 1 + 1 + 1]? = some (.cells #[.int .u64 (v : Nat), sv] 46 (0, 0))) (hown : OwnS w8 (B + 4) 4 (.slice sa8 (os ++ [o]).length cap8) (os ++ [o]).length (opCells (os ++ [o]))) (hb : Below B w w8) :
    RefDecRel w B n v s (.int .i64 (to : Int)) (.int .i64 ((k + 1 : Nat) : Int)) (w8.setCell ⟨B + 1 + 1 + 1, 1, none⟩ (.slice sa8 (os.length + 1) cap8)) := by
  have e : (os ++ [o]).length = os.length + 1 := by simp
  rw [e] at hown
  have f : ∀ j, j ≠ B + 1 + 1 + 1 → (w8.setCell ⟨B + 1 + 1 + 1, 1, none⟩ (.slice sa8 (os.length + 1) cap8)).heap[j]? = w8.heap[j]? := fun j hj => Below.heap_setCell _ ⟨B + 1 + 1 + 1, 1, none⟩ _ j hj
  refine ⟨k + 1, to, os ++ [o], .slice sa8 (os.length + 1) cap8, hk, rfl, rfl, hto, by rw [e, hol], ?_, (f _ (by omega)).trans h0, (f _ (by omega)).trans h1, (f _ (by omega)).trans h2, heap_setCell w8 _ 1 _ h3, ?_, hb.setCell (p := ⟨B + 1 + 1 + 1, 1, none⟩) (by simp <;> omega) _⟩
  · rw [hcs, show n - k = (n - (k + 1)) + 1 by omega, changesB, hc]
    simp [keysOf]
  · rw [e]
    exact hown.frame (by rw [size_setCell]; exact Nat.le_refl _) (fun b hb _ => f b (fun e => hown.apart (show B + 1 + 1 + 1 < B + 4 by omega) (by rw [hb, e])))
set_option maxRecDepth 100000 in
set_option maxHeartbeats 4000000 in
theorem refDecode_long (s : List UInt8) (w : World) (hl : s.length ≤ maxB) (h8 : 8 ≤ s.length) :
    Calls Tryd.prog 40 #[.string ⟨s.toArray⟩] w (RefDecPost s w) := by
  have hl' := hl
  unfold maxB at hl'
  have h8' : ¬ (s.length : Int) < 8 := by omega
  have HC : Hid (refDecB s = if isVersionB (numB (s.take 8)) = false then .inr (4, 0)
    else if s.length < 9 then .inr (1, 8)
    else if ((s.drop 8).headD 0).toNat < 1 ∨ 8 < ((s.drop 8).headD 0).toNat then .inr (5, 8)
    else match changesB s ((s.drop 8).headD 0).toNat 9 [] [] with
      | .inr f => .inr f
      | .inl (at', os) => if at' < s.length then .inr (2, at') else .inl (numB (s.take 8), os)) := Lib.hid (by unfold refDecB; rw [if_neg (by omega)]; rfl)
  have h0 : RefVerRel w w.heap.size s (.int .i64 0) ((((w.alloc (.cells #[.int .u64 0, .slice none 0 0] 46)).alloc (.cells #[.int .i64 0, .int .i64 0] 53)).alloc (.cells #[.int .u64 0, .slice none 0 0] 46)).alloc (.cells #[.int .u64 0, .slice none 0 0] 46)) := by
    have X0 := heap_new w (.cells #[.int .u64 0, .slice none 0 0] 46)
    have X1 := heap_new (w.alloc (.cells #[.int .u64 0, .slice none 0 0] 46)) (.cells #[.int .i64 0, .int .i64 0] 53)
    have X2 := heap_new ((w.alloc (.cells #[.int .u64 0, .slice none 0 0] 46)).alloc (.cells #[.int .i64 0, .int .i64 0] 53)) (.cells #[.int .u64 0, .slice none 0 0] 46)
    have X3 := heap_new (((w.alloc (.cells #[.int .u64 0, .slice none 0 0] 46)).alloc (.cells #[.int .i64 0, .int .i64 0] 53)).alloc (.cells #[.int .u64 0, .slice none 0 0] 46)) (.cells #[.int .u64 0, .slice none 0 0] 46)
    simp only [World.size_alloc] at X1 X2 X3
    exact ⟨0, by omega, rfl, heap_old _ _ (heap_old _ _ (heap_old _ _ X0)), heap_old _ _ (heap_old _ _ X1), heap_old _ _ X2, X3, (((((Below.refl _ w).alloc (Nat.le_refl _) _).alloc (by simp) _).alloc (by simp <;> omega) _).alloc (by simp <;> omega) _)⟩
  go_enter Tryd.func40, Tryd.ntmps40
  go_wp2
  go_loopw [6] (fun i wr => RefVerRel w w.heap.size s i wr) (fun i _ => 8 - (intOf i).toNat)
  case atStart => exact h0
  case round =>
    clear h0
    obtain ⟨k, hk, rfl, R0, F0, N0, D0, hbr⟩ := hrel
    have d0 := cell_of_row _ _ 0 _ _ _ D0
    have fd0 := frozen_of_row _ _ 0 _ _ D0
    have hlD := block_lt D0
    have HR := Lib.hid R0
    have HF := Lib.hid F0
    have HN := Lib.hid N0
    have HD := Lib.hid D0
    clear R0 F0 N0 D0
    by_cases hk8 : k < 8
    · have hk8' : (k : Int) < 8 := by omega
      have hlt := numB_lt k s (by omega)
      have hle : numB (s.take k) < 256 ^ 7 := Nat.lt_of_lt_of_le hlt (Nat.pow_le_pow_right (by decide) (by omega))
      have H := Lib.hid (numB_take s k (by omega))
      obtain ⟨x, hx⟩ : ∃ x, s[k]'(by omega) = x := ⟨_, rfl⟩
      have i0 : ∀ w, (Instr.index 9 (.string ⟨s.toArray⟩) (.int .i64 (k : Int))).run Tryd.prog w = .ok (.int .u8 x.toNat) w := fun w => run_index_str Tryd.underlying9 _ _ _ x (by omega) (by rw [Int.toNat_natCast, List.getElem?_eq_getElem (by omega), hx]) w
      rw [hx] at H
      have hxb := x.toNat_lt
      clear hx hlt
      generalize numB (s.take k) = v at *
      have hv : v < 72057594037927936 := hle
      clear hle
      go_wp2
      go_region
      go_wp2
      refine ⟨RefVerRel.step hk8 (Nat.le_refl _) HR.out HF.out HN.out HD.out hbr H.out _ (by omega), ?_⟩
      simp [intOf]
      omega
    · obtain rfl : k = 8 := by omega
      clear hk hk8
      have hvlt := numB_lt 8 s (by omega)
      obtain ⟨v, hv⟩ : ∃ v, numB (s.take 8) = v := ⟨_, rfl⟩
      have hv64 : v < 18446744073709551616 := by rw [hv] at hvlt; exact hvlt
      rw [hv] at HC HD d0
      clear hv hvlt
      have n0 := cell_of_row _ _ 0 _ _ _ HN.out
      have n1 := cell_of_row _ _ 1 _ _ _ HN.out
      have r0 := cell_of_row _ _ 0 _ _ _ HR.out
      have r1 := cell_of_row _ _ 1 _ _ _ HR.out
      have f0 := cell_of_row _ _ 0 _ _ _ HF.out
      have f1 := cell_of_row _ _ 1 _ _ _ HF.out
      have fr0 := frozen_of_row _ _ 0 _ _ HR.out
      have fr1 := frozen_of_row _ _ 1 _ _ HR.out
      have ff0 := frozen_of_row _ _ 0 _ _ HF.out
      have ff1 := frozen_of_row _ _ 1 _ _ HF.out
      have hlR := block_lt HR.out
      have hlF := block_lt HF.out
      have hlN := block_lt HN.out
      have HV := Lib.hid (fun W => refIsVersion_any v W hv64)
      clear hv64
      cases hver : isVersionB v with
      | false =>
        have HE : Hid (refDecB s = .inr (4, 0)) := Lib.hid (by rw [HC.out, if_pos hver])
        have x := set22_at (show w.heap.size ≠ w.heap.size + 1 by omega) HR.out HF.out (.int .u64 0) (.slice none 0 0) (.int .i64 4) (.int .i64 0)
        have hB := set22_below hbr (show w.heap.size ≤ w.heap.size by omega) (show w.heap.size ≤ w.heap.size + 1 by omega) (.int .u64 0) (.slice none 0 0) (.int .i64 4) (.int .i64 0)
        unfold set22 at x hB
        obtain ⟨x0, x1, x2, x3⟩ := x
        rw [hver] at HV
        clear hver HC
        go_wp2_with (go_at_call 60; refine (HV.out _).mono ?_; rintro e w4 ⟨rfl, rfl⟩)
        refine bodyPost_ret (v := .tuple #[.agg #[.int .u64 0, .slice none 0 0], .agg #[.int .i64 4, .int .i64 0]]) (by simp [results, Tryd.results40, go_sem, x0, x1, x2, x3]) rfl (RefDecPost.bad hB HE.out rfl)
      | true =>
        have HC1 := HC.out
        rw [if_neg (by rw [hver]; decide)] at HC1
        rw [hver] at HV
        clear hver HC
        by_cases h9 : s.length < 9
        · have HE : Hid (refDecB s = .inr (1, 8)) := Lib.hid (by rw [HC1, if_pos h9])
          have h9' : (s.length : Int) < 9 := by omega
          have x := set22_at (show w.heap.size ≠ w.heap.size + 1 by omega) HR.out HF.out (.int .u64 0) (.slice none 0 0) (.int .i64 1) (.int .i64 8)
          have hB := set22_below hbr (show w.heap.size ≤ w.heap.size by omega) (show w.heap.size ≤ w.heap.size + 1 by omega) (.int .u64 0) (.slice none 0 0) (.int .i64 1) (.int .i64 8)
          unfold set22 at x hB
          obtain ⟨x0, x1, x2, x3⟩ := x
          clear HC1
          go_wp2_with (go_at_call 60; refine (HV.out _).mono ?_; rintro e w4 ⟨rfl, rfl⟩)
          refine bodyPost_ret (v := .tuple #[.agg #[.int .u64 0, .slice none 0 0], .agg #[.int .i64 1, .int .i64 8]]) (by simp [results, Tryd.results40, go_sem, x0, x1, x2, x3]) rfl (RefDecPost.bad hB HE.out rfl)
        · rw [if_neg h9] at HC1
          have h9' : ¬ (s.length : Int) < 9 := by omega
          obtain ⟨x, hx⟩ : ∃ x, s[8]'(by omega) = x := ⟨_, rfl⟩
          have i0 : ∀ w, (Instr.index 9 (.string ⟨s.toArray⟩) (.int .i64 8)).run Tryd.prog w = .ok (.int .u8 x.toNat) w := fun w => run_index_str Tryd.underlying9 _ _ _ x (by omega) (by rw [show (8 : Int).toNat = 8 from rfl, List.getElem?_eq_getElem (by omega), hx]) w
          have hxd : (s.drop 8).headD 0 = x := by rw [List.drop_eq_getElem_cons (by omega)]; exact hx
          rw [hxd] at HC1
          have hxb := x.toNat_lt
          clear hx hxd
          generalize x.toNat = n at *
          by_cases hn : n < 1 ∨ 8 < n
          · have HE : Hid (refDecB s = .inr (5, 8)) := Lib.hid (by rw [HC1, if_pos hn])
            have y := set22_at (show w.heap.size ≠ w.heap.size + 1 by omega) HR.out HF.out (.int .u64 0) (.slice none 0 0) (.int .i64 5) (.int .i64 8)
            have hB := set22_below hbr (show w.heap.size ≤ w.heap.size by omega) (show w.heap.size ≤ w.heap.size + 1 by omega) (.int .u64 0) (.slice none 0 0) (.int .i64 5) (.int .i64 8)
            unfold set22 at y hB
            obtain ⟨x0, x1, x2, x3⟩ := y
            clear HC1
            have hn' : (n : Int) < 1 ∨ ((¬ (n : Int) < 1) ∧ (8 : Int) < n) := by omega
            clear hn
            rcases hn' with hn | ⟨hn1, hn⟩
            all_goals
              go_wp2_with (go_at_call 60; refine (HV.out _).mono ?_; rintro e w4 ⟨rfl, rfl⟩)
              refine bodyPost_ret (v := .tuple #[.agg #[.int .u64 0, .slice none 0 0], .agg #[.int .i64 5, .int .i64 8]]) (by simp [results, Tryd.results40, go_sem, x0, x1, x2, x3]) rfl (RefDecPost.bad hB HE.out rfl)
          · rw [if_neg hn] at HC1
            have HC2 := Lib.hid HC1
            have hn1 : ¬ (n : Int) < 1 := by omega
            have hn2 : ¬ (8 : Int) < n := by omega
            have hn8 : n ≤ 8 := by omega
            clear HC1 hn hxb
            go_wp2_with (go_at_call 60; refine (HV.out _).mono ?_; rintro e w4 ⟨rfl, rfl⟩)
            have h1 : RefDecRel w w.heap.size n v s (.int .i64 9) (.int .i64 0) wr := ⟨0, 9, [], _, Nat.zero_le _, rfl, rfl, by omega, rfl, rfl, HR.out, HF.out, HN.out, HD.out, OwnS.nil _ _ _, hbr⟩
            clear i0 d0 fd0 n0 n1 r0 r1 f0 f1 fr0 fr1 ff0 ff1 hlR hlF hlN hlD HR HF HN HD hbr HV h9
            go_loopw [9, 10] (fun at' i wr => RefDecRel w w.heap.size n v s at' i wr) (fun _ i _ => n - (intOf i).toNat)
            case atStart => exact h1
            case round =>
              clear h1
              obtain ⟨k, p, os, sv, hk, rfl, rfl, hp, hol, hcs, R0, F0, N0, D0, hown, hbr⟩ := hrel
              obtain ⟨sa, scap, rfl⟩ := hown.shape
              have hos : os.length ≤ 8 := by omega
              have HOL := Lib.hid hol
              have HCS := Lib.hid hcs
              have HO := Lib.hid hown
              have HR := Lib.hid R0
              have HF := Lib.hid F0
              have HN := Lib.hid N0
              have HD := Lib.hid D0
              have hlR := block_lt R0
              have hlF := block_lt F0
              have hlN := block_lt N0
              have hlD := block_lt D0
              have hsr := hbr.size
              clear hol hcs hown R0 F0 N0 D0
              by_cases hkn : k < n
              · have hkn' : (k : Int) < n := by omega
                have d1 := cell_of_row _ _ 1 _ _ _ HD.out
                go_wp2_with fail
                refine (refChange_any s p (.slice sa os.length scap) os _ hl hp HO.out.ops (by omega)).mono ?_
                rintro e w1 ⟨⟨cv, rfl, hcv⟩, hb1⟩
                clear d1
                have R1 := Lib.hid (below_at hb1 hlR HR.out)
                have F1 := Lib.hid (below_at hb1 hlF HF.out)
                have N1 := Lib.hid (below_at hb1 hlN HN.out)
                have D1 := Lib.hid (below_at hb1 hlD HD.out)
                have HO1 := Lib.hid (HO.out.below hb1)
                have b1 : Below w.heap.size w w1 := hbr.trans (hb1.mono hsr)
                have hs1 := hb1.size
                unfold changeV at hcv
                cases hc : changeB s p (keysOf os) with
                | inr f =>
                  obtain ⟨fk, fp⟩ := f
                  rw [hc] at hcv
                  obtain ⟨⟨kd, T, KB, VB⟩, rfl⟩ := hcv
                  have hfk := (changeB_at hc hp).1
                  simp only at hfk
                  have HE : Hid (refDecB s = .inr (fk, fp)) := Lib.hid (by rw [HC2.out, HCS.out, show n - k = (n - (k + 1)) + 1 by omega, changesB, hc])
                  have hne : ((fk : Int) != 0) = true := by rw [bne_iff_ne]; omega
                  have n0 := cell_of_row _ _ 0 _ _ _ N1.out
                  have n1 := cell_of_row _ _ 1 _ _ _ N1.out
                  have fr0 := frozen_of_row _ _ 0 _ _ R1.out
                  have fr1 := frozen_of_row _ _ 1 _ _ R1.out
                  have ff0 := frozen_of_row _ _ 0 _ _ F1.out
                  have ff1 := frozen_of_row _ _ 1 _ _ F1.out
                  have r0 := cell_of_row _ _ 0 _ _ _ R1.out
                  have r1 := cell_of_row _ _ 1 _ _ _ R1.out
                  have f0 := cell_of_row _ _ 0 _ _ _ F1.out
                  have f1 := cell_of_row _ _ 1 _ _ _ F1.out
                  have hgR := block_lt R1.out
                  have hgF := block_lt F1.out
                  have hgN := block_lt N1.out
                  have x := set22_at (show w.heap.size ≠ w.heap.size + 1 by omega) R1.out F1.out (.int .u64 0) (.slice none 0 0) (.int .i64 fk) (.int .i64 fp)
                  have hB := set22_below b1 (show w.heap.size ≤ w.heap.size by omega) (show w.heap.size ≤ w.heap.size + 1 by omega) (.int .u64 0) (.slice none 0 0) (.int .i64 fk) (.int .i64 fp)
                  obtain ⟨x0', x1', x2', x3'⟩ := x
                  have al : ∀ {a : Addr} {u : Value}, (set22 w1 w.heap.size (w.heap.size + 1) (.int .u64 0) (.slice none 0 0) (.int .i64 fk) (.int .i64 fp)).cell? a = some u → (((set22 w1 w.heap.size (w.heap.size + 1) (.int .u64 0) (.slice none 0 0) (.int .i64 fk) (.int .i64 fp)).alloc (.cells #[.int .i64 kd, .int .i64 T, .string ⟨KB.toArray⟩, .string ⟨VB.toArray⟩] 43)).alloc (.cells #[.int .i64 fk, .int .i64 fp] 53)).cell? a = some u := fun h => cellAl _ (cellAl _ h)
                  have x0 := al x0'
                  have x1 := al x1'
                  have x2 := al x2'
                  have x3 := al x3'
                  have hB2 := (hB.alloc (hB.size) (.cells #[.int .i64 kd, .int .i64 T, .string ⟨KB.toArray⟩, .string ⟨VB.toArray⟩] 43)).alloc (by have := hB.size; simp; omega) (.cells #[.int .i64 fk, .int .i64 fp] 53)
                  clear x0' x1' x2' x3' al hB
                  unfold set22 at x0 x1 x2 x3 hB2
                  unfold opV
                  clear hc hfk
                  go_wp2
                  go_region
                  go_wp2
                  refine bodyPost_ret (v := .tuple #[.agg #[.int .u64 0, .slice none 0 0], .agg #[.int .i64 fk, .int .i64 fp]]) (by simp [results, Tryd.results40, go_sem, x0, x1, x2, x3]) rfl (RefDecPost.bad hB2.drew HE.out rfl)
                | inl x =>
                  obtain ⟨⟨kd, T, KB, VB⟩, to⟩ := x
                  rw [hc] at hcv
                  obtain rfl := hcv
                  have hto : to ≤ s.length := by
                    obtain ⟨-, h1, h2⟩ := changeB_inl hc
                    have h3 := congrArg List.length h1
                    simp only [List.length_drop, List.length_append] at h3
                    omega
                  have HCH := Lib.hid hc
                  clear hc
                  have d1 := cell_of_row _ _ 1 _ _ _ D1.out
                  have hgD := block_lt D1.out
                  have hgN := block_lt N1.out
                  have hgF := block_lt F1.out
                  have hgR := block_lt R1.out
                  have HOQ : Hid (OwnS (((w1.alloc (.cells #[.int .i64 kd, .int .i64 T, .string ⟨KB.toArray⟩, .string ⟨VB.toArray⟩] 43)).alloc (.cells #[.int .i64 0, .int .i64 0] 53)).alloc (.cells #[.int .i64 kd, .int .i64 T, .string ⟨KB.toArray⟩, .string ⟨VB.toArray⟩] 43)) (w.heap.size + 4) 4 (.slice sa os.length scap) os.length (opCells os)) := Lib.hid (HO1.out.below ((((Below.refl _ w1).alloc (Nat.le_refl _) _).alloc (by simp) _).alloc (by simp <;> omega) _))
                  have HONE := Lib.hid (oneOp_at ((w1.alloc (.cells #[.int .i64 kd, .int .i64 T, .string ⟨KB.toArray⟩, .string ⟨VB.toArray⟩] 43)).alloc (.cells #[.int .i64 0, .int .i64 0] 53)) ⟨kd, T, KB, VB⟩)
                  simp only [World.size_alloc] at HONE
                  have hB3 : Below w.heap.size w (((w1.alloc (.cells #[.int .i64 kd, .int .i64 T, .string ⟨KB.toArray⟩, .string ⟨VB.toArray⟩] 43)).alloc (.cells #[.int .i64 0, .int .i64 0] 53)).alloc (.cells #[.int .i64 kd, .int .i64 T, .string ⟨KB.toArray⟩, .string ⟨VB.toArray⟩] 43)) := ((b1.alloc (by omega) _).alloc (by simp <;> omega) _).alloc (by simp <;> omega) _
                  have up : ∀ {j : Nat} {X : Obj}, w1.heap[j]? = some X → (((w1.alloc (.cells #[.int .i64 kd, .int .i64 T, .string ⟨KB.toArray⟩, .string ⟨VB.toArray⟩] 43)).alloc (.cells #[.int .i64 0, .int .i64 0] 53)).alloc (.cells #[.int .i64 kd, .int .i64 T, .string ⟨KB.toArray⟩, .string ⟨VB.toArray⟩] 43)).heap[j]? = some X := fun h => heap_old _ _ (heap_old _ _ (heap_old _ _ h))
                  have R2 := Lib.hid (up R1.out)
                  have F2 := Lib.hid (up F1.out)
                  have N2 := Lib.hid (up N1.out)
                  have D2 := Lib.hid (up D1.out)
                  clear up
                  unfold opV
                  go_wp2_with (at_builtin; refine wpList_append_ops rfl (.tmp 76) (.tmp 78) rfl (w.heap.size + 4) (.slice sa os.length scap) os rfl (by exact HOQ.out) [⟨kd, T, KB, VB⟩] (by exact HONE.out) (by simp; omega) (by simp; omega) ?_; intro v8 w8 hown8 hg8 hb8 hap8; obtain ⟨sa8, cap8, rfl⟩ := hown8.shape; have D8 := Lib.hid (below_at hb8 (by omega) D2.out); have y1 : w8.cell? ⟨w.heap.size + 1 + 1 + 1, 1, none⟩ = some (.slice sa os.length scap) := cell_of_row _ _ 1 _ _ _ D8.out; have z1 := frozen_of_row _ _ 1 _ _ D8.out; have hlD8 := block_lt D8.out)
                  refine ⟨RefDecRel.step hkn hto HOL.out HCS.out HCH.out (below_at hb8 (by omega) R2.out) (below_at hb8 (by omega) F2.out) (below_at hb8 (by omega) N2.out) D8.out hown8 (hB3.trans (hb8.mono (by omega))), ?_⟩
                  simp [intOf]
                  omega
              · obtain rfl : k = n := by omega
                have hkn' : ¬ (k : Int) < k := by omega
                have HC3 : Hid (refDecB s = if p < s.length then .inr (2, p) else .inl (v, os)) := Lib.hid (by rw [HC2.out, HCS.out, Nat.sub_self]; rfl)
                have n0 := cell_of_row _ _ 0 _ _ _ HN.out
                have n1 := cell_of_row _ _ 1 _ _ _ HN.out
                have d0 := cell_of_row _ _ 0 _ _ _ HD.out
                have d1 := cell_of_row _ _ 1 _ _ _ HD.out
                have fr0 := frozen_of_row _ _ 0 _ _ HR.out
                have fr1 := frozen_of_row _ _ 1 _ _ HR.out
                have ff0 := frozen_of_row _ _ 0 _ _ HF.out
                have ff1 := frozen_of_row _ _ 1 _ _ HF.out
                have r0 := cell_of_row _ _ 0 _ _ _ HR.out
                have r1 := cell_of_row _ _ 1 _ _ _ HR.out
                have f0 := cell_of_row _ _ 0 _ _ _ HF.out
                have f1 := cell_of_row _ _ 1 _ _ _ HF.out
                by_cases hps : p < s.length
                · have hps' : (p : Int) < s.length := by omega
                  have HE : Hid (refDecB s = .inr (2, p)) := Lib.hid (by rw [HC3.out, if_pos hps])
                  have x := set22_at (show w.heap.size ≠ w.heap.size + 1 by omega) HR.out HF.out (.int .u64 0) (.slice none 0 0) (.int .i64 2) (.int .i64 p)
                  have hB := set22_below hbr (show w.heap.size ≤ w.heap.size by omega) (show w.heap.size ≤ w.heap.size + 1 by omega) (.int .u64 0) (.slice none 0 0) (.int .i64 2) (.int .i64 p)
                  unfold set22 at x hB
                  obtain ⟨x0, x1, x2, x3⟩ := x
                  go_wp2
                  refine bodyPost_ret (v := .tuple #[.agg #[.int .u64 0, .slice none 0 0], .agg #[.int .i64 2, .int .i64 p]]) (by simp [results, Tryd.results40, go_sem, x0, x1, x2, x3]) rfl (RefDecPost.bad hB HE.out rfl)
                · have hps' : ¬ (p : Int) < s.length := by omega
                  have HE : Hid (refDecB s = .inl (v, os)) := Lib.hid (by rw [HC3.out, if_neg hps])
                  have x := set22_at (show w.heap.size ≠ w.heap.size + 1 by omega) HR.out HF.out (.int .u64 v) (.slice sa os.length scap) (.int .i64 0) (.int .i64 0)
                  have hB := set22_below hbr (show w.heap.size ≤ w.heap.size by omega) (show w.heap.size ≤ w.heap.size + 1 by omega) (.int .u64 v) (.slice sa os.length scap) (.int .i64 0) (.int .i64 0)
                  have hO2 := (set22_own HO.out (show w.heap.size < w.heap.size + 4 by omega) (show w.heap.size + 1 < w.heap.size + 4 by omega) (.int .u64 v) (.slice sa os.length scap) (.int .i64 0) (.int .i64 0)).mono (show w.heap.size ≤ w.heap.size + 4 by omega)
                  unfold set22 at x hB hO2
                  obtain ⟨x0, x1, x2, x3⟩ := x
                  go_wp2
                  refine bodyPost_ret (v := .tuple #[.agg #[.int .u64 v, .slice sa os.length scap], .agg #[.int .i64 0, .int .i64 0]]) (by simp [results, Tryd.results40, go_sem, x0, x1, x2, x3]) rfl (RefDecPost.good hB HE.out rfl hO2)
theorem refDecode_any (s : List UInt8) (w : World) (hl : s.length ≤ maxB) :
    Calls Tryd.prog 40 #[.string ⟨s.toArray⟩] w (RefDecPost s w) := by
  by_cases h8 : s.length < 8
  · exact refDecode_short s w h8
  · exact refDecode_long s w hl (by omega)
end Go.Proofs.YtkkfmkhbdoeglaaDoor
