/- The contract of package plain's Unseal. -/
import Derived.Test.YtkkfmkhbdoeglaaGreatDoorParts
import Derived.Test.YtkkfmkhbdoeglaaGreatDoorPlainA
namespace Go.Proofs.YtkkfmkhbdoeglaaGreatDoor
open Go.RowKit

/-- a plain fault as a value -/
def faultV (k n s : Int) : Value := .agg #[.int .i64 k, .int .i64 n, .int .i64 s]
/-- what plain.Unseal tells of a frame -/
def UnsealV (l : List UInt8) : Value :=
  match unsealB l with
  | .inl (k, p) => .tuple #[.int .i64 k.toNat, .string ⟨p.toArray⟩, faultV 0 0 0]
  | .inr (k, n) => .tuple #[.int .i64 0, .string ⟨[].toArray⟩, faultV k n 0]

theorem unsealB_kind (l : List UInt8) {k n : Nat} (h : unsealB l = .inr (k, n)) : 1 ≤ k ∧ k ≤ 14 := by
  by_cases hl : l.length < 5
  · unfold unsealB at h
    rw [if_pos hl] at h
    cases h; omega
  · obtain ⟨x, p, a, b, c, d, rfl⟩ := split_frame l hl
    rw [unsealB_long] at h
    split at h
    · cases h
    · cases h; omega
theorem Unseal_good (v : Value) (l : List UInt8) (k : UInt8) (p : List UInt8) (w : World) (hv : BytesAt w v l) (hl : l.length ≤ maxB) (hu : unsealB l = .inl (k, p)) :
    Calls Tryz.prog 52 #[v] w fun e w' => ∃ v', e = .returned (.tuple #[.int .u8 k.toNat, v', .nilIface]) ∧ OwnS w' w.heap.size 1 v' p.length (u8s p) ∧ Below w.heap.size w w' :=
  (Unseal_any v l w hv hl).mono fun e w' ⟨hb, h⟩ => by
    rw [hu] at h
    obtain ⟨v', h1, h2⟩ := h
    exact ⟨v', h1, h2, hb⟩
theorem Unseal_bad (v : Value) (l : List UInt8) (k n : Nat) (w : World) (hv : BytesAt w v l) (hl : l.length ≤ maxB) (hu : unsealB l = .inr (k, n)) :
    Calls Tryz.prog 52 #[v] w fun e w' => ∃ ev, e = .returned (.tuple #[.int .u8 0, .slice none 0 0, ev]) ∧ FaultAt w' w.heap.size ev k n ∧ Below w.heap.size w w' :=
  (Unseal_any v l w hv hl).mono fun e w' ⟨hb, h⟩ => by
    rw [hu] at h
    obtain ⟨v', h1, h2⟩ := h
    exact ⟨v', h1, h2, hb⟩
set_option maxRecDepth 100000 in
set_option maxHeartbeats 400000 in
theorem plainUnseal_good (l : List UInt8) (k : UInt8) (p : List UInt8) (w : World) (hl : l.length ≤ maxB) (hu : unsealB l = .inl (k, p)) :
    Calls Tryz.prog 19 #[.string ⟨l.toArray⟩] w fun e w' => e = .returned (.tuple #[.int .i64 k.toNat, .string ⟨p.toArray⟩, faultV 0 0 0]) ∧ Below w.heap.size w w' := by
  have HU := Lib.hid hu
  clear hu
  have hk := k.toNat_lt
  go_enter Tryz.func19, Tryz.ntmps19
  go_wp2_with (first
    | (refine wpList_bytes_of rfl (.tmp 9) rfl l rfl hl ?_; intro cap w1 hown1 hb1 hs1; simp only [World.size_alloc] at hown1 hb1 hs1)
    | (go_at_call 52; refine (Unseal_good _ l k p _ hown1.bytes hl HU.out).mono ?_; rintro e w2 ⟨v2, rfl, hown2, hb2⟩))
  have hr0 : w2.heap[w.heap.size]? = some (.cells #[.int .i64 0, .int .i64 0, .int .i64 0] 38 (0, 0)) := below_at hb2 (by omega) (below_at hb1 (by omega) (heap_new w _))
  have hs2 := hb2.size
  have hw2 : Below w.heap.size w w2 := ((Below.refl _ w).alloc (Nat.le_refl _) _).trans ((hb1.mono (by omega)).trans (hb2.mono (by omega)))
  have HR := Lib.hid hr0
  have hkw : IntKind.i64.wrap (k.toNat : Int) = (k.toNat : Int) := IntWalk.i64_in _ (by omega)
  have hap := hown2.apart (b := w.heap.size) (by omega)
  clear hr0
  go_region_held3 (fun w' => Sem.run Tryz.prog (convert 59 9 v2) w' = .ok (.string ⟨p.toArray⟩) w')
    (first
      | exact BytesAt.convert (w := w2.drew) hown2.bytes
      | exact BytesAt.convert hy
      | exact BytesAt.convert (((hy.setCell_other _ _ hap).setCell_other _ _ hap).setCell_other _ _ hap))
    ((go_at_call 45; refine (parts_nil _).mono ?_; rintro e w3 ⟨rfl, hb3⟩;
      have hy : BytesAt w3 v2 p := BytesAt.below (w := w2.drew) hown2.bytes hb3;
      have hc0 : w3.cell? ⟨w.heap.size, 0, none⟩ = some (.int .i64 0) := cell_of_row _ _ 0 _ _ _ (below_at hb3 (block_lt HR.out) HR.out);
      have hc1 : w3.cell? ⟨w.heap.size, 1, none⟩ = some (.int .i64 0) := cell_of_row _ _ 1 _ _ _ (below_at hb3 (block_lt HR.out) HR.out);
      have hc2 : w3.cell? ⟨w.heap.size, 2, none⟩ = some (.int .i64 0) := cell_of_row _ _ 2 _ _ _ (below_at hb3 (block_lt HR.out) HR.out);
      have hf0 : w3.frozen? ⟨w.heap.size, 0, none⟩ = false := frozen_of_row _ _ 0 _ _ (below_at hb3 (block_lt HR.out) HR.out);
      have hf1 : w3.frozen? ⟨w.heap.size, 1, none⟩ = false := frozen_of_row _ _ 1 _ _ (below_at hb3 (block_lt HR.out) HR.out);
      have hf2 : w3.frozen? ⟨w.heap.size, 2, none⟩ = false := frozen_of_row _ _ 2 _ _ (below_at hb3 (block_lt HR.out) HR.out)))
  go_wp2
  refine bodyPost_ret (v := .tuple #[.int .i64 k.toNat, .string ⟨p.toArray⟩, .agg #[.int .i64 0, .int .i64 0, .int .i64 0]]) (by simp [results, Tryz.results19, go_sem, hc0, hc1, hc2]) rfl ⟨rfl, ?_⟩
  have hb3' : Below w.heap.size w2 w3 := ⟨hb3.os, hb3.tape, hb3.output, hb3.size, fun k hk => hb3.block k (Nat.lt_of_lt_of_le hk hw2.size)⟩
  exact (((hw2.trans hb3').setCell (p := ⟨w.heap.size, 0, none⟩) (Nat.le_refl _) _).setCell (p := ⟨w.heap.size, 1, none⟩) (Nat.le_refl _) _).setCell (p := ⟨w.heap.size, 2, none⟩) (Nat.le_refl _) _
set_option maxRecDepth 100000 in
set_option maxHeartbeats 400000 in
theorem plainUnseal_bad (l : List UInt8) (k n : Nat) (w : World) (hg : ErrVar w) (hl : l.length ≤ maxB) (hu : unsealB l = .inr (k, n)) :
    Calls Tryz.prog 19 #[.string ⟨l.toArray⟩] w fun e w' => e = .returned (.tuple #[.int .i64 0, .string ⟨[].toArray⟩, faultV k n 0]) ∧ Below w.heap.size w w' := by
  have HU := Lib.hid hu
  clear hu
  have hk := unsealB_kind l HU.out
  go_enter Tryz.func19, Tryz.ntmps19
  go_wp2_with (first
    | (refine wpList_bytes_of rfl (.tmp 9) rfl l rfl hl ?_; intro cap w1 hown1 hb1 hs1; simp only [World.size_alloc] at hown1 hb1 hs1)
    | (go_at_call 52; refine (Unseal_bad _ l k n _ hown1.bytes hl HU.out).mono ?_; rintro e w2 ⟨ev, rfl, ⟨g, rfl, hg2, hfa⟩, hb2⟩; have HF := Lib.hid hfa; clear hfa))
  have hr0 : w2.heap[w.heap.size]? = some (.cells #[.int .i64 0, .int .i64 0, .int .i64 0] 38 (0, 0)) := below_at hb2 (by omega) (below_at hb1 (by omega) (heap_new w _))
  have hs2 := hb2.size
  have hw2 : Below w.heap.size w w2 := ((Below.refl _ w).alloc (Nat.le_refl _) _).trans ((hb1.mono (by omega)).trans (hb2.mono (by omega)))
  have HR := Lib.hid hr0
  have hkw : IntKind.i64.wrap 0 = 0 := by decide
  clear hr0
  go_region_held3 (fun w' => Sem.run Tryz.prog (convert 59 9 (.slice none 0 0)) w' = .ok (.string ⟨[].toArray⟩) w')
    (exact BytesAt.convert (BytesAt.nil _ _ _))
    ((go_at_call 45; refine (parts_fault g k n _ (by exact (hg.new hw2.drew)) (by exact HF.out) (by omega) (by omega)).mono ?_; rintro e w3 ⟨rfl, hb3⟩;
      have hc0 : w3.cell? ⟨w.heap.size, 0, none⟩ = some (.int .i64 0) := cell_of_row _ _ 0 _ _ _ (below_at hb3 (block_lt HR.out) HR.out);
      have hc1 : w3.cell? ⟨w.heap.size, 1, none⟩ = some (.int .i64 0) := cell_of_row _ _ 1 _ _ _ (below_at hb3 (block_lt HR.out) HR.out);
      have hc2 : w3.cell? ⟨w.heap.size, 2, none⟩ = some (.int .i64 0) := cell_of_row _ _ 2 _ _ _ (below_at hb3 (block_lt HR.out) HR.out);
      have hf0 : w3.frozen? ⟨w.heap.size, 0, none⟩ = false := frozen_of_row _ _ 0 _ _ (below_at hb3 (block_lt HR.out) HR.out);
      have hf1 : w3.frozen? ⟨w.heap.size, 1, none⟩ = false := frozen_of_row _ _ 1 _ _ (below_at hb3 (block_lt HR.out) HR.out);
      have hf2 : w3.frozen? ⟨w.heap.size, 2, none⟩ = false := frozen_of_row _ _ 2 _ _ (below_at hb3 (block_lt HR.out) HR.out)))
  go_wp2
  refine bodyPost_ret (v := .tuple #[.int .i64 0, .string ⟨[].toArray⟩, .agg #[.int .i64 k, .int .i64 n, .int .i64 0]]) (by simp [results, Tryz.results19, go_sem, hc0, hc1, hc2]) rfl ⟨rfl, ?_⟩
  have hb3' : Below w.heap.size w2 w3 := ⟨hb3.os, hb3.tape, hb3.output, hb3.size, fun k hk => hb3.block k (Nat.lt_of_lt_of_le hk hw2.size)⟩
  exact (((hw2.trans hb3').setCell (p := ⟨w.heap.size, 0, none⟩) (Nat.le_refl _) _).setCell (p := ⟨w.heap.size, 1, none⟩) (Nat.le_refl _) _).setCell (p := ⟨w.heap.size, 2, none⟩) (Nat.le_refl _) _
theorem plainUnseal_any (l : List UInt8) (w : World) (hg : ErrVar w) (hl : l.length ≤ maxB) :
    Calls Tryz.prog 19 #[.string ⟨l.toArray⟩] w fun e w' => e = .returned (UnsealV l) ∧ Below w.heap.size w w' := by
  cases h : unsealB l with
  | inl x =>
    refine (plainUnseal_good l x.1 x.2 w hl h).mono fun e w' ⟨he, hb⟩ => ⟨?_, hb⟩
    unfold UnsealV
    rw [h]
    exact he
  | inr x =>
    refine (plainUnseal_bad l x.1 x.2 w hg hl h).mono fun e w' ⟨he, hb⟩ => ⟨?_, hb⟩
    unfold UnsealV
    rw [h]
    exact he
end Go.Proofs.YtkkfmkhbdoeglaaGreatDoor

/- What the laws' pick answers, in plain Lean. No condition. -/
namespace Go.Proofs.YtkkfmkhbdoeglaaGreatDoor
open Go.RowKit

/-- which of n things a raw number speaks of -/
def pickN (c n : Int) : Int := if c < 0 then (-(c + 1)) % n else c % n
theorem pickN_bound (c n : Int) (hn : 0 < n) : 0 ≤ pickN c n ∧ pickN c n < n := by
  unfold pickN
  split
  · exact ⟨Int.emod_nonneg _ (by omega), Int.emod_lt_of_pos _ hn⟩
  · exact ⟨Int.emod_nonneg _ (by omega), Int.emod_lt_of_pos _ hn⟩
end Go.Proofs.YtkkfmkhbdoeglaaGreatDoor
