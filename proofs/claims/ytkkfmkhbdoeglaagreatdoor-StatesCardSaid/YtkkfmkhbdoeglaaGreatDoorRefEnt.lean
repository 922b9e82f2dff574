/- The contract of package overlayref's entry. No condition. -/
import Derived.Test.YtkkfmkhbdoeglaaGreatDoorDecAll
import Derived.Test.YtkkfmkhbdoeglaaGreatDoorDecAllW
import Derived.Test.YtkkfmkhbdoeglaaGreatDoorRefWith
import Derived.StillTailTactics
import Derived.BigQuiet
import Derived.Test.YtkkfmkhbdoeglaaGreatDoorEncAll
import Derived.Test.YtkkfmkhbdoeglaaGreatDoorPlainA
import Derived.Deep.DeepCutAuto
import Derived.Deep.RegionWith
import Derived.BigRegion
namespace Go.Proofs.YtkkfmkhbdoeglaaGreatDoor
open Go.RowKit

def entryV (s : List UInt8) (at' : Nat) (last : Option K) (v : Value) : Prop :=
  match entryB s at' last with
  | .inl (x, q) => v = .tuple #[entV x, .int .i64 (q : Int), .agg #[.int .i64 0, .int .i64 0]]
  | .inr (k, p) => ∃ x : E, v = .tuple #[entV x, .int .i64 0, .agg #[.int .i64 (k : Int), .int .i64 (p : Int)]]
/-- five stores: into a block of three cells and into one of two -/
def set32 (wr : World) (A Q : Nat) (u0 u1 u2 v0 v1 : Value) : World :=
  ((((wr.setCell ⟨A, 0, none⟩ u0).setCell ⟨A, 1, none⟩ u1).setCell ⟨A, 2, none⟩ u2).setCell ⟨Q, 0, none⟩ v0).setCell ⟨Q, 1, none⟩ v1
theorem set32_at {wr : World} {A Q : Nat} (h : A ≠ Q) {a0 a1 a2 b0 b1 : Value} {TA TQ : TypeId} (RR : wr.heap[A]? = some (.cells #[a0, a1, a2] TA (0, 0))) (QR : wr.heap[Q]? = some (.cells #[b0, b1] TQ (0, 0))) (u0 u1 u2 v0 v1 : Value) :
    (set32 wr A Q u0 u1 u2 v0 v1).cell? ⟨A, 0, none⟩ = some u0 ∧ (set32 wr A Q u0 u1 u2 v0 v1).cell? ⟨A, 1, none⟩ = some u1 ∧ (set32 wr A Q u0 u1 u2 v0 v1).cell? ⟨A, 2, none⟩ = some u2 ∧ (set32 wr A Q u0 u1 u2 v0 v1).cell? ⟨Q, 0, none⟩ = some v0 ∧ (set32 wr A Q u0 u1 u2 v0 v1).cell? ⟨Q, 1, none⟩ = some v1 := by
  have e1 := heap_setCell _ _ 2 u2 (heap_setCell _ _ 1 u1 (heap_setCell _ _ 0 u0 RR))
  have q1 : (((wr.setCell ⟨A, 0, none⟩ u0).setCell ⟨A, 1, none⟩ u1).setCell ⟨A, 2, none⟩ u2).heap[Q]? = some (.cells #[b0, b1] TQ (0, 0)) := by
    rw [Below.heap_setCell _ ⟨A, 2, none⟩ _ Q (Ne.symm h), Below.heap_setCell _ ⟨A, 1, none⟩ _ Q (Ne.symm h), Below.heap_setCell _ ⟨A, 0, none⟩ _ Q (Ne.symm h)]
    exact QR
  have q2 : (set32 wr A Q u0 u1 u2 v0 v1).heap[Q]? = some (.cells #[v0, v1] TQ (0, 0)) := heap_setCell _ _ 1 _ (heap_setCell _ _ 0 _ q1)
  have e2 : (set32 wr A Q u0 u1 u2 v0 v1).heap[A]? = some (.cells #[u0, u1, u2] TA (0, 0)) := by
    unfold set32
    rw [Below.heap_setCell _ ⟨Q, 1, none⟩ _ A h, Below.heap_setCell _ ⟨Q, 0, none⟩ _ A h]
    exact e1
  exact ⟨cell_of_row _ _ 0 _ _ _ e2, cell_of_row _ _ 1 _ _ _ e2, cell_of_row _ _ 2 _ _ _ e2, cell_of_row _ _ 0 _ _ _ q2, cell_of_row _ _ 1 _ _ _ q2⟩
theorem set32_below {B : Nat} {w0 wr : World} (h : Below B w0 wr) {A Q : Nat} (hA : B ≤ A) (hQ : B ≤ Q) (u0 u1 u2 v0 v1 : Value) : Below B w0 (set32 wr A Q u0 u1 u2 v0 v1) :=
  ((((h.setCell (p := ⟨A, 0, none⟩) hA _).setCell (p := ⟨A, 1, none⟩) hA _).setCell (p := ⟨A, 2, none⟩) hA _).setCell (p := ⟨Q, 0, none⟩) hQ _).setCell (p := ⟨Q, 1, none⟩) hQ _
set_option maxRecDepth 100000 in
set_option maxHeartbeats 4000000 in
theorem refEntry_any (s : List UInt8) (at' : Nat) (sv : Value) (us : List E) (w : World) (hs : s.length ≤ maxB) (ha : at' ≤ s.length) (hu : EntsAt w sv us) (hub : ∀ b, sv.ownBlock = some b → b < w.heap.size) (hul : us.length ≤ 1000000000) :
    Calls Tryz.prog 112 #[.string ⟨s.toArray⟩, .int .i64 (at' : Int), sv] w fun e w' => (∃ v, e = .returned v ∧ entryV s at' (us.getLast?.map (·.1)) v) ∧ Below w.heap.size w w' := by
  unfold maxB at hs
  obtain ⟨ua, ucap, rfl, hucap, -⟩ := hu.opened
  obtain ⟨w0, hw0⟩ : ∃ w0, w0 = ((w.alloc (.cells #[.int .i64 0, .string ⟨#[]⟩, .string ⟨#[]⟩] 138)).alloc (.cells #[.int .i64 0, .int .i64 0] 69)).alloc (.cells #[.int .i64 0, .string ⟨#[]⟩, .string ⟨#[]⟩] 138) := ⟨_, rfl⟩
  have HB : Hid (Below w.heap.size w w0) := Lib.hid (by rw [hw0]; exact (((Below.refl _ w).alloc (Nat.le_refl _) _).alloc (by simp) _).alloc (by simp; omega) _)
  have HR : Hid (w0.heap[w.heap.size]? = some (.cells #[.int .i64 0, .string ⟨#[]⟩, .string ⟨#[]⟩] 138 (0, 0))) := Lib.hid (by rw [hw0]; exact heap_old _ _ (heap_old _ _ (heap_new w _)))
  have HF : Hid (w0.heap[w.heap.size + 1]? = some (.cells #[.int .i64 0, .int .i64 0] 69 (0, 0))) := Lib.hid (by rw [hw0]; refine heap_old _ _ ?_; have := heap_new (w.alloc (.cells #[.int .i64 0, .string ⟨#[]⟩, .string ⟨#[]⟩] 138)) (.cells #[.int .i64 0, .int .i64 0] 69); rwa [World.size_alloc] at this)
  have HL : Hid (w0.heap[w.heap.size + 1 + 1]? = some (.cells #[.int .i64 0, .string ⟨#[]⟩, .string ⟨#[]⟩] 138 (0, 0))) := Lib.hid (by rw [hw0]; have := heap_new ((w.alloc (.cells #[.int .i64 0, .string ⟨#[]⟩, .string ⟨#[]⟩] 138)).alloc (.cells #[.int .i64 0, .int .i64 0] 69)) (.cells #[.int .i64 0, .string ⟨#[]⟩, .string ⟨#[]⟩] 138); simp only [World.size_alloc] at this; exact this)
  have HU := Lib.hid (hu.below HB.out)
  have HUN : Hid (∀ c, w.heap.size ≤ c → (Value.slice ua us.length ucap).ownBlock ≠ some c) := Lib.hid (fun c hc e => by
    have := hub c e
    omega)
  clear hu hub
  go_enter Tryz.func112, Tryz.ntmps112
  cases hd : s.drop at' with
  | nil =>
    have HE : Hid (entryB s at' (us.getLast?.map (·.1)) = .inr (1, at')) := Lib.hid (by unfold entryB; rw [hd])
    have h1 : (s.length : Int) ≤ at' := by have := congrArg List.length hd; simp at this; omega
    clear hd
    go_upto_region 2 with fail
    rw [← hw0]
    clear hw0
    have r0 := cell_of_row _ _ 0 _ _ _ HR.out
    have r1 := cell_of_row _ _ 1 _ _ _ HR.out
    have r2 := cell_of_row _ _ 2 _ _ _ HR.out
    have fr0 := frozen_of_row _ _ 0 _ _ HR.out
    have fr1 := frozen_of_row _ _ 1 _ _ HR.out
    have fr2 := frozen_of_row _ _ 2 _ _ HR.out
    have ltr := block_lt HR.out
    have f0 := cell_of_row _ _ 0 _ _ _ HF.out
    have f1 := cell_of_row _ _ 1 _ _ _ HF.out
    have ff0 := frozen_of_row _ _ 0 _ _ HF.out
    have ff1 := frozen_of_row _ _ 1 _ _ HF.out
    have ltf := block_lt HF.out
    have l0 := cell_of_row _ _ 0 _ _ _ HL.out
    have l1 := cell_of_row _ _ 1 _ _ _ HL.out
    have l2 := cell_of_row _ _ 2 _ _ _ HL.out
    have ltl := block_lt HL.out
    have x := set32_at (show w.heap.size ≠ w.heap.size + 1 by omega) HR.out HF.out (.int .i64 0) (.string ⟨#[]⟩) (.string ⟨#[]⟩) (.int .i64 1) (.int .i64 at')
    have hB := set32_below HB.out (show w.heap.size ≤ w.heap.size by omega) (show w.heap.size ≤ w.heap.size + 1 by omega) (.int .i64 0) (.string ⟨#[]⟩) (.string ⟨#[]⟩) (.int .i64 1) (.int .i64 at')
    unfold set32 at x hB
    obtain ⟨x0, x1, x2, x3, x4⟩ := x
    go_wp2_with fail
    refine bodyPost_ret (v := .tuple #[.agg #[.int .i64 0, .string ⟨#[]⟩, .string ⟨#[]⟩], .int .i64 (0), .agg #[.int .i64 1, .int .i64 at']]) (by simp [results, Tryz.results112, go_sem, x0, x1, x2, x3, x4]) rfl ⟨⟨_, rfl, ?_⟩, hB⟩
    unfold entryV
    rw [HE.out]
    exact ⟨((0, []), []), rfl⟩
  | cons t r =>
    obtain ⟨hd1, hlen, hget⟩ := drop1 hd
    have h1 : ¬ (s.length : Int) ≤ at' := by omega
    have ht8 := t.toNat_lt
    have i0 : ∀ w, (Instr.index 9 (.string ⟨s.toArray⟩) (.int .i64 (at' : Int))).run Tryz.prog w = .ok (.int .u8 t.toNat) w := fun w => run_index_str Tryz.underlying9 _ _ _ t (by omega) (by rw [Int.toNat_natCast]; exact hget) w
    have HD := Lib.hid hd
    have HD1 := Lib.hid hd1
    have hle1 : s.length ≤ at' + 1 + r.length := by omega
    have hle2 : at' + 1 + r.length ≤ s.length := by omega
    clear hd hd1 hget hlen
    go_upto_region 2 with fail
    rw [← hw0]
    clear hw0
    have l0 := cell_of_row _ _ 0 _ _ _ HL.out
    have fl0 := frozen_of_row _ _ 0 _ _ HL.out
    have ltl := block_lt HL.out
    go_upto_region 5 with fail
    have t1 : w0.grownBy (w0.setCell ⟨w.heap.size + 1 + 1, 0, none⟩ (.int .i64 t.toNat)) (some (w.heap.size + 1 + 1)) := grownBy_set (Below.refl _ w0) 0 _
    have HB1 := Lib.hid (HB.out.setCell (p := ⟨w.heap.size + 1 + 1, 0, none⟩) (by show _ ≤ w.heap.size + 1 + 1; omega) (.int .i64 t.toNat))
    have HR1 := Lib.hid ((t1.block w.heap.size (block_lt HR.out) (fun e => by have := Option.some.inj e; omega)).trans HR.out)
    have HF1 := Lib.hid ((t1.block (w.heap.size + 1) (block_lt HF.out) (fun e => by have := Option.some.inj e; omega)).trans HF.out)
    have HL1 : Hid ((w0.setCell ⟨w.heap.size + 1 + 1, 0, none⟩ (.int .i64 t.toNat)).heap[w.heap.size + 1 + 1]? = some (.cells #[.int .i64 t.toNat, .string ⟨#[]⟩, .string ⟨#[]⟩] 138 (0, 0))) := Lib.hid (heap_setCell w0 _ 0 (.int .i64 t.toNat) HL.out)
    have HU1 : Hid (EntsAt (w0.setCell ⟨w.heap.size + 1 + 1, 0, none⟩ (.int .i64 t.toNat)) (.slice ua us.length ucap) us) := Lib.hid (HU.out.setCell_other _ _ (HUN.out _ (by show w.heap.size ≤ w.heap.size + 1 + 1; omega)))
    generalize w0.setCell ⟨w.heap.size + 1 + 1, 0, none⟩ (.int .i64 t.toNat) = w1 at *
    clear HB HR HF HL HU t1 l0 fl0 ltl
    have HB := HB1
    have HR := HR1
    have HF := HF1
    have HL := HL1
    have HU := HU1
    clear HB1 HR1 HF1 HL1 HU1
    have l0 := cell_of_row _ _ 0 _ _ _ HL.out
    have ltl := block_lt HL.out
    by_cases h2 : 2 < t.toNat
    · have HE : Hid (entryB s at' (us.getLast?.map (·.1)) = .inr (6, at')) := Lib.hid (by unfold entryB; rw [HD.out]; simp only []; rw [if_pos h2])
      have h2' : (2 : Int) < t.toNat := by omega
      have r0 := cell_of_row _ _ 0 _ _ _ HR.out
      have r1 := cell_of_row _ _ 1 _ _ _ HR.out
      have r2 := cell_of_row _ _ 2 _ _ _ HR.out
      have fr0 := frozen_of_row _ _ 0 _ _ HR.out
      have fr1 := frozen_of_row _ _ 1 _ _ HR.out
      have fr2 := frozen_of_row _ _ 2 _ _ HR.out
      have ltr := block_lt HR.out
      have f0 := cell_of_row _ _ 0 _ _ _ HF.out
      have f1 := cell_of_row _ _ 1 _ _ _ HF.out
      have ff0 := frozen_of_row _ _ 0 _ _ HF.out
      have ff1 := frozen_of_row _ _ 1 _ _ HF.out
      have ltf := block_lt HF.out
      have l0 := cell_of_row _ _ 0 _ _ _ HL.out
      have l1 := cell_of_row _ _ 1 _ _ _ HL.out
      have l2 := cell_of_row _ _ 2 _ _ _ HL.out
      have ltl := block_lt HL.out
      have x := set32_at (show w.heap.size ≠ w.heap.size + 1 by omega) HR.out HF.out (.int .i64 (t.toNat : Int)) (.string ⟨#[]⟩) (.string ⟨#[]⟩) (.int .i64 6) (.int .i64 at')
      have hB := set32_below HB.out (show w.heap.size ≤ w.heap.size by omega) (show w.heap.size ≤ w.heap.size + 1 by omega) (.int .i64 (t.toNat : Int)) (.string ⟨#[]⟩) (.string ⟨#[]⟩) (.int .i64 6) (.int .i64 at')
      unfold set32 at x hB
      obtain ⟨x0, x1, x2, x3, x4⟩ := x
      go_wp2_with fail
      refine bodyPost_ret (v := .tuple #[.agg #[.int .i64 (t.toNat : Int), .string ⟨#[]⟩, .string ⟨#[]⟩], .int .i64 (0), .agg #[.int .i64 6, .int .i64 at']]) (by simp [results, Tryz.results112, go_sem, x0, x1, x2, x3, x4]) rfl ⟨⟨_, rfl, ?_⟩, hB⟩
      unfold entryV
      rw [HE.out]
      exact ⟨(((t.toNat : Int), []), []), rfl⟩
    · have hT0 : (0 : Int) ≤ t.toNat := by omega
      have hT3 : (t.toNat : Int) < 3 := by omega
      have h2' : ¬ (2 : Int) < t.toNat := by omega
      go_wp2_with fail
      refine (refSizes_any (t.toNat : Int) _ hT0 hT3).mono ?_
      rintro e w2 ⟨rfl, rfl⟩
      have hkb := keyLen_six (t.toNat : Int)
      have hvb := valLen_four (t.toNat : Int)
      obtain ⟨kl, hkl⟩ : ∃ kl, kl = keyLen (t.toNat : Int) := ⟨_, rfl⟩
      obtain ⟨vl, hvl⟩ : ∃ vl, vl = valLen (t.toNat : Int) := ⟨_, rfl⟩
      have HKL := Lib.hid hkl
      have HVL := Lib.hid hvl
      rw [← hkl] at hkb ⊢
      rw [← hvl] at hvb ⊢
      clear hkl hvl
      have H2 := Lib.hid h2
      clear h2
      by_cases hk : r.length < kl
      · have hk' : (s.length : Int) < (at' : Int) + 1 + kl := by omega
        have HE : Hid (entryB s at' (us.getLast?.map (·.1)) = .inr (1, at' + 1)) := Lib.hid (by unfold entryB; rw [HD.out]; simp only []; rw [if_neg H2.out, if_pos (by rw [← HKL.out]; exact hk)])
        clear hk
        have r0 := cell_of_row _ _ 0 _ _ _ HR.out
        have r1 := cell_of_row _ _ 1 _ _ _ HR.out
        have r2 := cell_of_row _ _ 2 _ _ _ HR.out
        have fr0 := frozen_of_row _ _ 0 _ _ HR.out
        have fr1 := frozen_of_row _ _ 1 _ _ HR.out
        have fr2 := frozen_of_row _ _ 2 _ _ HR.out
        have ltr := block_lt HR.out
        have f0 := cell_of_row _ _ 0 _ _ _ HF.out
        have f1 := cell_of_row _ _ 1 _ _ _ HF.out
        have ff0 := frozen_of_row _ _ 0 _ _ HF.out
        have ff1 := frozen_of_row _ _ 1 _ _ HF.out
        have ltf := block_lt HF.out
        have l0 := cell_of_row _ _ 0 _ _ _ HL.out
        have l1 := cell_of_row _ _ 1 _ _ _ HL.out
        have l2 := cell_of_row _ _ 2 _ _ _ HL.out
        have ltl := block_lt HL.out
        have x := set32_at (show w.heap.size ≠ w.heap.size + 1 by omega) HR.out HF.out (.int .i64 (t.toNat : Int)) (.string ⟨#[]⟩) (.string ⟨#[]⟩) (.int .i64 1) (.int .i64 ((at' : Int) + 1))
        have hB := set32_below HB.out (show w.heap.size ≤ w.heap.size by omega) (show w.heap.size ≤ w.heap.size + 1 by omega) (.int .i64 (t.toNat : Int)) (.string ⟨#[]⟩) (.string ⟨#[]⟩) (.int .i64 1) (.int .i64 ((at' : Int) + 1))
        unfold set32 at x hB
        obtain ⟨x0, x1, x2, x3, x4⟩ := x
        go_wp2_with fail
        refine bodyPost_ret (v := .tuple #[.agg #[.int .i64 (t.toNat : Int), .string ⟨#[]⟩, .string ⟨#[]⟩], .int .i64 (0), .agg #[.int .i64 1, .int .i64 ((at' : Int) + 1)]]) (by simp [results, Tryz.results112, go_sem, x0, x1, x2, x3, x4]) rfl ⟨⟨_, rfl, ?_⟩, hB⟩
        unfold entryV
        rw [HE.out]
        exact ⟨(((t.toNat : Int), []), []), rfl⟩
      · have hk' : ¬ (s.length : Int) < (at' : Int) + 1 + kl := by omega
        have hcut := ext_str s (at' + 1) kl
        rw [HD1.out] at hcut
        have l1 := cell_of_row _ _ 1 _ _ _ HL.out
        have fl1 := frozen_of_row _ _ 1 _ _ HL.out
        obtain ⟨KB, hKB⟩ : ∃ KB, KB = r.take kl := ⟨_, rfl⟩
        rw [← hKB] at hcut
        have HKB := Lib.hid hKB
        have hKl : KB.length ≤ 100 := by rw [hKB, List.length_take]; omega
        clear hKB
        have HK := Lib.hid hk
        clear hk
        go_upto_region 12 with fail
        clear l0 ltl l1 fl1
        have t1 : w1.grownBy (w1.setCell ⟨w.heap.size + 1 + 1, 1, none⟩ (.string ⟨KB.toArray⟩)) (some (w.heap.size + 1 + 1)) := grownBy_set (Below.refl _ w1) 1 _
        have HB1 := Lib.hid (HB.out.setCell (p := ⟨w.heap.size + 1 + 1, 1, none⟩) (by show _ ≤ w.heap.size + 1 + 1; omega) (.string ⟨KB.toArray⟩))
        have HR1 := Lib.hid ((t1.block w.heap.size (block_lt HR.out) (fun e => by have := Option.some.inj e; omega)).trans HR.out)
        have HF1 := Lib.hid ((t1.block (w.heap.size + 1) (block_lt HF.out) (fun e => by have := Option.some.inj e; omega)).trans HF.out)
        have HL1 : Hid ((w1.setCell ⟨w.heap.size + 1 + 1, 1, none⟩ (.string ⟨KB.toArray⟩)).heap[w.heap.size + 1 + 1]? = some (.cells #[.int .i64 (t.toNat : Int), .string ⟨KB.toArray⟩, .string ⟨#[]⟩] 138 (0, 0))) := Lib.hid (heap_setCell w1 _ 1 (.string ⟨KB.toArray⟩) HL.out)
        have HU1 : Hid (EntsAt (w1.setCell ⟨w.heap.size + 1 + 1, 1, none⟩ (.string ⟨KB.toArray⟩)) (.slice ua us.length ucap) us) := Lib.hid (HU.out.setCell_other _ _ (HUN.out _ (by show w.heap.size ≤ w.heap.size + 1 + 1; omega)))
        generalize w1.setCell ⟨w.heap.size + 1 + 1, 1, none⟩ (.string ⟨KB.toArray⟩) = w3 at *
        clear HB HR HF HL HU t1
        have HB := HB1
        have HR := HR1
        have HF := HF1
        have HL := HL1
        have HU := HU1
        clear HB1 HR1 HF1 HL1 HU1
        have l0 := cell_of_row _ _ 0 _ _ _ HL.out
        have l1 := cell_of_row _ _ 1 _ _ _ HL.out
        have ltl := block_lt HL.out
        clear hcut
        go_wp2_with fail
        refine (refIsKey_any (t.toNat : Int) KB _ hT0 hT3 (by unfold maxB; omega)).mono ?_
        rintro e w4 ⟨rfl, nk, hw4⟩
        have hb4 : Below w3.heap.size w3 w4 := by rw [hw4]; exact (Below.refl _ w3).drewN nk
        clear hw4 l0 l1 ltl
        have HB1 := Lib.hid (HB.out.tn hb4)
        have HR1 := Lib.hid (below_at hb4 (block_lt HR.out) HR.out)
        have HF1 := Lib.hid (below_at hb4 (block_lt HF.out) HF.out)
        have HL1 := Lib.hid (below_at hb4 (block_lt HL.out) HL.out)
        have HU1 := Lib.hid (HU.out.below hb4)
        clear HB HR HF HL HU
        have HB := HB1
        have HR := HR1
        have HF := HF1
        have HL := HL1
        have HU := HU1
        clear HB1 HR1 HF1 HL1 HU1
        clear hb4
        cases hik : isKeyB (t.toNat : Int) KB with
        | false =>
          have HE : Hid (entryB s at' (us.getLast?.map (·.1)) = .inr (7, at' + 1)) := Lib.hid (by unfold entryB; rw [HD.out]; simp only []; rw [if_neg H2.out, if_neg (by rw [← HKL.out]; exact HK.out), if_pos (by rw [← HKL.out, ← HKB.out]; exact hik)])
          clear hik
          have r0 := cell_of_row _ _ 0 _ _ _ HR.out
          have r1 := cell_of_row _ _ 1 _ _ _ HR.out
          have r2 := cell_of_row _ _ 2 _ _ _ HR.out
          have fr0 := frozen_of_row _ _ 0 _ _ HR.out
          have fr1 := frozen_of_row _ _ 1 _ _ HR.out
          have fr2 := frozen_of_row _ _ 2 _ _ HR.out
          have ltr := block_lt HR.out
          have f0 := cell_of_row _ _ 0 _ _ _ HF.out
          have f1 := cell_of_row _ _ 1 _ _ _ HF.out
          have ff0 := frozen_of_row _ _ 0 _ _ HF.out
          have ff1 := frozen_of_row _ _ 1 _ _ HF.out
          have ltf := block_lt HF.out
          have l0 := cell_of_row _ _ 0 _ _ _ HL.out
          have l1 := cell_of_row _ _ 1 _ _ _ HL.out
          have l2 := cell_of_row _ _ 2 _ _ _ HL.out
          have ltl := block_lt HL.out
          have x := set32_at (show w.heap.size ≠ w.heap.size + 1 by omega) HR.out HF.out (.int .i64 (t.toNat : Int)) (.string ⟨KB.toArray⟩) (.string ⟨#[]⟩) (.int .i64 7) (.int .i64 ((at' : Int) + 1))
          have hB := set32_below HB.out (show w.heap.size ≤ w.heap.size by omega) (show w.heap.size ≤ w.heap.size + 1 by omega) (.int .i64 (t.toNat : Int)) (.string ⟨KB.toArray⟩) (.string ⟨#[]⟩) (.int .i64 7) (.int .i64 ((at' : Int) + 1))
          unfold set32 at x hB
          obtain ⟨x0, x1, x2, x3, x4⟩ := x
          go_wp2_with fail
          refine bodyPost_ret (v := .tuple #[.agg #[.int .i64 (t.toNat : Int), .string ⟨KB.toArray⟩, .string ⟨#[]⟩], .int .i64 (0), .agg #[.int .i64 7, .int .i64 ((at' : Int) + 1)]]) (by simp [results, Tryz.results112, go_sem, x0, x1, x2, x3, x4]) rfl ⟨⟨_, rfl, ?_⟩, hB⟩
          unfold entryV
          rw [HE.out]
          exact ⟨(((t.toNat : Int), KB), []), rfl⟩
        | true =>
          have HIK := Lib.hid hik
          clear hik
          go_upto_region 15 with fail
          obtain ⟨C, hC⟩ : ∃ C, C = (afterB (us.getLast?.map (·.1)) ((t.toNat : Int), KB)) := ⟨_, rfl⟩
          have HC := Lib.hid hC
          have lC := cell_of_row _ _ 0 _ _ _ HL.out
          have lC1 := cell_of_row _ _ 1 _ _ _ HL.out
          have lC2 := cell_of_row _ _ 2 _ _ _ HL.out
          have ltC := block_lt HL.out
          go_cut [78] (fun c wx => c = .bool (!C) ∧ Below w4.heap.size w4 wx)
          case first =>
            cases hg : us.getLast? with
            | none =>
              have h0 : us = [] := List.getLast?_eq_none_iff.1 hg
              have hCt : C = true := by rw [hC, hg]; rfl
              have hl0 : us.length = 0 := by rw [h0]; rfl
              have HCT := Lib.hid hCt
              have hl0' : decide ((0 : Int) < us.length) = false := decide_eq_false (by omega)
              have hl1' : decide (0 < us.length) = false := decide_eq_false (by omega)
              clear hC hg h0 hCt hl0
              go_quiet (fail)
              go_wp2_with fail
              go_meet
              rw [HCT.out]
              exact ⟨rfl, (Below.refl _ w4).drewN _⟩
            | some z =>
              have hCz : C = ltK z.1 ((t.toNat : Int), KB) := by rw [hC, hg]; rfl
              obtain ⟨m, hm⟩ : ∃ m, us.length = m + 1 := ⟨us.length - 1, by cases us with | nil => simp at hg | cons x us => simp⟩
              have hz : us[m]'(by omega) = z := by
                rw [List.getLast?_eq_getElem?, hm, Nat.add_sub_cancel, List.getElem?_eq_getElem (by omega)] at hg
                exact Option.some.inj hg
              have HCZ := Lib.hid hCz
              obtain ⟨a', cap', he, -, hx⟩ := HU.out.opened
              cases he
              obtain ⟨ub, uo, rfl, c0, c1, c2⟩ := hx m (by omega)
              rw [hz] at c0 c1 c2
              obtain ⟨⟨zt, zk⟩, zv⟩ := z
              simp only at c0 c1 c2
              have ltu := cell_lt c0
              have hwr : IntKind.i64.wrap (m : Int) = (m : Int) := IntWalk.i64_in _ (by omega)
              have hwm : (us.length : Int) - 1 = (m : Int) := by omega
              have hmm : decide ((0 : Int) < us.length) = true := decide_eq_true (by omega)
              have hmn : decide (0 < us.length) = true := decide_eq_true (by omega)
              have hmu : m < us.length := by omega
              have hmi : (m : Int) < us.length := by omega
              have hm0 : (0 : Int) ≤ m := by omega
              clear hx hC hg hz hCz hm
              refine wp_region_still_tail 11 (by kernel_rfl) (by kernel_rfl) ?_
              simp only [List.take_succ_cons, List.take_zero, List.drop_succ_cons, List.drop_zero]
              repeat still_step
              refine wpStill_nil ?_
              go_wp2_with fail
              refine (less_any ((zt, zk), zv) (((t.toNat : Int), KB), []) _).mono ?_
              rintro e w5 ⟨rfl, hb5⟩
              have hb5' : Below w4.heap.size w4 w5 := ((Below.refl w4.heap.size w4).drew).trans hb5
              clear hb5 c0 c1 c2
              go_wp2_with fail
              go_meet
              rw [HCZ.out]
              exact ⟨rfl, hb5'⟩
          case rest =>
            obtain ⟨rfl, hb6⟩ := hcut
            clear lC lC1 lC2 ltC hC
            have HB1 := Lib.hid (HB.out.tn hb6)
            have HR1 := Lib.hid (below_at hb6 (block_lt HR.out) HR.out)
            have HF1 := Lib.hid (below_at hb6 (block_lt HF.out) HF.out)
            have HL1 := Lib.hid (below_at hb6 (block_lt HL.out) HL.out)
            have HU1 := Lib.hid (HU.out.below hb6)
            clear HB HR HF HL HU
            have HB := HB1
            have HR := HR1
            have HF := HF1
            have HL := HL1
            have HU := HU1
            clear HB1 HR1 HF1 HL1 HU1
            clear hb6
            have HCE : Hid ((afterB (us.getLast?.map (·.1)) ((t.toNat : Int), r.take (keyLen (t.toNat : Int)))) = C) := Lib.hid (by rw [HC.out, HKB.out, ← HKL.out])
            cases hCb : C with
            | false =>
              simp only [Bool.not_false]
              have HE : Hid (entryB s at' (us.getLast?.map (·.1)) = .inr (14, at' + 1)) := Lib.hid (by unfold entryB; rw [HD.out]; simp only []; rw [if_neg H2.out, if_neg (by rw [← HKL.out]; exact HK.out), if_neg (by rw [← HKL.out, ← HKB.out, HIK.out]; decide), if_pos (HCE.out.trans hCb)])
              clear hCb
              have r0 := cell_of_row _ _ 0 _ _ _ HR.out
              have r1 := cell_of_row _ _ 1 _ _ _ HR.out
              have r2 := cell_of_row _ _ 2 _ _ _ HR.out
              have fr0 := frozen_of_row _ _ 0 _ _ HR.out
              have fr1 := frozen_of_row _ _ 1 _ _ HR.out
              have fr2 := frozen_of_row _ _ 2 _ _ HR.out
              have ltr := block_lt HR.out
              have f0 := cell_of_row _ _ 0 _ _ _ HF.out
              have f1 := cell_of_row _ _ 1 _ _ _ HF.out
              have ff0 := frozen_of_row _ _ 0 _ _ HF.out
              have ff1 := frozen_of_row _ _ 1 _ _ HF.out
              have ltf := block_lt HF.out
              have l0 := cell_of_row _ _ 0 _ _ _ HL.out
              have l1 := cell_of_row _ _ 1 _ _ _ HL.out
              have l2 := cell_of_row _ _ 2 _ _ _ HL.out
              have ltl := block_lt HL.out
              have x := set32_at (show w.heap.size ≠ w.heap.size + 1 by omega) HR.out HF.out (.int .i64 (t.toNat : Int)) (.string ⟨KB.toArray⟩) (.string ⟨#[]⟩) (.int .i64 14) (.int .i64 ((at' : Int) + 1))
              have hB := set32_below HB.out (show w.heap.size ≤ w.heap.size by omega) (show w.heap.size ≤ w.heap.size + 1 by omega) (.int .i64 (t.toNat : Int)) (.string ⟨KB.toArray⟩) (.string ⟨#[]⟩) (.int .i64 14) (.int .i64 ((at' : Int) + 1))
              unfold set32 at x hB
              obtain ⟨x0, x1, x2, x3, x4⟩ := x
              go_wp2_with fail
              refine bodyPost_ret (v := .tuple #[.agg #[.int .i64 (t.toNat : Int), .string ⟨KB.toArray⟩, .string ⟨#[]⟩], .int .i64 (0), .agg #[.int .i64 14, .int .i64 ((at' : Int) + 1)]]) (by simp [results, Tryz.results112, go_sem, x0, x1, x2, x3, x4]) rfl ⟨⟨_, rfl, ?_⟩, hB⟩
              unfold entryV
              rw [HE.out]
              exact ⟨(((t.toNat : Int), KB), []), rfl⟩
            | true =>
              simp only [Bool.not_true]
              have HCT : Hid (¬ (afterB (us.getLast?.map (·.1)) ((t.toNat : Int), r.take (keyLen (t.toNat : Int)))) = false) := Lib.hid (by rw [HCE.out, hCb]; decide)
              clear hCb
              by_cases hv : r.length < kl + vl
              · have hv' : (s.length : Int) < (at' : Int) + 1 + kl + vl := by omega
                have HE : Hid (entryB s at' (us.getLast?.map (·.1)) = .inr (1, at' + 1 + kl)) := Lib.hid (by unfold entryB; rw [HD.out]; simp only []; rw [if_neg H2.out, if_neg (by rw [← HKL.out]; exact HK.out), if_neg (by rw [← HKL.out, ← HKB.out, HIK.out]; decide), if_neg HCT.out, if_pos (by rw [← HKL.out, ← HVL.out]; exact hv), ← HKL.out])
                clear hv
                have r0 := cell_of_row _ _ 0 _ _ _ HR.out
                have r1 := cell_of_row _ _ 1 _ _ _ HR.out
                have r2 := cell_of_row _ _ 2 _ _ _ HR.out
                have fr0 := frozen_of_row _ _ 0 _ _ HR.out
                have fr1 := frozen_of_row _ _ 1 _ _ HR.out
                have fr2 := frozen_of_row _ _ 2 _ _ HR.out
                have ltr := block_lt HR.out
                have f0 := cell_of_row _ _ 0 _ _ _ HF.out
                have f1 := cell_of_row _ _ 1 _ _ _ HF.out
                have ff0 := frozen_of_row _ _ 0 _ _ HF.out
                have ff1 := frozen_of_row _ _ 1 _ _ HF.out
                have ltf := block_lt HF.out
                have l0 := cell_of_row _ _ 0 _ _ _ HL.out
                have l1 := cell_of_row _ _ 1 _ _ _ HL.out
                have l2 := cell_of_row _ _ 2 _ _ _ HL.out
                have ltl := block_lt HL.out
                have x := set32_at (show w.heap.size ≠ w.heap.size + 1 by omega) HR.out HF.out (.int .i64 (t.toNat : Int)) (.string ⟨KB.toArray⟩) (.string ⟨#[]⟩) (.int .i64 1) (.int .i64 ((at' : Int) + 1 + kl))
                have hB := set32_below HB.out (show w.heap.size ≤ w.heap.size by omega) (show w.heap.size ≤ w.heap.size + 1 by omega) (.int .i64 (t.toNat : Int)) (.string ⟨KB.toArray⟩) (.string ⟨#[]⟩) (.int .i64 1) (.int .i64 ((at' : Int) + 1 + kl))
                unfold set32 at x hB
                obtain ⟨x0, x1, x2, x3, x4⟩ := x
                go_wp2_with fail
                refine bodyPost_ret (v := .tuple #[.agg #[.int .i64 (t.toNat : Int), .string ⟨KB.toArray⟩, .string ⟨#[]⟩], .int .i64 (0), .agg #[.int .i64 1, .int .i64 ((at' : Int) + 1 + kl)]]) (by simp [results, Tryz.results112, go_sem, x0, x1, x2, x3, x4]) rfl ⟨⟨_, rfl, ?_⟩, hB⟩
                unfold entryV
                rw [HE.out]
                exact ⟨(((t.toNat : Int), KB), []), rfl⟩
              · have hv' : ¬ (s.length : Int) < (at' : Int) + 1 + kl + vl := by omega
                have hcut := ext_str s (at' + 1 + kl) vl
                rw [← List.drop_drop, HD1.out] at hcut
                have l2 := cell_of_row _ _ 2 _ _ _ HL.out
                have fl2 := frozen_of_row _ _ 2 _ _ HL.out
                have ltl := block_lt HL.out
                obtain ⟨VB, hVB⟩ : ∃ VB, VB = (r.drop kl).take vl := ⟨_, rfl⟩
                rw [← hVB] at hcut
                have HVB := Lib.hid hVB
                have hVl : VB.length ≤ 100 := by rw [hVB, List.length_take]; omega
                clear hVB
                have HV := Lib.hid hv
                clear hv
                go_upto_region 21 with fail
                clear l2 fl2 ltl
                have t1 : wc.grownBy (wc.setCell ⟨w.heap.size + 1 + 1, 2, none⟩ (.string ⟨VB.toArray⟩)) (some (w.heap.size + 1 + 1)) := grownBy_set (Below.refl _ wc) 2 _
                have HB1 := Lib.hid (HB.out.setCell (p := ⟨w.heap.size + 1 + 1, 2, none⟩) (by show _ ≤ w.heap.size + 1 + 1; omega) (.string ⟨VB.toArray⟩))
                have HR1 := Lib.hid ((t1.block w.heap.size (block_lt HR.out) (fun e => by have := Option.some.inj e; omega)).trans HR.out)
                have HF1 := Lib.hid ((t1.block (w.heap.size + 1) (block_lt HF.out) (fun e => by have := Option.some.inj e; omega)).trans HF.out)
                have HL1 : Hid ((wc.setCell ⟨w.heap.size + 1 + 1, 2, none⟩ (.string ⟨VB.toArray⟩)).heap[w.heap.size + 1 + 1]? = some (.cells #[.int .i64 (t.toNat : Int), .string ⟨KB.toArray⟩, .string ⟨VB.toArray⟩] 138 (0, 0))) := Lib.hid (heap_setCell wc _ 2 (.string ⟨VB.toArray⟩) HL.out)
                have HU1 : Hid (EntsAt (wc.setCell ⟨w.heap.size + 1 + 1, 2, none⟩ (.string ⟨VB.toArray⟩)) (.slice ua us.length ucap) us) := Lib.hid (HU.out.setCell_other _ _ (HUN.out _ (by show w.heap.size ≤ w.heap.size + 1 + 1; omega)))
                generalize wc.setCell ⟨w.heap.size + 1 + 1, 2, none⟩ (.string ⟨VB.toArray⟩) = w7 at *
                clear HB HR HF HL HU t1
                have HB := HB1
                have HR := HR1
                have HF := HF1
                have HL := HL1
                have HU := HU1
                clear HB1 HR1 HF1 HL1 HU1
                have l0 := cell_of_row _ _ 0 _ _ _ HL.out
                have l2 := cell_of_row _ _ 2 _ _ _ HL.out
                have ltl := block_lt HL.out
                clear hcut
                go_wp2_with fail
                refine (refIsValue_any (t.toNat : Int) VB _ hT0 hT3 (by unfold maxB; omega)).mono ?_
                rintro e w8 ⟨rfl, rfl⟩
                clear l0 l2 ltl
                have HH : Hid (¬ (isKeyB (t.toNat : Int) (r.take (keyLen (t.toNat : Int))) = false)) := Lib.hid (by rw [← HKL.out, ← HKB.out, HIK.out]; decide)
                cases hiv : isValueB (t.toNat : Int) VB with
                | false =>
                  have HE : Hid (entryB s at' (us.getLast?.map (·.1)) = .inr (9, at' + 1 + kl)) := Lib.hid (by unfold entryB; rw [HD.out]; simp only []; rw [if_neg H2.out, if_neg (by rw [← HKL.out]; exact HK.out), if_neg HH.out, if_neg HCT.out, if_neg (by rw [← HKL.out, ← HVL.out]; exact HV.out), if_pos (by rw [← HKL.out, ← HVL.out, ← HVB.out]; exact hiv), ← HKL.out])
                  clear hiv
                  have r0 := cell_of_row _ _ 0 _ _ _ HR.out
                  have r1 := cell_of_row _ _ 1 _ _ _ HR.out
                  have r2 := cell_of_row _ _ 2 _ _ _ HR.out
                  have fr0 := frozen_of_row _ _ 0 _ _ HR.out
                  have fr1 := frozen_of_row _ _ 1 _ _ HR.out
                  have fr2 := frozen_of_row _ _ 2 _ _ HR.out
                  have ltr := block_lt HR.out
                  have f0 := cell_of_row _ _ 0 _ _ _ HF.out
                  have f1 := cell_of_row _ _ 1 _ _ _ HF.out
                  have ff0 := frozen_of_row _ _ 0 _ _ HF.out
                  have ff1 := frozen_of_row _ _ 1 _ _ HF.out
                  have ltf := block_lt HF.out
                  have l0 := cell_of_row _ _ 0 _ _ _ HL.out
                  have l1 := cell_of_row _ _ 1 _ _ _ HL.out
                  have l2 := cell_of_row _ _ 2 _ _ _ HL.out
                  have ltl := block_lt HL.out
                  have x := set32_at (show w.heap.size ≠ w.heap.size + 1 by omega) HR.out HF.out (.int .i64 (t.toNat : Int)) (.string ⟨KB.toArray⟩) (.string ⟨VB.toArray⟩) (.int .i64 9) (.int .i64 ((at' : Int) + 1 + kl))
                  have hB := set32_below HB.out (show w.heap.size ≤ w.heap.size by omega) (show w.heap.size ≤ w.heap.size + 1 by omega) (.int .i64 (t.toNat : Int)) (.string ⟨KB.toArray⟩) (.string ⟨VB.toArray⟩) (.int .i64 9) (.int .i64 ((at' : Int) + 1 + kl))
                  unfold set32 at x hB
                  obtain ⟨x0, x1, x2, x3, x4⟩ := x
                  go_wp2_with fail
                  refine bodyPost_ret (v := .tuple #[.agg #[.int .i64 (t.toNat : Int), .string ⟨KB.toArray⟩, .string ⟨VB.toArray⟩], .int .i64 (0), .agg #[.int .i64 9, .int .i64 ((at' : Int) + 1 + kl)]]) (by simp [results, Tryz.results112, go_sem, x0, x1, x2, x3, x4]) rfl ⟨⟨_, rfl, ?_⟩, hB⟩
                  unfold entryV
                  rw [HE.out]
                  exact ⟨(((t.toNat : Int), KB), VB), rfl⟩
                | true =>
                  have HE : Hid (entryB s at' (us.getLast?.map (·.1)) = .inl ((((t.toNat : Int), KB), VB), at' + 1 + kl + vl)) := Lib.hid (by unfold entryB; rw [HD.out]; simp only []; rw [if_neg H2.out, if_neg (by rw [← HKL.out]; exact HK.out), if_neg HH.out, if_neg HCT.out, if_neg (by rw [← HKL.out, ← HVL.out]; exact HV.out), if_neg (by rw [← HKL.out, ← HVL.out, ← HVB.out, hiv]; decide), ← HKL.out, ← HVL.out, ← HKB.out, ← HVB.out])
                  clear hiv
                  have r0 := cell_of_row _ _ 0 _ _ _ HR.out
                  have r1 := cell_of_row _ _ 1 _ _ _ HR.out
                  have r2 := cell_of_row _ _ 2 _ _ _ HR.out
                  have fr0 := frozen_of_row _ _ 0 _ _ HR.out
                  have fr1 := frozen_of_row _ _ 1 _ _ HR.out
                  have fr2 := frozen_of_row _ _ 2 _ _ HR.out
                  have ltr := block_lt HR.out
                  have f0 := cell_of_row _ _ 0 _ _ _ HF.out
                  have f1 := cell_of_row _ _ 1 _ _ _ HF.out
                  have ff0 := frozen_of_row _ _ 0 _ _ HF.out
                  have ff1 := frozen_of_row _ _ 1 _ _ HF.out
                  have ltf := block_lt HF.out
                  have l0 := cell_of_row _ _ 0 _ _ _ HL.out
                  have l1 := cell_of_row _ _ 1 _ _ _ HL.out
                  have l2 := cell_of_row _ _ 2 _ _ _ HL.out
                  have ltl := block_lt HL.out
                  have x := set32_at (show w.heap.size ≠ w.heap.size + 1 by omega) HR.out HF.out (.int .i64 (t.toNat : Int)) (.string ⟨KB.toArray⟩) (.string ⟨VB.toArray⟩) (.int .i64 0) (.int .i64 0)
                  have hB := set32_below HB.out (show w.heap.size ≤ w.heap.size by omega) (show w.heap.size ≤ w.heap.size + 1 by omega) (.int .i64 (t.toNat : Int)) (.string ⟨KB.toArray⟩) (.string ⟨VB.toArray⟩) (.int .i64 0) (.int .i64 0)
                  unfold set32 at x hB
                  obtain ⟨x0, x1, x2, x3, x4⟩ := x
                  go_wp2_with fail
                  refine bodyPost_ret (v := .tuple #[.agg #[.int .i64 (t.toNat : Int), .string ⟨KB.toArray⟩, .string ⟨VB.toArray⟩], .int .i64 ((at' : Int) + 1 + kl + vl), .agg #[.int .i64 0, .int .i64 0]]) (by simp [results, Tryz.results112, go_sem, x0, x1, x2, x3, x4]) rfl ⟨⟨_, rfl, ?_⟩, hB⟩
                  unfold entryV
                  rw [HE.out]
                  rfl
end Go.Proofs.YtkkfmkhbdoeglaaGreatDoor

/- The contract of package overlayref's DecodeAll. No condition. -/
namespace Go.Proofs.YtkkfmkhbdoeglaaGreatDoor
open Go.RowKit

def RefDecAllPost (s : List UInt8) (w : World) (e : Ending) (w' : World) : Prop :=
  Below w.heap.size w w' ∧ match refDecAllB s with
    | .inl (n, l) => ∃ sv, e = .returned (.tuple #[.int .u64 n, sv, .agg #[.int .i64 0, .int .i64 0]]) ∧ EntsAt w' sv l
    | .inr (k, p) => e = .returned (.tuple #[.int .u64 0, .slice none 0 0, .agg #[.int .i64 k, .int .i64 p]])
/-- two stores into a result -/
def set2 (W : World) (A : Nat) (v0 v1 : Value) : World := (W.setCell ⟨A, 0, none⟩ v0).setCell ⟨A, 1, none⟩ v1
theorem set2_at {W : World} {A : Nat} {a0 a1 : Value} {T : TypeId} (h : W.heap[A]? = some (.cells #[a0, a1] T (0, 0))) (v0 v1 : Value) : (set2 W A v0 v1).cell? ⟨A, 0, none⟩ = some v0 ∧ (set2 W A v0 v1).cell? ⟨A, 1, none⟩ = some v1 := by
  have e := heap_setCell _ _ 1 v1 (heap_setCell _ _ 0 v0 h)
  exact ⟨cell_of_row _ _ 0 _ _ _ e, cell_of_row _ _ 1 _ _ _ e⟩
theorem set2_below {B : Nat} {w0 W : World} (h : Below B w0 W) {A : Nat} (hA : B ≤ A) (v0 v1 : Value) : Below B w0 (set2 W A v0 v1) := (h.setCell (p := ⟨A, 0, none⟩) hA _).setCell (p := ⟨A, 1, none⟩) hA _
/-- what holds at the loop over the entries -/
def RefAllRel (w : World) (n : Nat) (s : List UInt8) (lv av nv : Value) (wr : World) : Prop :=
  ∃ (m p : Nat) (l : List E), m ≤ n ∧ nv = .int .i64 (m : Int) ∧ av = .int .i64 (p : Int) ∧ p ≤ s.length ∧ l.length + m = n ∧ entriesB s n 10 [] = entriesB s m p l ∧ OwnS wr (w.heap.size + 1) 3 lv l.length (entCells l) ∧
    wr.heap[w.heap.size]? = some (.cells #[.int .i64 0, .int .i64 0] 69 (0, 0)) ∧ Below w.heap.size w wr
set_option maxRecDepth 100000 in
set_option maxHeartbeats 4000000 in
theorem refDecodeAll_any (s : List UInt8) (w : World) (hl : s.length ≤ maxB) :
    Calls Tryz.prog 75 #[.string ⟨s.toArray⟩] w (RefDecAllPost s w) := by
  unfold maxB at hl
  obtain ⟨w0, hw0⟩ : ∃ w0, w0 = w.alloc (.cells #[.int .i64 0, .int .i64 0] 69) := ⟨_, rfl⟩
  have HB : Hid (Below w.heap.size w w0) := Lib.hid (by rw [hw0]; exact (Below.refl _ w).alloc (Nat.le_refl _) _)
  have HR : Hid (w0.heap[w.heap.size]? = some (.cells #[.int .i64 0, .int .i64 0] 69 (0, 0))) := Lib.hid (by rw [hw0]; exact heap_new w _)
  go_enter Tryz.func75, Tryz.ntmps75
  go_upto_region 1 with fail
  rw [← hw0]
  clear hw0
  by_cases h8 : s.length < 8
  · have HE : Hid (refDecAllB s = .inr (1, 0)) := Lib.hid (by unfold refDecAllB; rw [if_pos h8])
    have h8' : (s.length : Int) < 8 := by omega
    have r0 := cell_of_row _ _ 0 _ _ _ HR.out
    have r1 := cell_of_row _ _ 1 _ _ _ HR.out
    have fr0 := frozen_of_row _ _ 0 _ _ HR.out
    have fr1 := frozen_of_row _ _ 1 _ _ HR.out
    have ltr := block_lt HR.out
    have x := set2_at HR.out (.int .i64 1) (.int .i64 0)
    have hB := set2_below HB.out (Nat.le_refl w.heap.size) (.int .i64 1) (.int .i64 0)
    unfold set2 at x hB
    obtain ⟨x0, x1⟩ := x
    clear h8
    go_wp2_with fail
    refine bodyPost_ret (v := .tuple #[.int .u64 0, .slice none 0 0, .agg #[.int .i64 1, .int .i64 0]]) (by simp [results, Tryz.results75, go_sem, x0, x1]) rfl ⟨hB, ?_⟩
    rw [HE.out]
    rfl
  · have h8' : ¬ (s.length : Int) < 8 := by omega
    have hls : 8 ≤ s.length := by omega
    have HC : Hid (refDecAllB s = if isVersionB (numB (s.take 8)) = false then .inr (4, 0)
      else if s.length < 10 then .inr (1, 8)
      else match entriesB s ((s.getD 8 0).toNat * 256 + (s.getD 9 0).toNat) 10 [] with
        | .inr f => .inr f
        | .inl (q, l) => if q < s.length then .inr (2, q) else .inl (numB (s.take 8), l)) := Lib.hid (by unfold refDecAllB; rw [if_neg h8]; rfl)
    clear h8
    go_wp2_with fail
    go_loop [5, 6] (fun v i => ∃ k : Nat, k ≤ 8 ∧ i = .int .i64 (k : Int) ∧ v = .int .u64 ((numB (s.take k) : Nat) : Int)) (fun _ i => 8 - (intOf i).toNat)
    case atStart => exact ⟨0, by omega, rfl, rfl⟩
    case round =>
      obtain ⟨k, hk, rfl, rfl⟩ := hrel
      by_cases hk8 : k < 8
      · have hk8' : (k : Int) < 8 := by omega
        have hlt := numB_lt k s (by omega)
        have hle : numB (s.take k) < 256 ^ 7 := Nat.lt_of_lt_of_le hlt (Nat.pow_le_pow_right (by decide) (by omega))
        have H := Lib.hid (numB_take s k (by omega))
        obtain ⟨x, hx⟩ : ∃ x, s[k]'(by omega) = x := ⟨_, rfl⟩
        have i0 : ∀ w, (Instr.index 9 (.string ⟨s.toArray⟩) (.int .i64 (k : Int))).run Tryz.prog w = .ok (.int .u8 x.toNat) w := fun w => run_index_str Tryz.underlying9 _ _ _ x (by omega) (by rw [Int.toNat_natCast, List.getElem?_eq_getElem (by omega), hx]) w
        rw [hx] at H
        have hxb := x.toNat_lt
        clear hx hlt
        obtain ⟨v, hv⟩ : ∃ v, v = numB (s.take k) := ⟨_, rfl⟩
        rw [← hv] at hle H ⊢
        clear hv
        have hv : v < 72057594037927936 := hle
        clear hle
        go_wp2_with fail
        refine ⟨⟨k + 1, by omega, rfl, ?_⟩, ?_⟩
        · rw [H.out]; congr 1; omega
        · simp [intOf]; omega
      · obtain rfl : k = 8 := by omega
        clear hk hk8
        have hvlt := numB_lt 8 s (by omega)
        obtain ⟨v, hv⟩ : ∃ v, v = numB (s.take 8) := ⟨_, rfl⟩
        rw [← hv] at HC hvlt ⊢
        have hv64 : v < 18446744073709551616 := hvlt
        clear hv hvlt
        have HV := Lib.hid (fun W => refIsVersion_any v W hv64)
        clear hv64
        go_wp2_with fail
        refine (HV.out _).mono ?_
        rintro e w4 ⟨rfl, rfl⟩
        cases hver : isVersionB v with
        | false =>
          have HE : Hid (refDecAllB s = .inr (4, 0)) := Lib.hid (by rw [HC.out, if_pos hver])
          clear hver HC
          have r0 := cell_of_row _ _ 0 _ _ _ HR.out
          have r1 := cell_of_row _ _ 1 _ _ _ HR.out
          have fr0 := frozen_of_row _ _ 0 _ _ HR.out
          have fr1 := frozen_of_row _ _ 1 _ _ HR.out
          have ltr := block_lt HR.out
          have x := set2_at HR.out (.int .i64 4) (.int .i64 0)
          have hB := set2_below HB.out (Nat.le_refl w.heap.size) (.int .i64 4) (.int .i64 0)
          unfold set2 at x hB
          obtain ⟨x0, x1⟩ := x
          go_wp2_with fail
          refine bodyPost_ret (v := .tuple #[.int .u64 0, .slice none 0 0, .agg #[.int .i64 4, .int .i64 0]]) (by simp [results, Tryz.results75, go_sem, x0, x1]) rfl ⟨hB, ?_⟩
          rw [HE.out]
          rfl
        | true =>
          have HC1 := HC.out
          rw [if_neg (by rw [hver]; decide)] at HC1
          clear hver HC
          by_cases h10 : s.length < 10
          · have HE : Hid (refDecAllB s = .inr (1, 8)) := Lib.hid (by rw [HC1, if_pos h10])
            have h10' : (s.length : Int) < 10 := by omega
            clear HC1 h10
            have r0 := cell_of_row _ _ 0 _ _ _ HR.out
            have r1 := cell_of_row _ _ 1 _ _ _ HR.out
            have fr0 := frozen_of_row _ _ 0 _ _ HR.out
            have fr1 := frozen_of_row _ _ 1 _ _ HR.out
            have ltr := block_lt HR.out
            have x := set2_at HR.out (.int .i64 1) (.int .i64 8)
            have hB := set2_below HB.out (Nat.le_refl w.heap.size) (.int .i64 1) (.int .i64 8)
            unfold set2 at x hB
            obtain ⟨x0, x1⟩ := x
            go_wp2_with fail
            refine bodyPost_ret (v := .tuple #[.int .u64 0, .slice none 0 0, .agg #[.int .i64 1, .int .i64 8]]) (by simp [results, Tryz.results75, go_sem, x0, x1]) rfl ⟨hB, ?_⟩
            rw [HE.out]
            rfl
          · rw [if_neg h10] at HC1
            have h10' : ¬ (s.length : Int) < 10 := by omega
            obtain ⟨x, hx⟩ : ∃ x, s[8]'(by omega) = x := ⟨_, rfl⟩
            obtain ⟨y, hy⟩ : ∃ y, s[9]'(by omega) = y := ⟨_, rfl⟩
            have i0 : ∀ w, (Instr.index 9 (.string ⟨s.toArray⟩) (.int .i64 8)).run Tryz.prog w = .ok (.int .u8 x.toNat) w := fun w => run_index_str Tryz.underlying9 _ _ _ x (by omega) (by rw [show (8 : Int).toNat = 8 from rfl, List.getElem?_eq_getElem (by omega), hx]) w
            have i1 : ∀ w, (Instr.index 9 (.string ⟨s.toArray⟩) (.int .i64 9)).run Tryz.prog w = .ok (.int .u8 y.toNat) w := fun w => run_index_str Tryz.underlying9 _ _ _ y (by omega) (by rw [show (9 : Int).toNat = 9 from rfl, List.getElem?_eq_getElem (by omega), hy]) w
            have hx8 : s.getD 8 0 = x := by rw [List.getD_eq_getElem?_getD, List.getElem?_eq_getElem (by omega), hx]; rfl
            have hy9 : s.getD 9 0 = y := by rw [List.getD_eq_getElem?_getD, List.getElem?_eq_getElem (by omega), hy]; rfl
            rw [hx8, hy9] at HC1
            have hxb := x.toNat_lt
            have hyb := y.toNat_lt
            obtain ⟨n, hn⟩ : ∃ n, n = x.toNat * 256 + y.toNat := ⟨_, rfl⟩
            rw [← hn] at HC1
            have HC2 := Lib.hid HC1
            have hnb : n < 65536 := by omega
            have hnw : (x.toNat : Int) * 256 + y.toNat = n := by omega
            have hnw' : 256 * (x.toNat : Int) + y.toNat = n := by omega
            have hls10 : 10 ≤ s.length := by omega
            clear hx hy hx8 hy9 hn HC1 h10 HV hls
            go_wp2_with fail
            go_quiet (fail)
            have HB5 := Lib.hid (HB.out.drewN nq)
            have HR5 : Hid ((w0.drewN nq).heap[w.heap.size]? = some (.cells #[.int .i64 0, .int .i64 0] 69 (0, 0))) := Lib.hid HR.out
            generalize w0.drewN nq = w5 at *
            clear HB HR
            have h0 : RefAllRel w n s (.slice none 0 0) (.int .i64 10) (.int .i64 (n : Int)) w5 := ⟨n, 10, [], Nat.le_refl _, rfl, rfl, hls10, by simp, rfl, OwnS.nil _ _ _, HR5.out, HB5.out⟩
            go_wp2_with fail
            go_loopw [8, 9, 10] (fun lv av nv wr => RefAllRel w n s lv av nv wr) (fun _ _ nv _ => (intOf nv).toNat)
            case atStart => exact h0
            case round =>
              clear h0 hnw hnw' i0 i1 HR5 HB5
              obtain ⟨m, p, l, hm, rfl, rfl, hp, hlm, hes, hown, hR, hbr⟩ := hrel
              obtain ⟨la, lcap, rfl⟩ := hown.shape
              have hll : l.length ≤ 65536 := by omega
              have HES := Lib.hid hes
              have HLM := Lib.hid hlm
              have HO := Lib.hid hown
              have HR := Lib.hid hR
              have HB := Lib.hid hbr
              have hsr := hbr.size
              have hob := hown.ownBlock_lt
              have hwr := block_lt hR
              clear hes hlm hown hR hbr
              by_cases hm0 : 0 < m
              · have hm0' : (0 : Int) < m := by omega
                have HEN := Lib.hid (refEntry_any s p (.slice la l.length lcap) l wr (by unfold maxB; omega) hp HO.out.ents hob (by omega))
                clear hob
                go_wp2_with fail
                refine HEN.out.mono ?_
                rintro e w6 ⟨⟨ev, rfl, hev⟩, hb6⟩
                have HB6 := Lib.hid (HB.out.trans (hb6.mono hsr))
                have HR6 := Lib.hid (below_at hb6 hwr HR.out)
                have HO6 := Lib.hid (HO.out.below hb6)
                have hs6 := hb6.size
                clear HEN HB HR HO
                unfold entryV at hev
                cases hc : entryB s p (l.getLast?.map (·.1)) with
                | inr f =>
                  obtain ⟨fk, fp⟩ := f
                  rw [hc] at hev
                  obtain ⟨⟨⟨xt, xk⟩, xv⟩, rfl⟩ := hev
                  have hfk := (entryB_inr hc hp).1
                  have HE : Hid (refDecAllB s = .inr (fk, fp)) := Lib.hid (by
                    obtain ⟨m', rfl⟩ : ∃ m', m = m' + 1 := ⟨m - 1, by omega⟩
                    rw [HC2.out, HES.out, entriesB, hc])
                  have hne : ((fk : Int) != 0) = true := by rw [bne_iff_ne]; omega
                  unfold entV
                  clear hc hfk
                  have t7 : Below w6.heap.size w6 ((w6.alloc (.cells #[.int .i64 xt, .string ⟨xk.toArray⟩, .string ⟨xv.toArray⟩] 138)).alloc (.cells #[.int .i64 fk, .int .i64 fp] 69)) := ((Below.refl _ w6).alloc (Nat.le_refl _) _).alloc (by simp) _
                  have HB7 := Lib.hid (HB6.out.tn t7)
                  have HR7 := Lib.hid (below_at t7 (block_lt HR6.out) HR6.out)
                  have HF7 := Lib.hid (heap_new (w6.alloc (.cells #[.int .i64 xt, .string ⟨xk.toArray⟩, .string ⟨xv.toArray⟩] 138)) (.cells #[.int .i64 fk, .int .i64 fp] 69))
                  rw [World.size_alloc] at HF7
                  go_upto_region 19 with fail
                  generalize (w6.alloc (.cells #[.int .i64 xt, .string ⟨xk.toArray⟩, .string ⟨xv.toArray⟩] 138)).alloc (.cells #[.int .i64 fk, .int .i64 fp] 69) = w7 at *
                  have q0 := cell_of_row _ _ 0 _ _ _ HF7.out
                  have q1 := cell_of_row _ _ 1 _ _ _ HF7.out
                  have ltq := block_lt HF7.out
                  have r0 := cell_of_row _ _ 0 _ _ _ HR7.out
                  have r1 := cell_of_row _ _ 1 _ _ _ HR7.out
                  have fr0 := frozen_of_row _ _ 0 _ _ HR7.out
                  have fr1 := frozen_of_row _ _ 1 _ _ HR7.out
                  have ltr := block_lt HR7.out
                  have x := set2_at HR7.out (.int .i64 fk) (.int .i64 fp)
                  have hB := set2_below HB7.out (Nat.le_refl w.heap.size) (.int .i64 fk) (.int .i64 fp)
                  unfold set2 at x hB
                  obtain ⟨x0, x1⟩ := x
                  go_wp2
                  go_region
                  go_wp2
                  refine bodyPost_ret (v := .tuple #[.int .u64 0, .slice none 0 0, .agg #[.int .i64 fk, .int .i64 fp]]) (by simp [results, Tryz.results75, go_sem, x0, x1]) rfl ⟨hB.drew, ?_⟩
                  rw [HE.out]
                | inl xq =>
                  obtain ⟨⟨⟨xt, xk⟩, xv⟩, q⟩ := xq
                  rw [hc] at hev
                  obtain rfl := hev
                  have hq := (entryB_inl hc).2.1
                  have HES2 : Hid (entriesB s n 10 [] = entriesB s (m - 1) q (l ++ [((xt, xk), xv)])) := Lib.hid (by
                    obtain ⟨m', rfl⟩ : ∃ m', m = m' + 1 := ⟨m - 1, by omega⟩
                    rw [HES.out, entriesB, hc]
                    rfl)
                  unfold entV
                  clear hc
                  have t7 : Below w6.heap.size w6 (((w6.alloc (.cells #[.int .i64 xt, .string ⟨xk.toArray⟩, .string ⟨xv.toArray⟩] 138)).alloc (.cells #[.int .i64 0, .int .i64 0] 69)).alloc (.cells #[.int .i64 xt, .string ⟨xk.toArray⟩, .string ⟨xv.toArray⟩] 138)) := (((Below.refl _ w6).alloc (Nat.le_refl _) _).alloc (by simp) _).alloc (by simp; omega) _
                  have HB7 := Lib.hid (HB6.out.tn t7)
                  have HR7 := Lib.hid (below_at t7 (block_lt HR6.out) HR6.out)
                  have HO7 := Lib.hid (HO6.out.below t7)
                  have HONE := Lib.hid (oneEnt_at ((w6.alloc (.cells #[.int .i64 xt, .string ⟨xk.toArray⟩, .string ⟨xv.toArray⟩] 138)).alloc (.cells #[.int .i64 0, .int .i64 0] 69)) ((xt, xk), xv))
                  simp only [World.size_alloc] at HONE
                  go_wp2_with (at_builtin; refine wpList_append_ents rfl (.tmp 62) (.tmp 64) rfl (w.heap.size + 1) (.slice la l.length lcap) l rfl (by exact HO7.out) [((xt, xk), xv)] (by exact HONE.out) (by simp; omega) (by simp; omega) ?_; intro v8 w8 hown8 hg8 hb8 hap8; obtain ⟨sa8, cap8, rfl⟩ := hown8.shape)
                  have hb78 : Below w.heap.size w w8 := HB7.out.trans (hb8.mono (by omega))
                  refine ⟨⟨m - 1, q, l ++ [((xt, xk), xv)], by omega, by congr 1; omega, rfl, hq, by have := HLM.out; simp; omega, HES2.out, ?_, below_at hb8 (by omega) HR7.out, hb78⟩, ?_⟩
                  · simpa using hown8
                  · simp [intOf]; omega
              · obtain rfl : m = 0 := by omega
                have hm0' : ¬ (0 : Int) < ((0 : Nat) : Int) := by omega
                have HC3 : Hid (refDecAllB s = if p < s.length then .inr (2, p) else .inl (v, l)) := Lib.hid (by rw [HC2.out, HES.out]; rfl)
                clear hob
                by_cases hps : p < s.length
                · have hps' : (p : Int) < s.length := by omega
                  have HE : Hid (refDecAllB s = .inr (2, p)) := Lib.hid (by rw [HC3.out, if_pos hps])
                  clear hps HC3
                  have r0 := cell_of_row _ _ 0 _ _ _ HR.out
                  have r1 := cell_of_row _ _ 1 _ _ _ HR.out
                  have fr0 := frozen_of_row _ _ 0 _ _ HR.out
                  have fr1 := frozen_of_row _ _ 1 _ _ HR.out
                  have ltr := block_lt HR.out
                  have x := set2_at HR.out (.int .i64 2) (.int .i64 p)
                  have hB := set2_below HB.out (Nat.le_refl w.heap.size) (.int .i64 2) (.int .i64 p)
                  unfold set2 at x hB
                  obtain ⟨x0, x1⟩ := x
                  go_wp2_with fail
                  refine bodyPost_ret (v := .tuple #[.int .u64 0, .slice none 0 0, .agg #[.int .i64 2, .int .i64 p]]) (by simp [results, Tryz.results75, go_sem, x0, x1]) rfl ⟨hB, ?_⟩
                  rw [HE.out]
                  rfl
                · have hps' : ¬ (p : Int) < s.length := by omega
                  have HE : Hid (refDecAllB s = .inl (v, l)) := Lib.hid (by rw [HC3.out, if_neg hps])
                  clear hps HC3
                  have HOx : Hid (EntsAt (set2 wr w.heap.size (.int .i64 0) (.int .i64 0)) (.slice la l.length lcap) l) := Lib.hid ((HO.out.ents.setCell_other ⟨w.heap.size, 0, none⟩ (.int .i64 0) (HO.out.apart (by show w.heap.size < _; omega))).setCell_other ⟨w.heap.size, 1, none⟩ (.int .i64 0) (HO.out.apart (by show w.heap.size < _; omega)))
                  have r0 := cell_of_row _ _ 0 _ _ _ HR.out
                  have r1 := cell_of_row _ _ 1 _ _ _ HR.out
                  have fr0 := frozen_of_row _ _ 0 _ _ HR.out
                  have fr1 := frozen_of_row _ _ 1 _ _ HR.out
                  have ltr := block_lt HR.out
                  have x := set2_at HR.out (.int .i64 0) (.int .i64 0)
                  have hB := set2_below HB.out (Nat.le_refl w.heap.size) (.int .i64 0) (.int .i64 0)
                  unfold set2 at x hB
                  obtain ⟨x0, x1⟩ := x
                  go_wp2_with fail
                  refine bodyPost_ret (v := .tuple #[.int .u64 v, .slice la l.length lcap, .agg #[.int .i64 0, .int .i64 0]]) (by simp [results, Tryz.results75, go_sem, x0, x1]) rfl ⟨hB, ?_⟩
                  rw [HE.out]
                  exact ⟨_, rfl, HOx.out⟩
end Go.Proofs.YtkkfmkhbdoeglaaGreatDoor

/- The contract of package overlayref's EncodeAll. No condition. -/
namespace Go.Proofs.YtkkfmkhbdoeglaaGreatDoor
open Go.RowKit

theorem refEncodeAll_bad (v : Nat) (sv : Value) (w : World) (hv64 : v < 18446744073709551616) (hv : isVersionB v = false) :
    Calls Tryz.prog 37 #[.int .u64 v, sv] w fun e w' => e = .returned (.tuple #[.string ⟨[].toArray⟩, .agg #[.int .i64 4, .int .i64 0]]) ∧ Below w.heap.size w w' := by
  obtain ⟨w0, hw0⟩ : ∃ w0, w0 = w.alloc (.cells #[.int .i64 0, .int .i64 0] 69) := ⟨_, rfl⟩
  have HB : Hid (Below w.heap.size w w0) := Lib.hid (by rw [hw0]; exact (Below.refl _ w).alloc (Nat.le_refl _) _)
  have HR : Hid (w0.heap[w.heap.size]? = some (.cells #[.int .i64 0, .int .i64 0] 69 (0, 0))) := Lib.hid (by rw [hw0]; exact heap_new w _)
  have HV := Lib.hid hv
  clear hv
  go_enter Tryz.func37, Tryz.ntmps37
  go_upto_region 1 with fail
  rw [← hw0]
  clear hw0
  have r0 := cell_of_row _ _ 0 _ _ _ HR.out
  have r1 := cell_of_row _ _ 1 _ _ _ HR.out
  have fr0 := frozen_of_row _ _ 0 _ _ HR.out
  have fr1 := frozen_of_row _ _ 1 _ _ HR.out
  have ltr := block_lt HR.out
  have e := heap_setCell _ _ 1 (.int .i64 0) (heap_setCell _ _ 0 (.int .i64 4) HR.out)
  have x0 := cell_of_row _ _ 0 _ _ _ e
  have x1 := cell_of_row _ _ 1 _ _ _ e
  have hB := (HB.out.setCell (p := ⟨w.heap.size, 0, none⟩) (Nat.le_refl _) (.int .i64 4)).setCell (p := ⟨w.heap.size, 1, none⟩) (Nat.le_refl _) (.int .i64 0)
  clear e
  go_wp2_with fail
  refine (refIsVersion_any v _ hv64).mono ?_
  rintro e w1 ⟨rfl, rfl⟩
  rw [HV.out]
  go_wp2_with fail
  exact bodyPost_ret (v := .tuple #[.string ⟨[].toArray⟩, .agg #[.int .i64 4, .int .i64 0]]) (by simp [results, Tryz.results37, go_sem, x0, x1]) rfl ⟨rfl, hB⟩
/-- what has been written behind k entries -/
def allTo (v : Nat) (S : List E) (k : Nat) : List UInt8 := be8 v ++ [UInt8.ofNat (S.length / 256), UInt8.ofNat S.length] ++ entsB (S.take k)
theorem allTo_zero (v : Nat) (S : List E) : allTo v S 0 = be8 v ++ [UInt8.ofNat (S.length / 256), UInt8.ofNat S.length] := by simp [allTo, entsB]
theorem allTo_succ (v : Nat) (S : List E) (k : Nat) (h : k < S.length) : allTo v S (k + 1) = allTo v S k ++ [UInt8.ofNat S[k].1.1.toNat] ++ S[k].1.2 ++ S[k].2 := by
  unfold allTo
  rw [List.take_succ_eq_append_getElem h, entsB_snoc]
  simp [entBytes]
theorem allTo_len (v : Nat) (S : List E) (hS : FitS S) (k : Nat) (h : k ≤ S.length) : (allTo v S k).length ≤ 10 + 201 * k := by
  induction k with
  | zero => simp [allTo, entsB, be8_length]
  | succ k ih =>
    have h1 := ih (by omega)
    obtain ⟨-, -, h2, h3⟩ := hS _ (List.getElem_mem (show k < S.length by omega))
    rw [allTo_succ v S k (by omega)]
    simp only [List.length_append, List.length_cons, List.length_nil]
    omega
set_option maxRecDepth 100000 in
set_option maxHeartbeats 4000000 in
theorem refEncodeAll_good (v : Nat) (sv : Value) (l : List E) (w : World) (h : EntsAt w sv l) (hl : l.length < 65536) (hv : isVersionB v = true) (hb : FitS l) :
    Calls Tryz.prog 37 #[.int .u64 v, sv] w fun e w' => e = .returned (.tuple #[.string ⟨(allB v l).toArray⟩, .agg #[.int .i64 0, .int .i64 0]]) ∧ Below w.heap.size w w' := by
  have hv64 := isVersionB_lt hv
  obtain ⟨a, cap, rfl, hcap, -⟩ := h.opened
  obtain ⟨w0, hw0⟩ : ∃ w0, w0 = w.alloc (.cells #[.int .i64 0, .int .i64 0] 69) := ⟨_, rfl⟩
  have HB : Hid (Below w.heap.size w w0) := Lib.hid (by rw [hw0]; exact (Below.refl _ w).alloc (Nat.le_refl _) _)
  have HR : Hid (w0.heap[w.heap.size]? = some (.cells #[.int .i64 0, .int .i64 0] 69 (0, 0))) := Lib.hid (by rw [hw0]; exact heap_new w _)
  have HL := Lib.hid (h.below HB.out)
  have HV := Lib.hid hv
  clear hv h
  go_enter Tryz.func37, Tryz.ntmps37
  go_upto_region 1 with fail
  rw [← hw0]
  clear hw0
  go_wp2_with fail
  refine (refIsVersion_any v _ hv64).mono ?_
  rintro e w1 ⟨rfl, rfl⟩
  rw [HV.out]
  have htwo := fun W => twoLen_at W l.length
  have hq : IntKind.i64.wrap ((l.length : Int) / 256) = (l.length : Int) / 256 := IntWalk.i64_in _ (by omega)
  have hadd : ∀ W, (Op.stringOp .add ⟨(be8 v).toArray⟩ ⟨[UInt8.ofNat (l.length / 256), UInt8.ofNat l.length].toArray⟩).run Tryz.prog W = .ok (.string ⟨(be8 v ++ [UInt8.ofNat (l.length / 256), UInt8.ofNat l.length]).toArray⟩) W := fun W => by
    rw [run_string_add_sum W _ _ (by simp [ByteArray.size, be8_length]), ByteArray.mk_append_mk]
  have k0 := (BytesAt.drewN (htwo w0) 1).convert
  have k0' := (htwo w0).convert
  rw [show ∀ w : World, w.drewN 1 = w.drew from fun _ => rfl] at k0
  go_upto_region 4 with fail
  go_cut [7] (fun s wx => s = .string ⟨(allTo v l 0).toArray⟩ ∧ Below w0.heap.size w0 wx)
  case first =>
    go_region_with ((first
      | (go_at_call 76; refine (refNumber_any v _ hv64).mono ?_; rintro e w3 ⟨rfl, hb3⟩;
          have k1 := (htwo w3).convert;
          (first | (have k2 := (BytesAt.below (w := (w0.alloc _).drew) (htwo w0) hb3).convert) | skip))))
    all_goals (go_wp2_with fail; go_meet; refine ⟨by rw [allTo_zero], ?_⟩)
    all_goals first
      | exact ((Below.refl w0.heap.size w0).drew.trans hb3).alloc hb3.size _
      | exact (((Below.refl w0.heap.size w0).drew.trans hb3).alloc hb3.size _).drew
      | exact (((Below.refl w0.heap.size w0).alloc (Nat.le_refl _) _).drew.trans (hb3.mono (by simp)))
      | exact (((Below.refl w0.heap.size w0).alloc (Nat.le_refl _) _).drew.trans (hb3.mono (by simp))).drew
  case rest =>
    obtain ⟨rfl, hb3⟩ := hcut
    have hs3 := hb3.size
    have HB3 := Lib.hid hb3
    have hwr := block_lt HR.out
    clear k0 k0' hadd htwo hq
    have HFIT := Lib.hid hb
    clear hb hb3
    go_wp2_with fail
    go_loopw [7, 8] (fun s i wr => ∃ k : Nat, k ≤ l.length ∧ i = .int .i64 (k : Int) ∧ s = .string ⟨(allTo v l k).toArray⟩ ∧ Below w0.heap.size w0 wr) (fun _ i _ => l.length - (intOf i).toNat)
    case atStart => exact ⟨0, by omega, rfl, rfl, HB3.out⟩
    case round =>
      obtain ⟨k, hk, rfl, rfl, hbr⟩ := hrel
      have hsr := hbr.size
      have HBR := Lib.hid hbr
      clear hbr
      by_cases hlt : k < l.length
      · have hlt' : (k : Int) < l.length := by omega
        obtain ⟨a', cap', he, -, hx⟩ := (HL.out.below HBR.out).opened
        cases he
        obtain ⟨eb, eo, rfl, c0, c1, c2⟩ := hx k hlt
        obtain ⟨g0, g1, g2, g3⟩ := HFIT.out _ (List.getElem_mem hlt)
        have hsu := allTo_succ v l k hlt
        have hle := allTo_len v l HFIT.out k hk
        obtain ⟨x, hxk⟩ : ∃ x, x = l[k] := ⟨_, rfl⟩
        rw [← hxk] at c0 c1 c2 g0 g1 g2 g3 hsu
        obtain ⟨⟨T, KB⟩, VB⟩ := x
        simp only at c0 c1 c2 g0 g1 g2 g3 hsu
        have HSU := Lib.hid hsu
        obtain ⟨P, hP⟩ : ∃ P, P = allTo v l k := ⟨_, rfl⟩
        rw [← hP] at HSU hle ⊢
        have hPl : P.length ≤ 20000000 := by omega
        clear hsu hxk hx hP hle
        have le := cell_lt c0
        have hcv := conv_byte T g0 g1
        have hone := fun W => one_byte T g0 g1 W
        have k0 := (BytesAt.drewN (hone wr) 1).convert
        have k0' := (hone wr).convert
        have k1 := (hone wr.drew).convert
        rw [show ∀ w : World, w.drewN 1 = w.drew from fun _ => rfl] at k0
        have ha1 : ∀ W, (Op.stringOp .add ⟨P.toArray⟩ ⟨[UInt8.ofNat T.toNat].toArray⟩).run Tryz.prog W = .ok (.string ⟨(P ++ [UInt8.ofNat T.toNat]).toArray⟩) W := fun W => by
          rw [run_string_add_sum W _ _ (by simp [ByteArray.size]; omega), ByteArray.mk_append_mk]
        have ha2 : ∀ W, (Op.stringOp .add ⟨(P ++ [UInt8.ofNat T.toNat]).toArray⟩ ⟨KB.toArray⟩).run Tryz.prog W = .ok (.string ⟨(P ++ [UInt8.ofNat T.toNat] ++ KB).toArray⟩) W := fun W => by
          rw [run_string_add_sum W _ _ (by simp [ByteArray.size]; omega), ByteArray.mk_append_mk]
        have ha3 : ∀ W, (Op.stringOp .add ⟨(P ++ [UInt8.ofNat T.toNat] ++ KB).toArray⟩ ⟨VB.toArray⟩).run Tryz.prog W = .ok (.string ⟨(P ++ [UInt8.ofNat T.toNat] ++ KB ++ VB).toArray⟩) W := fun W => by
          rw [run_string_add_sum W _ _ (by simp [ByteArray.size]; omega), ByteArray.mk_append_mk]
        go_upto_region 8 with fail
        go_region
        go_wp2_with fail
        refine ⟨⟨k + 1, by omega, by go_num, ?_, ?_⟩, ?_⟩
        · rw [HSU.out, ByteArray.mk_append_mk]
          simp
        · first
            | exact (HBR.out.alloc hsr _)
            | exact (HBR.out.alloc hsr _).drew
            | exact (HBR.out.drew.alloc hsr _)
        · simp [intOf]
          omega
      · obtain rfl : k = l.length := by omega
        have hge : ¬ (l.length : Int) < l.length := by omega
        have HE : Hid (allTo v l l.length = allB v l) := Lib.hid (by unfold allTo allB; rw [List.take_length])
        have HRR := Lib.hid (below_at HBR.out hwr HR.out)
        have r0 := cell_of_row _ _ 0 _ _ _ HRR.out
        have r1 := cell_of_row _ _ 1 _ _ _ HRR.out
        have fr0 := frozen_of_row _ _ 0 _ _ HRR.out
        have fr1 := frozen_of_row _ _ 1 _ _ HRR.out
        have ltr := block_lt HRR.out
        have e := heap_setCell _ _ 1 (.int .i64 0) (heap_setCell _ _ 0 (.int .i64 0) HRR.out)
        have x0 := cell_of_row _ _ 0 _ _ _ e
        have x1 := cell_of_row _ _ 1 _ _ _ e
        have hB := ((HB.out.tn HBR.out).setCell (p := ⟨w.heap.size, 0, none⟩) (Nat.le_refl _) (.int .i64 0)).setCell (p := ⟨w.heap.size, 1, none⟩) (Nat.le_refl _) (.int .i64 0)
        clear e
        go_wp2_with fail
        exact bodyPost_ret (v := .tuple #[.string ⟨(allTo v l l.length).toArray⟩, .agg #[.int .i64 0, .int .i64 0]]) (by simp [results, Tryz.results37, go_sem, x0, x1]) rfl ⟨by rw [HE.out], hB⟩
end Go.Proofs.YtkkfmkhbdoeglaaGreatDoor
