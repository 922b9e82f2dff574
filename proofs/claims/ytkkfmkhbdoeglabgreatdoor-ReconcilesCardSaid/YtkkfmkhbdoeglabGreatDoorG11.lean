/- A part of what is proved here: lemmas and contracts of single functions. No condition but those that each names. -/
import Derived.Test.YtkkfmkhbdoeglabGreatDoorG09
import Derived.Test.YtkkfmkhbdoeglabGreatDoorG10
namespace Go.Proofs.YtkkfmkhbdoeglabGreatDoor
open Go.RowKit
theorem eql_key (a c : Int) (b d : List UInt8) (w : World) : (binOp .eql 103 (.agg #[.int .i64 a, .string ⟨b.toArray⟩]) (.agg #[.int .i64 c, .string ⟨d.toArray⟩])).run Tryz.prog w = .ok (.bool ((a, b) == (c, d))) w := by
  have h := equal_key (a, b) (c, d) w
  unfold kV keyV at h
  simp only [binOp]
  simp [h]
set_option maxRecDepth 100000 in
set_option maxHeartbeats 1000000 in
theorem refOp_bad (kd T : Int) (KB VB : List UInt8) (sv : Value) (ks : List K) (w : World) (hbad : kd < 1 ∨ 2 < kd ∨ T < 0 ∨ 2 < T) :
    Calls Tryz.prog 99 #[opV ⟨kd, T, KB, VB⟩, sv] w fun e w' => e = .returned (.int .i64 (opWrong ⟨kd, T, KB, VB⟩ ks)) ∧ Below w.heap.size w w' := by
  have HB : Hid (opWrong ⟨kd, T, KB, VB⟩ ks = 6) := Lib.hid (by rw [opWrong, if_pos hbad])
  have hsp : kd < 1 ∨ (1 ≤ kd ∧ 2 < kd) ∨ (1 ≤ kd ∧ kd ≤ 2 ∧ T < 0) ∨ (1 ≤ kd ∧ kd ≤ 2 ∧ 0 ≤ T ∧ 3 ≤ T) := by omega
  clear hbad
  unfold opV
  rcases hsp with h1 | ⟨h1, h2⟩ | ⟨h1, h2, h3⟩ | ⟨h1, h2, h3, h4⟩
  all_goals
    go_enter Tryz.func99, Tryz.ntmps99
    go_wp2
    go_ret
    exact ⟨by rw [HB.out]; rfl, (Below.refl _ w).alloc (Nat.le_refl _) _⟩
set_option maxRecDepth 100000 in
set_option maxHeartbeats 2000000 in
theorem refOp_good (kd T : Int) (KB VB : List UInt8) (sv : Value) (us : List OpB) (w : World) (hs : OpsAt w sv us) (hl : us.length ≤ 100) (hk : KB.length ≤ maxB) (hv : VB.length ≤ maxB) (h1 : 1 ≤ kd) (h2 : kd ≤ 2) (h3 : 0 ≤ T) (h4 : T < 3) :
    Calls Tryz.prog 99 #[opV ⟨kd, T, KB, VB⟩, sv] w fun e w' => e = .returned (.int .i64 (opWrong ⟨kd, T, KB, VB⟩ (keysOf us))) ∧ Below w.heap.size w w' := by
  have hnb : ¬ (kd < 1 ∨ 2 < kd ∨ T < 0 ∨ 2 < T) := by omega
  have HNB := Lib.hid hnb
  clear hnb
  have HS := Lib.hid hs
  obtain ⟨a, cap, rfl, hcap, -⟩ := hs.opened
  clear hs
  unfold opV
  go_enter Tryz.func99, Tryz.ntmps99
  go_wp2_with fail
  refine (refIsKey_any T KB _ h3 h4 hk).mono ?_
  rintro e w1 ⟨rfl, m, rfl⟩
  cases hkB : isKeyB T KB with
  | false =>
    have HB : Hid (opWrong ⟨kd, T, KB, VB⟩ (keysOf us) = 7) := Lib.hid (opWrong_key HNB.out hkB)
    clear hkB
    go_wp2
    go_ret
    exact ⟨by rw [HB.out]; rfl, ((Below.refl _ w).alloc (Nat.le_refl _) _).drewN _⟩
  | true =>
    have HKB := Lib.hid hkB
    clear hkB
    generalize hw1 : (w.alloc (.cells #[.int .i64 kd, .int .i64 T, .string ⟨KB.toArray⟩, .string ⟨VB.toArray⟩] 105)).drewN m = w1
    have s1 : w.heap.size + 1 ≤ w1.heap.size := by rw [← hw1]; simp
    have b1 : Below w.heap.size w w1 := by rw [← hw1]; exact ((Below.refl _ w).alloc (Nat.le_refl _) _).drewN _
    have B1 : Hid (w1.heap[w.heap.size]? = some (.cells #[.int .i64 kd, .int .i64 T, .string ⟨KB.toArray⟩, .string ⟨VB.toArray⟩] 105 (0, 0))) := Lib.hid (by rw [← hw1]; exact heap_new w _)
    clear hw1
    go_wp2
    go_loopw [6] (fun i wr => ∃ k : Nat, k ≤ us.length ∧ i = .int .i64 k ∧ (keysOf (us.take k)).contains (T, KB) = false ∧ Below w1.heap.size w1 wr) (fun i _ => us.length - (intOf i).toNat)
    case atStart => exact ⟨0, by omega, rfl, rfl, Below.refl _ _⟩
    case round =>
      obtain ⟨k, hk', rfl, hct, hbr⟩ := hrel
      have hb := b1.trans (hbr.mono (by omega))
      have hbs := hbr.size
      have BR := Lib.hid (below_at hbr (by omega) B1.out)
      have q1 : wr.cell? ⟨w.heap.size, 1, none⟩ = some (.int .i64 T) := cell_of_row _ _ 1 _ _ _ BR.out
      have q2 : wr.cell? ⟨w.heap.size, 2, none⟩ = some (.string ⟨KB.toArray⟩) := cell_of_row _ _ 2 _ _ _ BR.out
      have hlq := block_lt BR.out
      by_cases hlt : k < us.length
      · obtain ⟨a', cap', he, hc', hx⟩ := (HS.out.below hb).opened
        cases he
        obtain ⟨b, off, rfl, c0, c1, c2, c3⟩ := hx k hlt
        clear hx hc' c0 c3
        have hlt' : (k : Int) < us.length := by omega
        have hcl := cell_lt c1
        have HKT := Lib.hid (keysOf_take us k hlt)
        have HC := Lib.hid hct
        clear hct
        have hmem : (us[k].table, us[k].key) ∈ keysOf us := List.mem_map.2 ⟨us[k], List.getElem_mem hlt, rfl⟩
        have HM := Lib.hid hmem
        clear hmem
        cases hq : ((us[k].table, us[k].key) == (T, KB)) with
        | true =>
          have HB : Hid (opWrong ⟨kd, T, KB, VB⟩ (keysOf us) = 8) := Lib.hid (opWrong_twice HNB.out HKB.out (by rw [beq_iff_eq] at hq; rw [List.contains_iff_mem, ← hq]; exact HM.out))
          have heq : ∀ w, (binOp .eql 103 (.agg #[.int .i64 us[k].table, .string ⟨us[k].key.toArray⟩]) (.agg #[.int .i64 T, .string ⟨KB.toArray⟩])).run Tryz.prog w = .ok (.bool true) w := fun w => by rw [eql_key, hq]
          clear hq
          go_wp2
          go_quiet (fail)
          go_wp2
          go_ret
          exact ⟨by rw [HB.out]; rfl, hb.drewN _⟩
        | false =>
          have heq : ∀ w, (binOp .eql 103 (.agg #[.int .i64 us[k].table, .string ⟨us[k].key.toArray⟩]) (.agg #[.int .i64 T, .string ⟨KB.toArray⟩])).run Tryz.prog w = .ok (.bool false) w := fun w => by rw [eql_key, hq]
          have HQ := Lib.hid hq
          clear hq
          go_wp2
          go_quiet (fail)
          go_wp2
          go_roundw
          case rel =>
            refine ⟨k + 1, by omega, by go_num, ?_, hbr.drewN _⟩
            rw [HKT.out, List.contains_append, HC.out]
            simp only [Bool.false_or, List.contains_cons, List.contains_nil, Bool.or_false]
            have := HQ.out
            rw [beq_eq_false_iff_ne] at this ⊢
            exact fun e => this e.symm
          case measure => simp [intOf]; omega
      · obtain rfl : k = us.length := by omega
        rw [List.take_length] at hct
        have HC := Lib.hid hct
        clear hct
        have q0 : wr.cell? ⟨w.heap.size, 0, none⟩ = some (.int .i64 kd) := cell_of_row _ _ 0 _ _ _ BR.out
        have q3 : wr.cell? ⟨w.heap.size, 3, none⟩ = some (.string ⟨VB.toArray⟩) := cell_of_row _ _ 3 _ _ _ BR.out
        have hge : ¬ (us.length : Int) < us.length := by omega
        have hkd : kd = 1 ∨ kd = 2 := by omega
        have HRV := Lib.hid (fun W => refIsValue_any T VB W h3 h4 hv)
        rcases hkd with rfl | rfl
        · cases hvB : isValueB T VB with
          | true =>
            rw [hvB] at HRV
            have HB : Hid (opWrong ⟨1, T, KB, VB⟩ (keysOf us) = 0) := Lib.hid (opWrong_of (o := ⟨1, T, KB, VB⟩) (.inl rfl) h3 h4 HKB.out HC.out hvB)
            clear hvB
            go_wp2_with (go_at_call 140; refine (HRV.out _).mono ?_; rintro e w4 ⟨rfl, rfl⟩)
            go_ret
            exact ⟨by rw [HB.out]; rfl, hb⟩
          | false =>
            rw [hvB] at HRV
            have HB : Hid (opWrong ⟨1, T, KB, VB⟩ (keysOf us) = 9) := Lib.hid (opWrong_val HNB.out HKB.out HC.out (show valOk ⟨1, T, KB, VB⟩ = false from hvB))
            clear hvB
            go_wp2_with (go_at_call 140; refine (HRV.out _).mono ?_; rintro e w4 ⟨rfl, rfl⟩)
            go_ret
            exact ⟨by rw [HB.out]; rfl, hb⟩
        · by_cases hvE : VB = []
          · subst hvE
            have HB : Hid (opWrong ⟨2, T, KB, []⟩ (keysOf us) = 0) := Lib.hid (opWrong_of (o := ⟨2, T, KB, []⟩) (.inr rfl) h3 h4 HKB.out HC.out rfl)
            go_wp2_with (go_at_call 140; refine (HRV.out _).mono ?_; rintro e w4 ⟨rfl, rfl⟩)
            go_ret
            exact ⟨by rw [HB.out]; rfl, hb⟩
          · have HB : Hid (opWrong ⟨2, T, KB, VB⟩ (keysOf us) = 9) := Lib.hid (opWrong_val HNB.out HKB.out HC.out (by simpa [valOk] using hvE))
            obtain ⟨vx, vs, rfl⟩ := List.exists_cons_of_ne_nil hvE
            clear hvE
            go_wp2_with (go_at_call 140; refine (HRV.out _).mono ?_; rintro e w4 ⟨rfl, rfl⟩)
            go_ret
            exact ⟨by rw [HB.out]; rfl, hb⟩
theorem refOp_any (o : OpB) (sv : Value) (us : List OpB) (w : World) (hs : OpsAt w sv us) (hl : us.length ≤ 100) (hk : o.key.length ≤ maxB) (hv : o.val.length ≤ maxB) :
    Calls Tryz.prog 99 #[opV o, sv] w fun e w' => e = .returned (.int .i64 (opWrong o (keysOf us))) ∧ Below w.heap.size w w' := by
  obtain ⟨kd, T, KB, VB⟩ := o
  by_cases hbad : kd < 1 ∨ 2 < kd ∨ T < 0 ∨ 2 < T
  · exact refOp_bad kd T KB VB sv (keysOf us) w hbad
  · exact refOp_good kd T KB VB sv us w hs hl hk hv (by omega) (by omega) (by omega) (by omega)
end Go.Proofs.YtkkfmkhbdoeglabGreatDoor
namespace Go.Proofs.YtkkfmkhbdoeglabGreatDoor
open Go.RowKit
end Go.Proofs.YtkkfmkhbdoeglabGreatDoor
