/- A part of what is proved here: lemmas and contracts of single functions. No condition but those that each names. -/
import Derived.Test.YtkkfmkhbdoeglabGreatDoorG08
namespace Go.Proofs.YtkkfmkhbdoeglabGreatDoor
open Go.RowKit
/-- changes as cells -/
def opCells (os : List OpB) : List Value := os.flatMap fun o => [.int .i64 o.kind, .int .i64 o.table, .string ⟨o.key.toArray⟩, .string ⟨o.val.toArray⟩]
theorem opCells_length (os : List OpB) : (opCells os).length = os.length * 4 := by
  induction os with
  | nil => rfl
  | cons o os ih => simp only [opCells, List.flatMap_cons, List.length_append, List.length_cons, List.length_nil] at ih ⊢; omega
theorem opCells_append (os us : List OpB) : opCells (os ++ us) = opCells os ++ opCells us := by simp [opCells]
theorem opCells_at : ∀ (os : List OpB) (k : Nat) (h : k < os.length),
    (opCells os)[k * 4]? = some (.int .i64 os[k].kind) ∧ (opCells os)[k * 4 + 1]? = some (.int .i64 os[k].table) ∧ (opCells os)[k * 4 + 2]? = some (.string ⟨os[k].key.toArray⟩) ∧ (opCells os)[k * 4 + 3]? = some (.string ⟨os[k].val.toArray⟩)
  | o :: os, 0, h => ⟨rfl, rfl, rfl, rfl⟩
  | o :: os, k + 1, h => by
    have ih := opCells_at os k (by simpa using h)
    have e : ∀ j, (k + 1) * 4 + j = 4 + (k * 4 + j) := fun j => by omega
    have e2 : ∀ j, (opCells (o :: os))[4 + j]? = (opCells os)[j]? := fun j => by
      rw [Nat.add_comm]; rfl
    refine ⟨?_, ?_, ?_, ?_⟩
    · have := e 0; simp only [Nat.add_zero] at this; rw [this, e2]; exact ih.1
    · rw [e, e2]; exact ih.2.1
    · rw [e, e2]; exact ih.2.2.1
    · rw [e, e2]; exact ih.2.2.2
/-- a value is a slice of changes that reads as a list -/
def OpsAt (w : World) (v : Value) (os : List OpB) : Prop := SliceAt w v 4 os.length (opCells os)
theorem OpsAt.opened {w : World} {v : Value} {os : List OpB} (h : OpsAt w v os) :
    ∃ a cap, v = .slice a os.length cap ∧ os.length ≤ cap ∧ ∀ k (h : k < os.length), ∃ b off, a = some ⟨b, off, none⟩ ∧ w.cell? ⟨b, off + k * 4, none⟩ = some (.int .i64 os[k].kind) ∧ w.cell? ⟨b, off + k * 4 + 1, none⟩ = some (.int .i64 os[k].table) ∧ w.cell? ⟨b, off + k * 4 + 2, none⟩ = some (.string ⟨os[k].key.toArray⟩) ∧ w.cell? ⟨b, off + k * 4 + 3, none⟩ = some (.string ⟨os[k].val.toArray⟩) := by
  obtain ⟨_, a, cap, rfl, hc, hx⟩ := h
  refine ⟨a, cap, rfl, hc, fun k hk => ?_⟩
  have hl := opCells_length os
  obtain ⟨h0, h1, h2, h3⟩ := opCells_at os k hk
  obtain ⟨b, off, rfl, c0⟩ := hx (k * 4) (by omega)
  obtain ⟨b1, o1, e1, c1⟩ := hx (k * 4 + 1) (by omega)
  cases e1
  obtain ⟨b2, o2, e2, c2⟩ := hx (k * 4 + 2) (by omega)
  cases e2
  obtain ⟨b3, o3, e3, c3⟩ := hx (k * 4 + 3) (by omega)
  cases e3
  rw [List.getElem?_eq_getElem (by omega)] at h0 h1 h2 h3
  refine ⟨b, off, rfl, ?_, ?_, ?_, ?_⟩
  · rw [c0, h0]
  · rw [Nat.add_assoc, c1, h1]
  · rw [Nat.add_assoc, c2, h2]
  · rw [Nat.add_assoc, c3, h3]
theorem OpsAt.below {w w' : World} {v : Value} {os : List OpB} (h : OpsAt w v os) (hb : Below w.heap.size w w') : OpsAt w' v os := SliceAt.below h hb
/-- a pointer to a fault of the call's own, or nil -/
def FaultPV (w : World) (base : Nat) (v : Value) (f : Option (Nat × Nat)) : Prop := ∃ fp, v = .pointer fp ∧ FaultP w base fp f
theorem FaultPV.new {W : World} {r : Value} (w : World) (base : Nat) (k' n' : Int) (k n : Nat) (hk : k' = k) (hn : n' = n) (g : Nat) (hg : g = w.heap.size) (h : base ≤ g) (hr : r = .pointer (some ⟨g, 0, none⟩)) (hW : W = w.alloc (.cells #[.int .i64 k', .int .i64 n', .nilIface] 186)) :
    FaultPV W base r (some (k, n)) := by
  subst hk hn hr hW hg
  exact ⟨_, rfl, w.heap.size, rfl, h, heap_new _ _⟩
/-- no string in a delta is too long -/
def OpsFit (os : List OpB) : Prop := ∀ o ∈ os, o.key.length ≤ maxB ∧ o.val.length ≤ maxB
set_option maxRecDepth 100000 in
set_option maxHeartbeats 400000 in
theorem checked_few (v : Nat) (sv : Value) (os : List OpB) (w : World) (hs : OpsAt w sv os) (hbad : isVersionB v = false ∨ os.length < 1 ∨ 8 < os.length) :
    Calls Tryz.prog 131 #[.agg #[.int .u64 v, sv]] w fun e w' => (∃ r, e = .returned r ∧ FaultPV w' w.heap.size r (wrongB v os)) ∧ Below w.heap.size w w' := by
  obtain ⟨a, cap, rfl, hcap, -⟩ := hs.opened
  clear hs
  cases hv : isVersionB v with
  | false =>
    have HW : wrongB v os = some (4, 0) := by unfold wrongB; rw [if_pos hv]
    rw [HW]
    clear HW
    go_enter Tryz.func131, Tryz.ntmps131
    go_wp2_with (first
      | (go_at_call 158; refine (isVersion_any v _).mono ?_; rintro e w' ⟨rfl, rfl⟩; rw [hv])
      | (go_at_call 107; refine (fault_any _ _ _).mono ?_; rintro e w' ⟨rfl, rfl⟩))
    go_ret
    refine ⟨⟨_, rfl, FaultPV.new _ _ 4 0 4 0 rfl rfl (w.heap.size + 1) (by simp) (by omega) rfl rfl⟩, ?_⟩
    · exact ((Below.refl _ w).alloc (Nat.le_refl _) _).alloc (by simp) _
  | true =>
    have hn : os.length < 1 ∨ 8 < os.length := hbad.resolve_left (by rw [hv]; decide)
    have HW : wrongB v os = some (5, 0) := by unfold wrongB; rw [if_neg (by rw [hv]; decide), if_pos hn]
    rw [HW]
    clear HW hbad
    generalize os.length = n at *
    rcases hn with hn | hn
    · have hn' : (n : Int) < 1 := by omega
      go_enter Tryz.func131, Tryz.ntmps131
      go_wp2_with (first
        | (go_at_call 158; refine (isVersion_any v _).mono ?_; rintro e w' ⟨rfl, rfl⟩; rw [hv])
        | (go_at_call 107; refine (fault_any _ _ _).mono ?_; rintro e w' ⟨rfl, rfl⟩))
      go_ret
      refine ⟨⟨_, rfl, FaultPV.new _ _ 5 0 5 0 rfl rfl (w.heap.size + 1) (by simp) (by omega) rfl rfl⟩, ?_⟩
      · exact ((Below.refl _ w).alloc (Nat.le_refl _) _).alloc (by simp) _
    · have hn' : (8 : Int) < n := by omega
      have hn1 : ¬ (n : Int) < 1 := by omega
      go_enter Tryz.func131, Tryz.ntmps131
      go_wp2_with (first
        | (go_at_call 158; refine (isVersion_any v _).mono ?_; rintro e w' ⟨rfl, rfl⟩; rw [hv])
        | (go_at_call 107; refine (fault_any _ _ _).mono ?_; rintro e w' ⟨rfl, rfl⟩))
      go_ret
      refine ⟨⟨_, rfl, FaultPV.new _ _ 5 0 5 0 rfl rfl (w.heap.size + 1) (by simp) (by omega) rfl rfl⟩, ?_⟩
      · exact ((Below.refl _ w).alloc (Nat.le_refl _) _).alloc (by simp) _
end Go.Proofs.YtkkfmkhbdoeglabGreatDoor
namespace Go.Proofs.YtkkfmkhbdoeglabGreatDoor
open Go.RowKit
/-- the keys of changes -/
def keysOf (os : List OpB) : List K := os.map fun o => (o.table, o.key)
theorem keysOf_take (os : List OpB) (k : Nat) (h : k < os.length) : keysOf (os.take (k + 1)) = keysOf (os.take k) ++ [(os[k].table, os[k].key)] := by
  unfold keysOf
  rw [List.take_succ_eq_append_getElem h, List.map_append]
  rfl
theorem wrongFrom_step (os : List OpB) (k : Nat) (h : k < os.length) : wrongFrom k (keysOf (os.take k)) (os.drop k) =
    if opWrong os[k] (keysOf (os.take k)) = 0 then wrongFrom (k + 1) (keysOf (os.take (k + 1))) (os.drop (k + 1)) else some (opWrong os[k] (keysOf (os.take k)), k) := by
  rw [List.drop_eq_getElem_cons h, keysOf_take os k h]
  rfl
theorem opWrong_key {kd T : Int} {KB VB : List UInt8} {ks : List K} (h : ¬ (kd < 1 ∨ 2 < kd ∨ T < 0 ∨ 2 < T)) (h1 : isKeyB T KB = false) : opWrong ⟨kd, T, KB, VB⟩ ks = 7 := by
  unfold opWrong
  rw [if_neg h, if_pos h1]
theorem opWrong_twice {kd T : Int} {KB VB : List UInt8} {ks : List K} (h : ¬ (kd < 1 ∨ 2 < kd ∨ T < 0 ∨ 2 < T)) (h1 : isKeyB T KB = true) (h2 : ks.contains (T, KB) = true) : opWrong ⟨kd, T, KB, VB⟩ ks = 8 := by
  unfold opWrong
  rw [if_neg h, h1, if_neg (by decide), if_pos h2]
theorem opWrong_val {kd T : Int} {KB VB : List UInt8} {ks : List K} (h : ¬ (kd < 1 ∨ 2 < kd ∨ T < 0 ∨ 2 < T)) (h1 : isKeyB T KB = true) (h2 : ks.contains (T, KB) = false) (h3 : valOk ⟨kd, T, KB, VB⟩ = false) : opWrong ⟨kd, T, KB, VB⟩ ks = 9 := by
  unfold opWrong
  rw [if_neg h, h1, if_neg (by decide), h2, if_neg (by decide), if_pos h3]
theorem SeenAt.old {w w' : World} {r : Nat} {ks : List K} (h : SeenAt w r ks) (hb : w'.heap[r]? = w.heap[r]?) : SeenAt w' r ks := MapAt.old h hb
set_option maxRecDepth 100000 in
set_option maxHeartbeats 2000000 in
theorem checked_loop (v : Nat) (sv : Value) (os : List OpB) (w : World) (hs : OpsAt w sv os) (hg : ShapesVar w) (hfit : OpsFit os) (hv : isVersionB v = true) (h1 : 1 ≤ os.length) (h8 : os.length ≤ 8) :
    Calls Tryz.prog 131 #[.agg #[.int .u64 v, sv]] w fun e w' => (∃ r, e = .returned r ∧ FaultPV w' w.heap.size r (wrongFrom 0 [] os)) ∧ Below w.heap.size w w' := by
  have hs1 := hs
  obtain ⟨a, cap, rfl, hcap, hx⟩ := hs.opened
  clear hx hs
  have HS := Lib.hid hs1
  clear hs1
  obtain ⟨n, hn⟩ : ∃ n, n = os.length := ⟨_, rfl⟩
  have HN := Lib.hid hn
  have hn1 : ¬ (n : Int) < 1 := by omega
  have hn8 : ¬ 8 < (n : Int) := by omega
  have hnn : n ≤ 8 := by omega
  have HS : Hid (OpsAt w (.slice a n cap) os) := Lib.hid (by rw [hn]; exact HS.out)
  rw [← hn]
  rw [← hn] at hcap
  clear hn h1 h8
  have hmm : ∀ w, (Instr.makeMap 271 (some (.int .i64 (n : Int)))).run Tryz.prog w = .ok (.map (some w.heap.size)) (w.alloc (.map #[] 0)) := fun w => by
    simp [Instr.makeMap, run_underlying Tryz.underlying271, asInt, asIntOf, Result.andThen]
  go_enter Tryz.func131, Tryz.ntmps131
  go_wp2_with (go_at_call 158; refine (isVersion_any v _).mono ?_; rintro e w' ⟨rfl, rfl⟩; rw [hv])
  generalize hw1 : (w.alloc (.cells #[.int .u64 (v : Int), .slice a n cap] 51)).alloc (.map #[] 0) = w1
  have s1 : w1.heap.size = w.heap.size + 1 + 1 := by rw [← hw1]; simp
  have e1 : Below w.heap.size w w1 := by rw [← hw1]; exact ((Below.refl _ w).alloc (Nat.le_refl _) _).alloc (by simp) _
  have m1 : SeenAt w1 (w.heap.size + 1) [] := by rw [← hw1]; have := MapAt.new (w.alloc (.cells #[.int .u64 (v : Int), .slice a n cap] 51)); simpa [SeenAt] using this
  clear hw1 hmm
  have HS1 := Lib.hid s1
  have HM1 := Lib.hid m1
  clear s1 m1
  go_loopw [29] (fun i wr => ∃ k : Nat, k ≤ n ∧ i = .int .i64 k ∧ SeenAt wr (w.heap.size + 1) (keysOf (os.take k)) ∧ Ext (fun j => j = w.heap.size + 1) w1 wr ∧ wrongFrom 0 [] os = wrongFrom k (keysOf (os.take k)) (os.drop k)) (fun i _ => n - (intOf i).toNat)
  case atStart => exact ⟨0, by omega, rfl, HM1.out, Ext.refl _ _, rfl⟩
  case round =>
    obtain ⟨k, hk, rfl, hmr, hxr, hwr⟩ := hrel
    have hbr : Below w.heap.size w wr := e1.trans (hxr.below (by have := HS1.out; omega) (fun j hj e => by omega))
    have hsr := hxr.size
    by_cases hlt : k < n
    · have hkl : k < os.length := by rw [← HN.out]; exact hlt
      obtain ⟨a', cap', he, hc', hx⟩ := (OpsAt.below HS.out hbr).opened
      cases he
      obtain ⟨b, off, rfl, c0, c1, c2, c3⟩ := hx k hkl
      clear hx hc'
      rw [wrongFrom_step os k hkl] at hwr
      have hof := hfit os[k] (List.getElem_mem hkl)
      have HKT := Lib.hid (keysOf_take os k hkl)
      obtain ⟨kd, T, KB, VB, ho⟩ : ∃ kd T KB VB, os[k] = ⟨kd, T, KB, VB⟩ := ⟨_, _, _, _, rfl⟩
      rw [ho] at c0 c1 c2 c3 hwr hof
      have HO := Lib.hid ho
      have HWR := Lib.hid hwr
      have HMR := Lib.hid hmr
      clear ho hwr hmr
      obtain ⟨hf1, hf2⟩ := hof
      have hlt' : (k : Int) < os.length := by omega
      have hn8' : (os.length : Int) ≤ 8 := by omega
      have hcl := cell_lt c0
      by_cases hbad : kd < 1 ∨ 2 < kd ∨ T < 0 ∨ 2 < T
      · have HB : Hid (wrongFrom 0 [] os = some (6, k)) := Lib.hid (by rw [HWR.out, opWrong, if_pos hbad]; rfl)
        have hsp : kd < 1 ∨ (1 ≤ kd ∧ 2 < kd) ∨ (1 ≤ kd ∧ kd ≤ 2 ∧ T < 0) ∨ (1 ≤ kd ∧ kd ≤ 2 ∧ 0 ≤ T ∧ 3 ≤ T) := by omega
        clear hbad
        rcases hsp with h1 | ⟨h1, h2⟩ | ⟨h1, h2, h3⟩ | ⟨h1, h2, h3, h4⟩
        all_goals
          go_wp2_with (go_at_call 107; refine (fault_any _ _ _).mono ?_; rintro e w' ⟨rfl, rfl⟩)
          go_ret
          rw [HB.out]
          exact ⟨⟨_, rfl, FaultPV.new _ _ 6 k 6 k rfl rfl (wr.heap.size + 1) (by simp) (by have := hbr.size; omega) rfl rfl⟩, ((hbr.alloc hbr.size _).alloc (by simp; have := hbr.size; omega) _)⟩
      · skip
--GOOD
        obtain ⟨hkd, hT0, hT3⟩ : (kd = 1 ∨ kd = 2) ∧ 0 ≤ T ∧ T < 3 := by omega
        clear hbad
        have hvr : ShapesVar wr := hg.new hbr
        rcases hkd with rfl | rfl
        · go_wp2_with fail
          refine (isKey_any T KB _ (hvr.alloc _) hT0 hT3 hf1).mono ?_
          rintro e w2 ⟨rfl, hb2⟩
          have hs2 : wr.heap.size + 1 ≤ w2.heap.size := by simpa using hb2.size
          have hbr2 : Below w.heap.size w w2 := (hbr.alloc hbr.size (.cells #[.int .i64 1, .int .i64 T, .string ⟨KB.toArray⟩, .string ⟨VB.toArray⟩] 105)).trans (hb2.mono (by simp; have := hbr.size; omega))
          have B2 := Lib.hid (below_at hb2 (by simp) (heap_new wr (.cells #[.int .i64 1, .int .i64 T, .string ⟨KB.toArray⟩, .string ⟨VB.toArray⟩] 105)))
          have M2 : Hid (SeenAt w2 (w.heap.size + 1) (keysOf (os.take k))) := Lib.hid (SeenAt.old HMR.out ((hb2.block _ (by simp; have := HMR.out.lt; omega)).trans (heap_alloc_old _ _ HMR.out.lt)))
          have X2 : Ext (fun j => j = w.heap.size + 1) w1 w2 := (hxr.alloc _).past hb2
          cases hkB : isKeyB T KB with
          | false =>
            have HB : Hid (wrongFrom 0 [] os = some (7, k)) := Lib.hid (by rw [HWR.out, opWrong_key (by omega) hkB]; rfl)
            go_wp2_with (go_at_call 107; refine (fault_any _ _ _).mono ?_; rintro e w' ⟨rfl, rfl⟩)
            go_ret
            rw [HB.out]
            exact ⟨⟨_, rfl, FaultPV.new _ _ 7 k 7 k rfl rfl w2.heap.size rfl (by have := hbr.size; omega) rfl rfl⟩, hbr2.alloc hbr2.size _⟩
          | true =>
            have HKB := Lib.hid hkB
            clear hkB
            have hzero : ∀ u : World, (zeroValue 3).run Tryz.prog u = .ok (.int .i64 0) u := fun u => by kernel_rfl
            obtain ⟨W1, st, hE, hM1, hG1, hS1, hTT⟩ := MapAt.entry M2.out (mt := 271) (e := 3) (z := .int .i64 0) Tryz.underlying271 hzero (T, KB)
            have L0 := fun n => MapAt.lookup (w := w2.drewN n) (MapAt.old M2.out rfl) (mt := 271) (e := 3) (z := .int .i64 0) Tryz.underlying271 (hzero _) (T, KB)
            have L1 := fun n => MapAt.lookup (w := W1.drewN n) (MapAt.old hM1 rfl) (mt := 271) (e := 3) (z := .int .i64 0) Tryz.underlying271 (hzero _) (T, KB)
            rw [atK_put] at L1
            obtain ⟨cnt, hcnt⟩ : ∃ cnt : Int, cnt = if (keysOf (os.take k)).contains (T, KB) then 1 else 0 := ⟨_, rfl⟩
            have hat : (atK (T, KB) ((keysOf (os.take k)).map fun k => (k, (Value.int .i64 1)))).getD (.int .i64 0) = .int .i64 cnt := by rw [hcnt]; exact atK_ones _ _
            obtain ⟨W2, hT3', hM2, hG2, hS2⟩ := hTT (.int .i64 (cnt + 1))
            have L2 := fun n => MapAt.lookup (w := W2.drewN n) (MapAt.old hM2 rfl) (mt := 271) (e := 3) (z := .int .i64 0) Tryz.underlying271 (hzero _) (T, KB)
            rw [atK_put] at L2
            simp only [hat, Option.getD_some] at hE hT3' L0 L1 L2
            simp only [kV, keyV, goInt] at hE hT3' L0 L1 L2
            have HM2 := Lib.hid hM2
            have HM1 := Lib.hid hM1
            clear hM1 hM2 hTT hat hzero
            have hc2 : 0 ≤ cnt ∧ cnt ≤ 1 := by rw [hcnt]; split <;> omega
            have Hcnt := Lib.hid hcnt
            clear hcnt
            have b1 : w2.cell? ⟨wr.heap.size, 1, none⟩ = some _ := cell_of_row _ _ 1 _ _ _ B2.out
            have b2 : w2.cell? ⟨wr.heap.size, 2, none⟩ = some _ := cell_of_row _ _ 2 _ _ _ B2.out
            have hrr := HMR.out.lt
            have B3 := Lib.hid (carry hG1 B2.out (by omega))
            have B4 := Lib.hid (carry hG2 B3.out (by omega))
            have b3 : W1.cell? ⟨wr.heap.size, 1, none⟩ = some _ := cell_of_row _ _ 1 _ _ _ B3.out
            have b4 : W1.cell? ⟨wr.heap.size, 2, none⟩ = some _ := cell_of_row _ _ 2 _ _ _ B3.out
            have b50 : W2.cell? ⟨wr.heap.size, 0, none⟩ = some _ := cell_of_row _ _ 0 _ _ _ B4.out
            have b5 : W2.cell? ⟨wr.heap.size, 1, none⟩ = some _ := cell_of_row _ _ 1 _ _ _ B4.out
            have b6 : W2.cell? ⟨wr.heap.size, 2, none⟩ = some _ := cell_of_row _ _ 2 _ _ _ B4.out
            have b7 : W2.cell? ⟨wr.heap.size, 3, none⟩ = some _ := cell_of_row _ _ 3 _ _ _ B4.out
            have hlt8 := block_lt B2.out
            have hlt9 := block_lt B3.out
            have hlt10 := block_lt B4.out
            have L0' := L0 1
            have L1' := L1 1
            have L2' := L2 1
            have hE' := hE 1
            have hT3'' := hT3' 1
            have hdr : ∀ w : World, w.drewN 1 = w.drew := fun _ => rfl
            rw [hdr] at L0' L1' L2'
            rw [hdr, hdr] at hE' hT3''
            clear L0 L1 L2 hE hT3' hdr
            have XW : Ext (fun j => j = w.heap.size + 1) w1 W2.drew := ((X2.grow hG1 (.inl rfl)).grow hG2 (.inl rfl)).drew
            have hbW : Below w.heap.size w W2.drew := e1.trans (XW.below (by have := HS1.out; omega) (fun j hj e => by omega))
            have hsW := hbW.size
            have hvW : ShapesVar W2.drew := hg.new hbW
            have hsW2 : w2.heap.size = W2.heap.size := by omega
            cases hct : (keysOf (os.take k)).contains (T, KB) with
            | true =>
              obtain rfl : cnt = 1 := by rw [Hcnt.out, hct]; rfl
              simp only [Int.reduceAdd] at hT3'' L2'
              have HB : Hid (wrongFrom 0 [] os = some (8, k)) := Lib.hid (by rw [HWR.out, opWrong_twice (by omega) HKB.out hct]; rfl)
              clear hct
              go_wp2
              go_region
              go_wp2_with (go_at_call 107; refine (fault_any _ _ _).mono ?_; rintro e w' ⟨rfl, rfl⟩)
              rename Ending.returned _ = Ending.returned _ => hq
              cases hq
              go_ret
              rw [HB.out]
              exact ⟨⟨_, rfl, FaultPV.new W2.drew _ 8 k 8 k rfl rfl W2.heap.size rfl (by simpa using hsW) rfl rfl⟩, hbW.alloc hbW.size _⟩
            | false =>
              obtain rfl : cnt = 0 := by rw [Hcnt.out, hct]; rfl
              simp only [Int.reduceAdd] at hT3'' L2'
              have HCT := Lib.hid hct
              clear hct
              go_wp2
              go_region
              go_wp2_with fail
              refine (isValue_any T VB _ hvW hT0 hT3 hf2).mono ?_
              rintro e w4 ⟨rfl, hb4⟩
              have hs4 := hb4.size
              cases hvB : isValueB T VB with
              | false =>
                have HB : Hid (wrongFrom 0 [] os = some (9, k)) := Lib.hid (by rw [HWR.out, opWrong_val (by omega) HKB.out HCT.out (show valOk ⟨1, T, KB, VB⟩ = false from hvB)]; rfl)
                clear hvB
                go_wp2_with (go_at_call 107; refine (fault_any _ _ _).mono ?_; rintro e w' ⟨rfl, rfl⟩)
                go_ret
                rw [HB.out]
                exact ⟨⟨_, rfl, FaultPV.new _ _ 9 k 9 k rfl rfl w4.heap.size rfl (by simp at hs4 hsW; omega) rfl rfl⟩, (hbW.trans (hb4.mono hsW)).alloc (by simp at hs4 hsW; omega) _⟩
              | true =>
                have HVB := Lib.hid hvB
                clear hvB
                have B5 := Lib.hid (below_at hb4 (block_lt (b := wr.heap.size) (w := W2.drew) B4.out) (w := W2.drew) B4.out)
                have c50 : w4.cell? ⟨wr.heap.size, 0, none⟩ = some _ := cell_of_row _ _ 0 _ _ _ B5.out
                have hlt11 := block_lt B5.out
                go_wp2
                go_roundw
                case rel =>
                  have e1 := putK_seen (T, KB) (keysOf (os.take k)) HCT.out
                  refine ⟨k + 1, by omega, by go_num, ?_, (XW.past hb4), ?_⟩
                  · rw [HKT.out, HO.out]
                    have hm := HM2.out
                    unfold SeenAt
                    rw [← e1]
                    exact MapAt.old hm (hb4.block _ (by have := HM2.out.lt; simpa using this))
                  · rw [HWR.out, opWrong_of (o := ⟨1, T, KB, VB⟩) (.inl rfl) hT0 hT3 HKB.out HCT.out HVB.out]
                    rfl
                case measure => simp [intOf]; omega
        · go_wp2_with fail
          refine (isKey_any T KB _ (hvr.alloc _) hT0 hT3 hf1).mono ?_
          rintro e w2 ⟨rfl, hb2⟩
          have hs2 : wr.heap.size + 1 ≤ w2.heap.size := by simpa using hb2.size
          have hbr2 : Below w.heap.size w w2 := (hbr.alloc hbr.size (.cells #[.int .i64 2, .int .i64 T, .string ⟨KB.toArray⟩, .string ⟨VB.toArray⟩] 105)).trans (hb2.mono (by simp; have := hbr.size; omega))
          have B2 := Lib.hid (below_at hb2 (by simp) (heap_new wr (.cells #[.int .i64 2, .int .i64 T, .string ⟨KB.toArray⟩, .string ⟨VB.toArray⟩] 105)))
          have M2 : Hid (SeenAt w2 (w.heap.size + 1) (keysOf (os.take k))) := Lib.hid (SeenAt.old HMR.out ((hb2.block _ (by simp; have := HMR.out.lt; omega)).trans (heap_alloc_old _ _ HMR.out.lt)))
          have X2 : Ext (fun j => j = w.heap.size + 1) w1 w2 := (hxr.alloc _).past hb2
          cases hkB : isKeyB T KB with
          | false =>
            have HB : Hid (wrongFrom 0 [] os = some (7, k)) := Lib.hid (by rw [HWR.out, opWrong_key (by omega) hkB]; rfl)
            go_wp2_with (go_at_call 107; refine (fault_any _ _ _).mono ?_; rintro e w' ⟨rfl, rfl⟩)
            go_ret
            rw [HB.out]
            exact ⟨⟨_, rfl, FaultPV.new _ _ 7 k 7 k rfl rfl w2.heap.size rfl (by have := hbr.size; omega) rfl rfl⟩, hbr2.alloc hbr2.size _⟩
          | true =>
            have HKB := Lib.hid hkB
            clear hkB
            have hzero : ∀ u : World, (zeroValue 3).run Tryz.prog u = .ok (.int .i64 0) u := fun u => by kernel_rfl
            obtain ⟨W1, st, hE, hM1, hG1, hS1, hTT⟩ := MapAt.entry M2.out (mt := 271) (e := 3) (z := .int .i64 0) Tryz.underlying271 hzero (T, KB)
            have L0 := fun n => MapAt.lookup (w := w2.drewN n) (MapAt.old M2.out rfl) (mt := 271) (e := 3) (z := .int .i64 0) Tryz.underlying271 (hzero _) (T, KB)
            have L1 := fun n => MapAt.lookup (w := W1.drewN n) (MapAt.old hM1 rfl) (mt := 271) (e := 3) (z := .int .i64 0) Tryz.underlying271 (hzero _) (T, KB)
            rw [atK_put] at L1
            obtain ⟨cnt, hcnt⟩ : ∃ cnt : Int, cnt = if (keysOf (os.take k)).contains (T, KB) then 1 else 0 := ⟨_, rfl⟩
            have hat : (atK (T, KB) ((keysOf (os.take k)).map fun k => (k, (Value.int .i64 1)))).getD (.int .i64 0) = .int .i64 cnt := by rw [hcnt]; exact atK_ones _ _
            obtain ⟨W2, hT3', hM2, hG2, hS2⟩ := hTT (.int .i64 (cnt + 1))
            have L2 := fun n => MapAt.lookup (w := W2.drewN n) (MapAt.old hM2 rfl) (mt := 271) (e := 3) (z := .int .i64 0) Tryz.underlying271 (hzero _) (T, KB)
            rw [atK_put] at L2
            simp only [hat, Option.getD_some] at hE hT3' L0 L1 L2
            simp only [kV, keyV, goInt] at hE hT3' L0 L1 L2
            have HM2 := Lib.hid hM2
            have HM1 := Lib.hid hM1
            clear hM1 hM2 hTT hat hzero
            have hc2 : 0 ≤ cnt ∧ cnt ≤ 1 := by rw [hcnt]; split <;> omega
            have Hcnt := Lib.hid hcnt
            clear hcnt
            have b1 : w2.cell? ⟨wr.heap.size, 1, none⟩ = some _ := cell_of_row _ _ 1 _ _ _ B2.out
            have b2 : w2.cell? ⟨wr.heap.size, 2, none⟩ = some _ := cell_of_row _ _ 2 _ _ _ B2.out
            have hrr := HMR.out.lt
            have B3 := Lib.hid (carry hG1 B2.out (by omega))
            have B4 := Lib.hid (carry hG2 B3.out (by omega))
            have b3 : W1.cell? ⟨wr.heap.size, 1, none⟩ = some _ := cell_of_row _ _ 1 _ _ _ B3.out
            have b4 : W1.cell? ⟨wr.heap.size, 2, none⟩ = some _ := cell_of_row _ _ 2 _ _ _ B3.out
            have b50 : W2.cell? ⟨wr.heap.size, 0, none⟩ = some _ := cell_of_row _ _ 0 _ _ _ B4.out
            have b5 : W2.cell? ⟨wr.heap.size, 1, none⟩ = some _ := cell_of_row _ _ 1 _ _ _ B4.out
            have b6 : W2.cell? ⟨wr.heap.size, 2, none⟩ = some _ := cell_of_row _ _ 2 _ _ _ B4.out
            have b7 : W2.cell? ⟨wr.heap.size, 3, none⟩ = some _ := cell_of_row _ _ 3 _ _ _ B4.out
            have hlt8 := block_lt B2.out
            have hlt9 := block_lt B3.out
            have hlt10 := block_lt B4.out
            have L0' := L0 1
            have L1' := L1 1
            have L2' := L2 1
            have hE' := hE 1
            have hT3'' := hT3' 1
            have hdr : ∀ w : World, w.drewN 1 = w.drew := fun _ => rfl
            rw [hdr] at L0' L1' L2'
            rw [hdr, hdr] at hE' hT3''
            clear L0 L1 L2 hE hT3' hdr
            have XW : Ext (fun j => j = w.heap.size + 1) w1 W2.drew := ((X2.grow hG1 (.inl rfl)).grow hG2 (.inl rfl)).drew
            have hbW : Below w.heap.size w W2.drew := e1.trans (XW.below (by have := HS1.out; omega) (fun j hj e => by omega))
            have hsW := hbW.size
            have hvW : ShapesVar W2.drew := hg.new hbW
            have hsW2 : w2.heap.size = W2.heap.size := by omega
            cases hct : (keysOf (os.take k)).contains (T, KB) with
            | true =>
              obtain rfl : cnt = 1 := by rw [Hcnt.out, hct]; rfl
              simp only [Int.reduceAdd] at hT3'' L2'
              have HB : Hid (wrongFrom 0 [] os = some (8, k)) := Lib.hid (by rw [HWR.out, opWrong_twice (by omega) HKB.out hct]; rfl)
              clear hct
              go_wp2
              go_region
              go_wp2_with (go_at_call 107; refine (fault_any _ _ _).mono ?_; rintro e w' ⟨rfl, rfl⟩)
              rename Ending.returned _ = Ending.returned _ => hq
              cases hq
              go_ret
              rw [HB.out]
              exact ⟨⟨_, rfl, FaultPV.new W2.drew _ 8 k 8 k rfl rfl W2.heap.size rfl (by simpa using hsW) rfl rfl⟩, hbW.alloc hbW.size _⟩
            | false =>
              obtain rfl : cnt = 0 := by rw [Hcnt.out, hct]; rfl
              simp only [Int.reduceAdd] at hT3'' L2'
              have HCT := Lib.hid hct
              clear hct
              go_wp2
              go_region
              by_cases hvE : VB = []
              · subst hvE
                go_wp2
                go_roundw
                case rel =>
                  have e1 := putK_seen (T, KB) (keysOf (os.take k)) HCT.out
                  refine ⟨k + 1, by omega, by go_num, ?_, XW, ?_⟩
                  · rw [HKT.out, HO.out]
                    have hm := HM2.out
                    unfold SeenAt
                    rw [← e1]
                    exact MapAt.old hm rfl
                  · rw [HWR.out, opWrong_of (o := ⟨2, T, KB, []⟩) (.inr rfl) hT0 hT3 HKB.out HCT.out rfl]
                    rfl
                case measure => simp [intOf]; omega
              · have HB : Hid (wrongFrom 0 [] os = some (9, k)) := Lib.hid (by rw [HWR.out, opWrong_val (by omega) HKB.out HCT.out (by simpa [valOk] using hvE)]; rfl)
                obtain ⟨vx, vs, rfl⟩ := List.exists_cons_of_ne_nil hvE
                clear hvE
                go_wp2_with (go_at_call 107; refine (fault_any _ _ _).mono ?_; rintro e w' ⟨rfl, rfl⟩)
                rename Ending.returned _ = Ending.returned _ => hq
                cases hq
                go_ret
                rw [HB.out]
                exact ⟨⟨_, rfl, FaultPV.new W2.drew _ 9 k 9 k rfl rfl W2.heap.size rfl (by simpa using hsW) rfl rfl⟩, hbW.alloc hbW.size _⟩
--END
    · have hkn : k = n := by omega
      have HF : Hid (wrongFrom 0 [] os = none) := Lib.hid (by rw [hwr, hkn, HN.out, List.drop_length]; rfl)
      have hge : ¬ (k : Int) < n := by omega
      clear hwr hkn
      go_wp2
      go_ret
      rw [HF.out]
      exact ⟨⟨_, rfl, none, rfl, rfl⟩, hbr⟩
end Go.Proofs.YtkkfmkhbdoeglabGreatDoor
namespace Go.Proofs.YtkkfmkhbdoeglabGreatDoor
open Go.RowKit
theorem checked_any (v : Nat) (sv : Value) (os : List OpB) (w : World) (hs : OpsAt w sv os) (hg : ShapesVar w) (hfit : OpsFit os) :
    Calls Tryz.prog 131 #[.agg #[.int .u64 v, sv]] w fun e w' => (∃ r, e = .returned r ∧ FaultPV w' w.heap.size r (wrongB v os)) ∧ Below w.heap.size w w' := by
  by_cases hbad : isVersionB v = false ∨ os.length < 1 ∨ 8 < os.length
  · exact checked_few v sv os w hs hbad
  · have hv : isVersionB v = true := by cases h : isVersionB v with | true => rfl | false => exact absurd (.inl h) hbad
    have h1 : 1 ≤ os.length := by omega
    have h8 : os.length ≤ 8 := by omega
    have e : wrongB v os = wrongFrom 0 [] os := by unfold wrongB; rw [if_neg (by rw [hv]; decide), if_neg (by omega)]
    rw [e]
    exact checked_loop v sv os w hs hg hfit hv h1 h8
end Go.Proofs.YtkkfmkhbdoeglabGreatDoor
