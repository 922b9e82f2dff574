/- The contract of package overlaykeep's delta: a delta that may be, out of numbers. No condition. -/
import Derived.Test.YtkkfmkhbdoeglaaDoorKeepOp
import Derived.Test.YtkkfmkhbdoeglaaDoorHeap4
import Derived.Test.YtkkfmkhbdoeglaaDoorRefOp
namespace Go.Proofs.YtkkfmkhbdoeglaaDoor
open Go.RowKit

/-- a value is a slice of numbers that reads as a list -/
def IntsAt (w : World) (v : Value) (l : List Int) : Prop := SliceAt w v 1 l.length (l.map fun x => .int .i64 x)
theorem IntsAt.opened {w : World} {v : Value} {l : List Int} (h : IntsAt w v l) :
    ∃ a cap, v = .slice a l.length cap ∧ l.length ≤ cap ∧ ∀ i (h : i < l.length), ∃ b off, a = some ⟨b, off, none⟩ ∧ w.cell? ⟨b, off + i, none⟩ = some (.int .i64 l[i]) := by
  obtain ⟨_, a, cap, rfl, hc, hx⟩ := h
  refine ⟨a, cap, rfl, hc, fun i hi => ?_⟩
  obtain ⟨b, off, rfl, hcell⟩ := hx i (by rw [List.length_map]; exact hi)
  exact ⟨b, off, rfl, by rw [hcell]; simp⟩
theorem IntsAt.below {w w' : World} {v : Value} {l : List Int} (h : IntsAt w v l) (hb : Below w.heap.size w w') : IntsAt w' v l := SliceAt.below h hb
/-- delta's loop, in plain data -/
def deltaLoop : List Int → List OpB → List OpB
  | a :: b :: r, os => if os.length < 8 then deltaLoop r (if (keysOf os).contains ((opN a b).table, (opN a b).key) then os else os ++ [opN a b]) else os
  | _, os => os
def deltaN (l : List Int) : List OpB := deltaLoop l [opN l.length 1]
theorem deltaLoop_full : ∀ (l : List Int) (os : List OpB), ¬ os.length < 8 → deltaLoop l os = os
  | [], os, _ => rfl
  | [_], os, _ => rfl
  | a :: b :: r, os, h => by unfold deltaLoop; rw [if_neg h]
theorem deltaLoop_short (l : List Int) (os : List OpB) (h : l.length < 2) : deltaLoop l os = os := by
  match l, h with
  | [], _ => rfl
  | [_], _ => rfl
theorem wrongFrom_snoc : ∀ (os : List OpB) (o : OpB) (i : Nat) (ks : List K), wrongFrom i ks os = none → opWrong o (ks ++ keysOf os) = 0 → wrongFrom i ks (os ++ [o]) = none
  | [], o, i, ks, _, h => by
    simp only [keysOf, List.map_nil, List.append_nil] at h
    simp [wrongFrom, h]
  | x :: os, o, i, ks, h1, h2 => by
    unfold wrongFrom at h1
    split at h1
    · rename_i h0
      rw [List.cons_append]
      unfold wrongFrom
      rw [if_pos h0]
      refine wrongFrom_snoc os o (i + 1) _ h1 ?_
      simpa [keysOf] using h2
    · cases h1
theorem deltaLoop_good : ∀ (n : Nat) (l : List Int) (os : List OpB), l.length ≤ n → wrongFrom 0 [] os = none → 1 ≤ os.length → os.length ≤ 8 → wrongFrom 0 [] (deltaLoop l os) = none ∧ 1 ≤ (deltaLoop l os).length ∧ (deltaLoop l os).length ≤ 8
  | n, [], os, _, h, h1, h8 => ⟨h, h1, h8⟩
  | n, [_], os, _, h, h1, h8 => ⟨h, h1, h8⟩
  | 0, a :: b :: r, os, hn, h, h1, h8 => by simp at hn
  | n + 1, a :: b :: r, os, hn, h, h1, h8 => by
    unfold deltaLoop
    by_cases h9 : os.length < 8
    · rw [if_pos h9]
      have hr : r.length ≤ n := by simp at hn; omega
      cases hc : (keysOf os).contains ((opN a b).table, (opN a b).key) with
      | true => exact deltaLoop_good n r os hr h h1 h8
      | false =>
        refine deltaLoop_good n r _ hr (wrongFrom_snoc os _ 0 [] h (opN_good a b _ (by simpa using hc))) ?_ ?_
        · simp
        · simp; omega
    · rw [if_neg h9]
      exact ⟨h, h1, h8⟩
/-- such a delta may be -/
theorem deltaN_good (l : List Int) (v : Nat) (hv : isVersionB v = true) : wrongB v (deltaN l) = none := by
  have h0 : wrongFrom 0 [] [opN l.length 1] = none := by
    unfold wrongFrom
    rw [if_pos (opN_good _ _ _ rfl)]
    rfl
  obtain ⟨h1, h2, h3⟩ := deltaLoop_good l.length l [opN l.length 1] (Nat.le_refl _) h0 (by simp) (by simp)
  unfold wrongB deltaN
  rw [if_neg (by rw [hv]; decide), if_neg (by omega)]
  exact h1
theorem deltaN_length (l : List Int) : 1 ≤ (deltaN l).length ∧ (deltaN l).length ≤ 8 := by
  have h0 : wrongFrom 0 [] [opN l.length 1] = none := by
    unfold wrongFrom
    rw [if_pos (opN_good _ _ _ rfl)]
    rfl
  exact (deltaLoop_good l.length l [opN l.length 1] (Nat.le_refl _) h0 (by simp) (by simp)).2
/-- what holds at delta's loop -/
def DeltaRel (w1 : World) (D v : Nat) (l : List Int) (i : Value) (wr : World) : Prop :=
  ∃ (k : Nat) (os : List OpB) (sv : Value), i = .int .i64 ((2 * k : Nat) : Int) ∧ 2 * k ≤ l.length + 1 ∧ deltaN l = deltaLoop (l.drop (2 * k)) os ∧ 1 ≤ os.length ∧ os.length ≤ 8 ∧
    wr.heap[D]? = some (.cells #[.int .u64 v, sv] 46 (0, 0)) ∧ OwnS wr w1.heap.size 4 sv os.length (opCells os) ∧ sv.ownBlock ≠ some D ∧ Below w1.heap.size w1 wr
/-- what holds at its inner loop -/
def TwiceRel (w6 : World) (os : List OpB) (key : K) (t i : Value) (wr : World) : Prop :=
  ∃ m : Nat, m ≤ os.length ∧ i = .int .i64 (m : Int) ∧ t = .bool ((keysOf (os.take m)).contains key) ∧ ∃ q, wr = w6.drewN q
theorem heap_new' (w : World) (o : Obj) : (w.alloc o).drew.heap[w.heap.size]? = some o := heap_new w o
theorem TwiceRel.step {w6 : World} {os : List OpB} {key : K} {m q : Nat} {b : Bool} (h : m < os.length) (hb : b = ((keysOf (os.take m)).contains key || ((os[m].table, os[m].key) == key))) : TwiceRel w6 os key (.bool b) (.int .i64 ((m + 1 : Nat) : Int)) (w6.drewN q) := by
  refine ⟨m + 1, h, rfl, ?_, q, rfl⟩
  rw [keysOf_take os m h, List.contains_append, hb]
  congr 2
  simp only [List.contains_cons, List.contains_nil, Bool.or_false]
  exact Bool.eq_iff_iff.2 (by rw [beq_iff_eq, beq_iff_eq]; exact eq_comm)
theorem deltaLoop_step {l : List Int} {k : Nat} {os : List OpB} (h : 2 * k + 1 < l.length) (h8 : os.length < 8) :
    deltaLoop (l.drop (2 * k)) os = deltaLoop (l.drop (2 * (k + 1))) (if (keysOf os).contains ((opN l[2 * k] l[2 * k + 1]).table, (opN l[2 * k] l[2 * k + 1]).key) then os else os ++ [opN l[2 * k] l[2 * k + 1]]) := by
  rw [List.drop_eq_getElem_cons (by omega), List.drop_eq_getElem_cons (by omega)]
  rw [deltaLoop, if_pos h8]
  rfl
theorem DeltaRel.next {w1 W : World} {D v j k : Nat} {l : List Int} {os : List OpB} {sv : Value} (hj : j = 2 * k) (hk : j + 1 < l.length) (hdl : deltaN l = deltaLoop (l.drop (2 * (k + 1))) os) (h1 : 1 ≤ os.length) (h8 : os.length ≤ 8)
    (hD : W.heap[D]? = some (.cells #[.int .u64 v, sv] 46 (0, 0))) (hown : OwnS W w1.heap.size 4 sv os.length (opCells os)) (hne : sv.ownBlock ≠ some D) (hb : Below w1.heap.size w1 W) (q : Nat) :
    DeltaRel w1 D v l (.int .i64 ((j : Int) + 2)) (W.drewN q) := by
  subst hj
  refine ⟨k + 1, os, sv, ?_, by omega, hdl, h1, h8, hD, hown, hne, hb.drewN q⟩
  rw [show ((2 * (k + 1) : Nat) : Int) = ((2 * k : Nat) : Int) + 2 by omega]
theorem DeltaRel.snoc {w1 w8 : World} {D v j k : Nat} {l : List Int} {os : List OpB} {o : OpB} {sa sa8 : Option Addr} {scap cap8 : Nat} (hj : j = 2 * k) (hk : j + 1 < l.length) (hdl : deltaN l = deltaLoop (l.drop (2 * (k + 1))) (os ++ [o])) (h8 : os.length < 8)
    (hD : w8.heap[D]? = some (.cells #[.int .u64 v, .slice sa os.length scap] 46 (0, 0))) (hown : OwnS w8 w1.heap.size 4 (.slice sa8 (os ++ [o]).length cap8) (os ++ [o]).length (opCells (os ++ [o]))) (hne : (Value.slice sa8 (os ++ [o]).length cap8).ownBlock ≠ some D) (hb : Below w1.heap.size w1 w8) (hge : w1.heap.size ≤ D) :
    DeltaRel w1 D v l (.int .i64 ((j : Int) + 2)) (w8.setCell ⟨D, 1, none⟩ (.slice sa8 (os.length + 1) cap8)) := by
  subst hj
  have e : (os ++ [o]).length = os.length + 1 := by simp
  rw [e] at hown hne
  refine ⟨k + 1, os ++ [o], .slice sa8 (os.length + 1) cap8, ?_, by omega, hdl, by simp, by rw [e]; omega, heap_setCell w8 D 1 _ hD, ?_, hne, hb.setCell (p := ⟨D, 1, none⟩) hge _⟩
  · rw [show ((2 * (k + 1) : Nat) : Int) = ((2 * k : Nat) : Int) + 2 by omega]
  · rw [e]
    exact hown.frame (by rw [size_setCell]; exact Nat.le_refl _) (fun b hb _ => Below.heap_setCell w8 ⟨D, 1, none⟩ _ b (fun e => hne (by rw [hb, e])))
set_option maxRecDepth 100000 in
set_option maxHeartbeats 1000000 in
theorem keepDelta_any (v : Nat) (rv : Value) (l : List Int) (w : World) (hr : IntsAt w rv l) (hll : l.length ≤ maxB) (hbd : ∀ x ∈ l, -9223372036854775808 ≤ x ∧ x ≤ 9223372036854775807) :
    Calls Tryd.prog 23 #[.int .u64 v, rv] w fun e w' => (∃ sv, e = .returned (.agg #[.int .u64 v, sv]) ∧ OwnS w' w.heap.size 4 sv (deltaN l).length (opCells (deltaN l))) ∧ Below w.heap.size w w' := by
  obtain ⟨ra, rcap, rfl, hrcap, -⟩ := hr.opened
  have HR := Lib.hid hr
  have hl9 := hll
  unfold maxB at hl9
  obtain ⟨o0, ho0⟩ : ∃ o0, o0 = opN l.length 1 := ⟨_, rfl⟩
  have HO0 := Lib.hid ho0
  have hop0 := fun W => keepOp_any (l.length : Int) 1 W (by omega) (by omega) (by omega) (by omega)
  rw [← ho0] at hop0
  have HOP0 := Lib.hid hop0
  clear hr ho0 hop0
  go_enter Tryd.func23, Tryd.ntmps23
  go_wp2_with fail
  refine (HOP0.out _).mono ?_
  rintro e w1 ⟨rfl, hb1⟩
  unfold opV
  have A1 := Lib.hid (below_at hb1 (by simp) (heap_new w (.cells #[.int .u64 0, .slice none 0 0] 46)))
  have b1 : Below w.heap.size w w1 := ((Below.refl _ w).alloc (Nat.le_refl _) _).trans (hb1.mono (by simp))
  have hlA := block_lt A1.out
  go_wp2
  have h0 : DeltaRel w1 (w1.heap.size + 1) v l (.int .i64 0) ((w1.alloc (.cells #[.int .i64 o0.kind, .int .i64 o0.table, .string ⟨o0.key.toArray⟩, .string ⟨o0.val.toArray⟩] 43)).alloc (.cells #[.int .u64 (v : Int), .slice (some ⟨w1.heap.size, 0, none⟩) 1 1] 46)) := by
    have hn := OwnS.new w1 #[.int .i64 o0.kind, .int .i64 o0.table, .string ⟨o0.key.toArray⟩, .string ⟨o0.val.toArray⟩] 43 0 0 w1.heap.size 4 1 1 (Nat.le_refl _) (by omega) (by decide) (by simp) (.inl (by omega))
    have hD := heap_new (w1.alloc (.cells #[.int .i64 o0.kind, .int .i64 o0.table, .string ⟨o0.key.toArray⟩, .string ⟨o0.val.toArray⟩] 43)) (.cells #[.int .u64 (v : Int), .slice (some ⟨w1.heap.size, 0, none⟩) 1 1] 46)
    rw [World.size_alloc] at hD
    refine ⟨0, [o0], _, rfl, by omega, by unfold deltaN; rw [HO0.out]; rfl, by simp, by simp, hD, hn.below ((Below.refl _ _).alloc (Nat.le_refl _) _), by simp [Value.ownBlock], ((Below.refl _ w1).alloc (Nat.le_refl _) _).alloc (by simp) _⟩
  generalize hw5 : (w1.alloc (.cells #[.int .i64 o0.kind, .int .i64 o0.table, .string ⟨o0.key.toArray⟩, .string ⟨o0.val.toArray⟩] 43)).alloc (.cells #[.int .u64 (v : Int), .slice (some ⟨w1.heap.size, 0, none⟩) 1 1] 46) = w5
  rw [hw5] at h0
  clear hw5
  go_loopw [6] (fun i wr => DeltaRel w1 (w1.heap.size + 1) v l i wr) (fun i _ => l.length + 2 - (intOf i).toNat)
  case atStart => exact h0
  case round =>
    clear h0
    obtain ⟨k, os, sv, rfl, hk, hdl, hos1, hos8, hD, hown, hneD, hbr⟩ := hrel
    obtain ⟨sa, scap, rfl⟩ := hown.shape
    have hsr := hbr.size
    have HDR := Lib.hid hD
    have hlD := block_lt hD
    have HDL := Lib.hid hdl
    have d1 : wr.cell? ⟨w1.heap.size + 1, 1, none⟩ = some (.slice sa os.length scap) := cell_of_row _ _ 1 _ _ _ hD
    have hbw : Below w.heap.size w wr := b1.trans (hbr.mono b1.size)
    clear hD hdl
    by_cases hgo : 2 * k + 1 < l.length ∧ os.length < 8
    · obtain ⟨hlt, h8⟩ := hgo
      have hlt' : ((2 * k : Nat) : Int) + 1 < l.length := by omega
      have h8' : (os.length : Int) < 8 := by omega
      obtain ⟨ra', rcap', he, -, hx⟩ := (HR.out.below hbw).opened
      cases he
      obtain ⟨rb, ro, rfl, c0⟩ := hx (2 * k) (by omega)
      obtain ⟨rb', ro', he, c1⟩ := hx (2 * k + 1) (by omega)
      cases he
      have HST := Lib.hid (deltaLoop_step hlt h8)
      have hba := hbd l[2 * k] (List.getElem_mem (by omega))
      have hbb := hbd l[2 * k + 1] (List.getElem_mem (by omega))
      have hop := fun W => keepOp_any l[2 * k] l[2 * k + 1] W hba.1 hba.2 hbb.1 hbb.2
      generalize l[2 * k] = xa at *
      generalize l[2 * k + 1] = xb at *
      obtain ⟨⟨kd, T, KB, VB⟩, ho⟩ : ∃ o, o = opN xa xb := ⟨_, rfl⟩
      rw [← ho] at hop HST
      have HOP := Lib.hid hop
      clear ho hop hba hbb hx
      have hcl := cell_lt c0
      obtain ⟨j, hj⟩ : ∃ j, j = 2 * k := ⟨_, rfl⟩
      have HJ := Lib.hid hj
      rw [← hj] at c0 c1 hlt'
      rw [← hj]
      have hj1 : j + 1 < l.length := by omega
      have hj2 : (j : Int) + 1 < l.length := by omega
      clear hj hlt
      unfold opV at HOP
      go_wp2
      have g0 : (0 : Int) ≤ (j : Int) := by omega
      have g4 : (j : Int) < l.length := by omega
      have g1 : IntKind.i64.wrap ((j : Int) + 1) = (j : Int) + 1 := IntWalk.i64_in _ (by omega)
      have g2 : (0 : Int) ≤ (j : Int) + 1 := by omega
      have g3 : ((j : Int) + 1).toNat = j + 1 := by omega
      go_region_held3 (fun w' => w'.cell? ⟨rb, ro + j, none⟩ = some (.int .i64 xa) ∧ w'.cell? ⟨rb, ro + (j + 1), none⟩ = some (.int .i64 xb))
        (first | with_reducible exact ⟨e0, e1⟩ | with_reducible exact ⟨k0, k1⟩ | go_keep)
        ((go_at_call 44; refine (HOP.out _).mono ?_; rintro e w6 ⟨rfl, hb6⟩;
            have hrb6 : rb < w6.heap.size := (by have h9 := hb6.size; simp at h9; omega);
            have e0 : w6.cell? ⟨rb, ro + j, none⟩ = some (.int .i64 xa) := (hb6.cell (p := ⟨rb, ro + j, none⟩) (by simp; omega)).trans (by go_keep);
            have e1 : w6.cell? ⟨rb, ro + (j + 1), none⟩ = some (.int .i64 xb) := (hb6.cell (p := ⟨rb, ro + (j + 1), none⟩) (by simp; omega)).trans (by go_keep);
            (first
              | (have hA : Below wr.drew.heap.size wr.drew w6 := by with_reducible exact hb6)
              | (have Q6 : w6.heap[wr.heap.size]? = some (.cells #[.int .i64 0, .int .i64 0, .string ⟨#[]⟩, .string ⟨#[]⟩] 43 (0, 0)) := below_at hb6 (by simp) (heap_new' wr _);
                  have m0 := cell_of_row _ _ 0 _ _ _ Q6; have m1 := cell_of_row _ _ 1 _ _ _ Q6; have m2 := cell_of_row _ _ 2 _ _ _ Q6; have m3 := cell_of_row _ _ 3 _ _ _ Q6;
                  have n0 := frozen_of_row _ _ 0 _ _ Q6; have n1 := frozen_of_row _ _ 1 _ _ Q6; have n2 := frozen_of_row _ _ 2 _ _ Q6; have n3 := frozen_of_row _ _ 3 _ _ Q6; have hlq := block_lt Q6; have HQ6 := Lib.hid Q6; clear Q6;
                  have k0 := set4_other (.int .i64 kd) (.int .i64 T) (.string ⟨KB.toArray⟩) (.string ⟨VB.toArray⟩) (Nat.ne_of_lt hcl) e0;
                  have k1 := set4_other (.int .i64 kd) (.int .i64 T) (.string ⟨KB.toArray⟩) (.string ⟨VB.toArray⟩) (Nat.ne_of_lt hcl) e1;
                  unfold set4 at k0 k1))))
      · have T7' := heap_new w6 (.cells #[.int .i64 kd, .int .i64 T, .string ⟨KB.toArray⟩, .string ⟨VB.toArray⟩] 43)
        have b7' : Below wr.heap.size wr (w6.alloc (.cells #[.int .i64 kd, .int .i64 T, .string ⟨KB.toArray⟩, .string ⟨VB.toArray⟩] 43)) := (((Below.refl wr.heap.size wr).drew).trans hA).alloc hA.size _
        have ht : wr.heap.size ≤ w6.heap.size := hA.size
        generalize hw7 : w6.alloc (.cells #[.int .i64 kd, .int .i64 T, .string ⟨KB.toArray⟩, .string ⟨VB.toArray⟩] 43) = w7
        rw [hw7] at T7' b7'
        have T7 := Lib.hid T7'
        have b7 := b7'
        clear hw7 T7' b7' e0 e1 hA hb6
        have D7 := Lib.hid (below_at b7 hlD HDR.out)
        have hown7 : Hid (OwnS w7 w1.heap.size 4 (.slice sa os.length scap) os.length (opCells os)) := Lib.hid (hown.below b7)
        have hs7 := b7.size
        have hltT := block_lt T7.out
        have hlD7 := block_lt D7.out
        clear hown g1 g2 g3 c0 c1
        go_wp2
        go_loopw [8, 9] (fun tw i wi => TwiceRel w7 os (T, KB) tw i wi) (fun _ i _ => os.length - (intOf i).toNat)
        case atStart => exact ⟨0, Nat.zero_le _, rfl, rfl, 0, rfl⟩
        case round =>
          obtain ⟨m, hm, rfl, rfl, q, rfl⟩ := hrel
          have q1 : w7.cell? ⟨w1.heap.size + 1, 1, none⟩ = some (.slice sa os.length scap) := cell_of_row _ _ 1 _ _ _ D7.out
          have u1 : w7.cell? ⟨w6.heap.size, 1, none⟩ = some (.int .i64 T) := cell_of_row _ _ 1 _ _ _ T7.out
          have u2 : w7.cell? ⟨w6.heap.size, 2, none⟩ = some (.string ⟨KB.toArray⟩) := cell_of_row _ _ 2 _ _ _ T7.out
          by_cases hlm : m < os.length
          · obtain ⟨sa', scap', he, -, hx⟩ := hown7.out.ops.opened
            cases he
            obtain ⟨sb, so, rfl, x0, x1, x2, x3⟩ := hx m hlm
            clear hx x0 x3
            have hlm' : (m : Int) < os.length := by omega
            have hscl := cell_lt x1
            cases htw : (keysOf (os.take m)).contains (T, KB) with
            | true =>
              have HTW := Lib.hid htw
              clear htw
              go_wp2
              go_quiet (fail)
              go_wp2
              exact ⟨TwiceRel.step hlm (by rw [HTW.out]; rfl), by simp [intOf]; omega⟩
            | false =>
              have HTW := Lib.hid htw
              clear htw
              cases hq : ((os[m].table, os[m].key) == (T, KB)) with
              | true =>
                have heq : ∀ w, (binOp .eql 41 (.agg #[.int .i64 os[m].table, .string ⟨os[m].key.toArray⟩]) (.agg #[.int .i64 T, .string ⟨KB.toArray⟩])).run Tryd.prog w = .ok (.bool true) w := fun w => by rw [eql_key, hq]
                have HQ := Lib.hid hq
                clear hq
                go_wp2
                go_quiet (fail)
                go_wp2
                exact ⟨TwiceRel.step hlm (by rw [HTW.out, HQ.out]; rfl), by simp [intOf]; omega⟩
              | false =>
                have heq : ∀ w, (binOp .eql 41 (.agg #[.int .i64 os[m].table, .string ⟨os[m].key.toArray⟩]) (.agg #[.int .i64 T, .string ⟨KB.toArray⟩])).run Tryd.prog w = .ok (.bool false) w := fun w => by rw [eql_key, hq]
                have HQ := Lib.hid hq
                clear hq
                go_wp2
                go_quiet (fail)
                go_wp2
                exact ⟨TwiceRel.step hlm (by rw [HTW.out, HQ.out]; rfl), by simp [intOf]; omega⟩
          · obtain rfl : m = os.length := by omega
            have hge : ¬ (os.length : Int) < os.length := by omega
            rw [List.take_length]
            cases htw : (keysOf os).contains (T, KB) with
            | true =>
              have HTW := Lib.hid htw
              clear htw
              go_wp2
              refine ⟨DeltaRel.next HJ.out hj1 (by rw [HDL.out, HST.out, if_pos HTW.out]) hos1 hos8 D7.out hown7.out hneD (hbr.trans (b7.mono hsr)) q, ?_⟩
              simp [intOf]
              omega
            | false =>
              have HTW := Lib.hid htw
              clear htw
              have u0 : w7.cell? ⟨w6.heap.size, 0, none⟩ = some (.int .i64 kd) := cell_of_row _ _ 0 _ _ _ T7.out
              have u3 : w7.cell? ⟨w6.heap.size, 3, none⟩ = some (.string ⟨VB.toArray⟩) := cell_of_row _ _ 3 _ _ _ T7.out
              have hownq : OwnS ((w7.drewN q).alloc (.cells #[.int .i64 kd, .int .i64 T, .string ⟨KB.toArray⟩, .string ⟨VB.toArray⟩] 43)) w1.heap.size 4 (.slice sa os.length scap) os.length (opCells os) := OwnS.below (w := w7.drewN q) hown7.out ((Below.refl _ _).alloc (Nat.le_refl _) _)
              have HOQ := Lib.hid hownq
              have hDq := heap_old (w7.drewN q) (.cells #[.int .i64 kd, .int .i64 T, .string ⟨KB.toArray⟩, .string ⟨VB.toArray⟩] 43) D7.out
              have HDQ := Lib.hid hDq
              have HONE := Lib.hid (oneOp_at (w7.drewN q) ⟨kd, T, KB, VB⟩)
              clear hownq hDq
              go_wp2_with (at_builtin; refine wpList_append_ops rfl (.tmp 61) (.tmp 63) rfl w1.heap.size (.slice sa os.length scap) os rfl (by exact HOQ.out) [⟨kd, T, KB, VB⟩] (by exact HONE.out) (by simp; omega) (by simp; omega) ?_; intro v8 w8 hown8 hg8 hb8 hap8; obtain ⟨sa8, cap8, rfl⟩ := hown8.shape; have D8 := Lib.hid (grown_at hg8 hneD HDQ.out); have y1 : w8.cell? ⟨w1.heap.size + 1, 1, none⟩ = some (.slice sa os.length scap) := cell_of_row _ _ 1 _ _ _ D8.out; have z1 := frozen_of_row _ _ 1 _ _ D8.out; have hlD8 := block_lt D8.out)
              have hdn : Hid (deltaN l = deltaLoop (l.drop (2 * (k + 1))) (os ++ [⟨kd, T, KB, VB⟩])) := Lib.hid (by rw [HDL.out, HST.out, if_neg (by rw [HTW.out]; decide)])
              refine ⟨DeltaRel.snoc HJ.out hj1 hdn.out h8 D8.out hown8 (hap8 _ (by simp; omega) hneD) ((((hbr.trans (b7.mono hsr)).drewN q).alloc (by simp; omega) _).trans hb8) (Nat.le_add_right _ _), ?_⟩
              simp [intOf]
              omega
      · have b6 : Below wr.heap.size wr w6 := (((Below.refl wr.heap.size wr).alloc (Nat.le_refl _) _).drew).trans (hb6.mono (by simp))
        have T7' := set4_heap HQ6.out (.int .i64 kd) (.int .i64 T) (.string ⟨KB.toArray⟩) (.string ⟨VB.toArray⟩)
        have b7' := set4_below b6 wr.heap.size (.int .i64 kd) (.int .i64 T) (.string ⟨KB.toArray⟩) (.string ⟨VB.toArray⟩) (Nat.le_refl _)
        unfold set4 at T7' b7'
        generalize hw7 : (((w6.setCell ⟨wr.heap.size, 0, none⟩ (.int .i64 kd)).setCell ⟨wr.heap.size, 1, none⟩ (.int .i64 T)).setCell ⟨wr.heap.size, 2, none⟩ (.string ⟨KB.toArray⟩)).setCell ⟨wr.heap.size, 3, none⟩ (.string ⟨VB.toArray⟩) = w7
        rw [hw7] at T7' b7'
        have T7 := Lib.hid T7'
        have b7 := b7'
        clear hw7 T7' b7' e0 e1 hb6 b6 k0 k1 m0 m1 m2 m3 n0 n1 n2 n3
        have D7 := Lib.hid (below_at b7 hlD HDR.out)
        have hown7 : Hid (OwnS w7 w1.heap.size 4 (.slice sa os.length scap) os.length (opCells os)) := Lib.hid (hown.below b7)
        have hs7 := b7.size
        have hltT := block_lt T7.out
        have hlD7 := block_lt D7.out
        clear hown g1 g2 g3 c0 c1
        go_wp2
        go_loopw [8, 9] (fun tw i wi => TwiceRel w7 os (T, KB) tw i wi) (fun _ i _ => os.length - (intOf i).toNat)
        case atStart => exact ⟨0, Nat.zero_le _, rfl, rfl, 0, rfl⟩
        case round =>
          obtain ⟨m, hm, rfl, rfl, q, rfl⟩ := hrel
          have q1 : w7.cell? ⟨w1.heap.size + 1, 1, none⟩ = some (.slice sa os.length scap) := cell_of_row _ _ 1 _ _ _ D7.out
          have u1 : w7.cell? ⟨wr.heap.size, 1, none⟩ = some (.int .i64 T) := cell_of_row _ _ 1 _ _ _ T7.out
          have u2 : w7.cell? ⟨wr.heap.size, 2, none⟩ = some (.string ⟨KB.toArray⟩) := cell_of_row _ _ 2 _ _ _ T7.out
          by_cases hlm : m < os.length
          · obtain ⟨sa', scap', he, -, hx⟩ := hown7.out.ops.opened
            cases he
            obtain ⟨sb, so, rfl, x0, x1, x2, x3⟩ := hx m hlm
            clear hx x0 x3
            have hlm' : (m : Int) < os.length := by omega
            have hscl := cell_lt x1
            cases htw : (keysOf (os.take m)).contains (T, KB) with
            | true =>
              have HTW := Lib.hid htw
              clear htw
              go_wp2
              go_quiet (fail)
              go_wp2
              exact ⟨TwiceRel.step hlm (by rw [HTW.out]; rfl), by simp [intOf]; omega⟩
            | false =>
              have HTW := Lib.hid htw
              clear htw
              cases hq : ((os[m].table, os[m].key) == (T, KB)) with
              | true =>
                have heq : ∀ w, (binOp .eql 41 (.agg #[.int .i64 os[m].table, .string ⟨os[m].key.toArray⟩]) (.agg #[.int .i64 T, .string ⟨KB.toArray⟩])).run Tryd.prog w = .ok (.bool true) w := fun w => by rw [eql_key, hq]
                have HQ := Lib.hid hq
                clear hq
                go_wp2
                go_quiet (fail)
                go_wp2
                exact ⟨TwiceRel.step hlm (by rw [HTW.out, HQ.out]; rfl), by simp [intOf]; omega⟩
              | false =>
                have heq : ∀ w, (binOp .eql 41 (.agg #[.int .i64 os[m].table, .string ⟨os[m].key.toArray⟩]) (.agg #[.int .i64 T, .string ⟨KB.toArray⟩])).run Tryd.prog w = .ok (.bool false) w := fun w => by rw [eql_key, hq]
                have HQ := Lib.hid hq
                clear hq
                go_wp2
                go_quiet (fail)
                go_wp2
                exact ⟨TwiceRel.step hlm (by rw [HTW.out, HQ.out]; rfl), by simp [intOf]; omega⟩
          · obtain rfl : m = os.length := by omega
            have hge : ¬ (os.length : Int) < os.length := by omega
            rw [List.take_length]
            cases htw : (keysOf os).contains (T, KB) with
            | true =>
              have HTW := Lib.hid htw
              clear htw
              go_wp2
              refine ⟨DeltaRel.next HJ.out hj1 (by rw [HDL.out, HST.out, if_pos HTW.out]) hos1 hos8 D7.out hown7.out hneD (hbr.trans (b7.mono hsr)) q, ?_⟩
              simp [intOf]
              omega
            | false =>
              have HTW := Lib.hid htw
              clear htw
              have u0 : w7.cell? ⟨wr.heap.size, 0, none⟩ = some (.int .i64 kd) := cell_of_row _ _ 0 _ _ _ T7.out
              have u3 : w7.cell? ⟨wr.heap.size, 3, none⟩ = some (.string ⟨VB.toArray⟩) := cell_of_row _ _ 3 _ _ _ T7.out
              have hownq : OwnS ((w7.drewN q).alloc (.cells #[.int .i64 kd, .int .i64 T, .string ⟨KB.toArray⟩, .string ⟨VB.toArray⟩] 43)) w1.heap.size 4 (.slice sa os.length scap) os.length (opCells os) := OwnS.below (w := w7.drewN q) hown7.out ((Below.refl _ _).alloc (Nat.le_refl _) _)
              have HOQ := Lib.hid hownq
              have hDq := heap_old (w7.drewN q) (.cells #[.int .i64 kd, .int .i64 T, .string ⟨KB.toArray⟩, .string ⟨VB.toArray⟩] 43) D7.out
              have HDQ := Lib.hid hDq
              have HONE := Lib.hid (oneOp_at (w7.drewN q) ⟨kd, T, KB, VB⟩)
              clear hownq hDq
              go_wp2_with (at_builtin; refine wpList_append_ops rfl (.tmp 61) (.tmp 63) rfl w1.heap.size (.slice sa os.length scap) os rfl (by exact HOQ.out) [⟨kd, T, KB, VB⟩] (by exact HONE.out) (by simp; omega) (by simp; omega) ?_; intro v8 w8 hown8 hg8 hb8 hap8; obtain ⟨sa8, cap8, rfl⟩ := hown8.shape; have D8 := Lib.hid (grown_at hg8 hneD HDQ.out); have y1 : w8.cell? ⟨w1.heap.size + 1, 1, none⟩ = some (.slice sa os.length scap) := cell_of_row _ _ 1 _ _ _ D8.out; have z1 := frozen_of_row _ _ 1 _ _ D8.out; have hlD8 := block_lt D8.out)
              have hdn : Hid (deltaN l = deltaLoop (l.drop (2 * (k + 1))) (os ++ [⟨kd, T, KB, VB⟩])) := Lib.hid (by rw [HDL.out, HST.out, if_neg (by rw [HTW.out]; decide)])
              refine ⟨DeltaRel.snoc HJ.out hj1 hdn.out h8 D8.out hown8 (hap8 _ (by simp; omega) hneD) ((((hbr.trans (b7.mono hsr)).drewN q).alloc (by simp; omega) _).trans hb8) (Nat.le_add_right _ _), ?_⟩
              simp [intOf]
              omega
    · have hend : deltaN l = os := by
        rw [HDL.out]
        by_cases h2 : 2 * k + 1 < l.length
        · exact deltaLoop_full _ _ (fun h => hgo ⟨h2, h⟩)
        · exact deltaLoop_short _ _ (by rw [List.length_drop]; omega)
      have htest : (¬ ((2 * k : Nat) : Int) + 1 < l.length) ∨ (((2 * k : Nat) : Int) + 1 < l.length ∧ ¬ (os.length : Int) < 8) := by omega
      have HEND := Lib.hid hend
      have AR := Lib.hid (below_at hbr hlA A1.out)
      have d0 : wr.cell? ⟨w1.heap.size + 1, 0, none⟩ = some (.int .u64 v) := cell_of_row _ _ 0 _ _ _ HDR.out
      have p0 : wr.cell? ⟨w.heap.size, 0, none⟩ = some (.int .u64 0) := cell_of_row _ _ 0 _ _ _ AR.out
      have p1 : wr.cell? ⟨w.heap.size, 1, none⟩ = some (.slice none 0 0) := cell_of_row _ _ 1 _ _ _ AR.out
      have z0 := frozen_of_row _ _ 0 _ _ AR.out
      have z1 := frozen_of_row _ _ 1 _ _ AR.out
      have hlar := block_lt AR.out
      have x0 : ((wr.setCell ⟨w.heap.size, 0, none⟩ (.int .u64 v)).setCell ⟨w.heap.size, 1, none⟩ (.slice sa os.length scap)).cell? ⟨w.heap.size, 0, none⟩ = some (.int .u64 v) := cell_of_row _ _ 0 _ _ _ (heap_setCell _ _ 1 _ (heap_setCell _ _ 0 _ AR.out))
      have x1 : ((wr.setCell ⟨w.heap.size, 0, none⟩ (.int .u64 v)).setCell ⟨w.heap.size, 1, none⟩ (.slice sa os.length scap)).cell? ⟨w.heap.size, 1, none⟩ = some (.slice sa os.length scap) := cell_of_row _ _ 1 _ _ _ (heap_setCell _ _ 1 _ (heap_setCell _ _ 0 _ AR.out))
      have hgA : wr.grownBy ((wr.setCell ⟨w.heap.size, 0, none⟩ (.int .u64 v)).setCell ⟨w.heap.size, 1, none⟩ (.slice sa os.length scap)) (some w.heap.size) := grownBy_set2 (grownBy_set (Below.refl _ wr) 0 _) 1 _
      have hOW := (hown.frame hgA.size (fun b hb hlt => hgA.block b hlt (fun e => by cases e; have := hown.ownBlock_ge _ hb; omega))).mono (show w.heap.size ≤ w1.heap.size by omega)
      have hB : Below w.heap.size w ((wr.setCell ⟨w.heap.size, 0, none⟩ (.int .u64 v)).setCell ⟨w.heap.size, 1, none⟩ (.slice sa os.length scap)) := (hbw.setCell (p := ⟨w.heap.size, 0, none⟩) (Nat.le_refl _) _).setCell (p := ⟨w.heap.size, 1, none⟩) (Nat.le_refl _) _
      clear hend hgo hown
      rcases htest with ht | ⟨ht, ht2⟩
      all_goals
        go_wp2
        refine bodyPost_ret (v := .agg #[.int .u64 v, .slice sa os.length scap]) (by simp [results, Tryd.results23, go_sem, x0, x1]) rfl ⟨⟨_, rfl, ?_⟩, hB⟩
        rw [HEND.out]
        exact hOW
end Go.Proofs.YtkkfmkhbdoeglaaDoor
