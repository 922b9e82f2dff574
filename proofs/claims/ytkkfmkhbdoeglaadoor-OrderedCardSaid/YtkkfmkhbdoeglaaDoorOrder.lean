/- The contract of package overlay's order: the order of keys, as a number below, at or above nought. No condition. -/
import Derived.Test.YtkkfmkhbdoeglaaDoorTabPlain
import Derived.WalkKit
import Derived.WalkLawsBesides
import Derived.Deep.RegionWith
import Derived.BigRegion
import Derived.BigQuiet
import Derived.Deep.QuietTactic
import Derived.StillTailTactics
import Derived.Shelf.SlSortCmp.NoneTotal
import Derived.Test.YtkkfmkhbdoeglaaDoorHeap
namespace Go.Proofs.YtkkfmkhbdoeglaaDoor
open Go.RowKit

theorem isNaNInt (x : Int) (w : World) : Calls Tryd.prog 101 #[.int .i64 x] w fun e w' => e = .returned (.bool false) ∧ w = w' := by
  have h : (x != x) = false := by simp
  go_enter Tryd.func101, Tryd.ntmps101
  go_wp2
  go_ret
  exact ⟨rfl, rfl⟩
theorem isNaNStr (x : List UInt8) (w : World) : Calls Tryd.prog 102 #[.string ⟨x.toArray⟩] w fun e w' => e = .returned (.bool false) ∧ w = w' := by
  have h : (x == x) = true := by simp
  go_enter Tryd.func102, Tryd.ntmps102
  go_wp2
  go_ret
  exact ⟨rfl, rfl⟩
def cmpI (a b : Int) : Int := if a < b then -1 else if b < a then 1 else 0
def cmpL (a b : List UInt8) : Int := if a < b then -1 else if b < a then 1 else 0
/-- the keys' order, as a number -/
def cmpK (a b : K) : Int := if cmpI a.1 b.1 ≠ 0 then cmpI a.1 b.1 else cmpL a.2 b.2
theorem compareInt_any (a b : Int) (w : World) : Calls Tryd.prog 93 #[.int .i64 a, .int .i64 b] w fun e w' => e = .returned (.int .i64 (cmpI a b)) ∧ w = w' := by
  rcases Int.lt_trichotomy a b with h | h | h
  · have HC : Hid (cmpI a b = -1) := Lib.hid (by unfold cmpI; rw [if_pos h])
    go_enter Tryd.func93, Tryd.ntmps93
    go_wp2_with (go_at_call 101; refine (isNaNInt _ _).mono ?_; rintro e w' ⟨rfl, rfl⟩)
    go_ret
    exact ⟨by rw [HC.out]; rfl, rfl⟩
  · subst h
    have HC : Hid (cmpI a a = 0) := Lib.hid (by unfold cmpI; simp)
    go_enter Tryd.func93, Tryd.ntmps93
    go_wp2_with (go_at_call 101; refine (isNaNInt _ _).mono ?_; rintro e w' ⟨rfl, rfl⟩)
    go_ret
    exact ⟨by rw [HC.out]; rfl, rfl⟩
  · have h' : ¬ a < b := by omega
    have HC : Hid (cmpI a b = 1) := Lib.hid (by unfold cmpI; rw [if_neg h', if_pos h])
    go_enter Tryd.func93, Tryd.ntmps93
    go_wp2_with (go_at_call 101; refine (isNaNInt _ _).mono ?_; rintro e w' ⟨rfl, rfl⟩)
    go_ret
    exact ⟨by rw [HC.out]; rfl, rfl⟩
theorem lt_tri (a b : List UInt8) : a < b ∨ a = b ∨ b < a := by
  by_cases h1 : a < b
  · exact .inl h1
  · by_cases h2 : b < a
    · exact .inr (.inr h2)
    · exact .inr (.inl (List.le_antisymm (List.not_lt.1 h2) (List.not_lt.1 h1)))
theorem compareStr_any (a b : List UInt8) (w : World) : Calls Tryd.prog 94 #[.string ⟨a.toArray⟩, .string ⟨b.toArray⟩] w fun e w' => e = .returned (.int .i64 (cmpL a b)) ∧ w = w' := by
  rcases lt_tri a b with h | h | h
  · have HC : Hid (cmpL a b = -1) := Lib.hid (by unfold cmpL; rw [if_pos h])
    have hb : Op.bytesLess a b = true := by rw [bytesLess_eq]; exact decide_eq_true h
    clear h
    go_enter Tryd.func94, Tryd.ntmps94
    go_wp2_with (go_at_call 102; refine (isNaNStr _ _).mono ?_; rintro e w' ⟨rfl, rfl⟩)
    go_ret
    exact ⟨by rw [HC.out]; rfl, rfl⟩
  · subst h
    have HC : Hid (cmpL a a = 0) := Lib.hid (by unfold cmpL; simp [List.lt_irrefl])
    have hb : Op.bytesLess a a = false := by rw [bytesLess_eq]; exact decide_eq_false (List.lt_irrefl a)
    have hq : (a == a) = true := beq_self_eq_true a
    go_enter Tryd.func94, Tryd.ntmps94
    go_wp2_with (go_at_call 102; refine (isNaNStr _ _).mono ?_; rintro e w' ⟨rfl, rfl⟩)
    go_ret
    exact ⟨by rw [HC.out]; rfl, rfl⟩
  · have h1 : ¬ a < b := fun h' => List.lt_irrefl a (List.lt_trans h' h)
    have h2 : a ≠ b := fun e => List.lt_irrefl a (by rw [e] at h ⊢; exact h)
    have HC : Hid (cmpL a b = 1) := Lib.hid (by unfold cmpL; rw [if_neg h1, if_pos h])
    have hb : Op.bytesLess a b = false := by rw [bytesLess_eq]; exact decide_eq_false h1
    have hq : (a == b) = false := by rw [beq_eq_false_iff_ne]; exact h2
    clear h h1 h2
    go_enter Tryd.func94, Tryd.ntmps94
    go_wp2_with (go_at_call 102; refine (isNaNStr _ _).mono ?_; rintro e w' ⟨rfl, rfl⟩)
    go_ret
    exact ⟨by rw [HC.out]; rfl, rfl⟩
theorem order_world (w : World) (a b c : Obj) : (((w.alloc a).alloc b).alloc c).drew = Sort.grow (w.drewN 1) #[a, b, c] := by
  have h : ((w.heap.push a).push b).push c = w.heap ++ #[a, b, c] := by
    apply Array.ext'
    simp
  unfold Sort.grow World.alloc World.drew World.drewN
  simp [h]
/-- the first that is not nought -/
theorem or_any (B cap : Nat) (x y : Int) (w : World) (h0 : w.cell? ⟨B, 0, none⟩ = some (.int .i64 x)) (h1 : w.cell? ⟨B, 1, none⟩ = some (.int .i64 y)) :
    Calls Tryd.prog 92 #[.slice (some ⟨B, 0, none⟩) 2 cap] w fun e w' => e = .returned (.int .i64 (if x ≠ 0 then x else y)) ∧ w = w' := by
  obtain ⟨z, hz⟩ : ∃ z, z = if x ≠ 0 then x else y := ⟨_, rfl⟩
  rw [← hz]
  have HZ := Lib.hid hz
  clear hz
  go_enter Tryd.func92, Tryd.ntmps92
  go_wp2
  go_loop [8] (fun i => i = .int .i64 0 ∨ (i = .int .i64 1 ∧ x = 0) ∨ (i = .int .i64 2 ∧ x = 0 ∧ y = 0)) (fun i => 2 - (intOf i).toNat)
  case atStart => exact .inl rfl
  case round =>
    rcases hrel with rfl | ⟨rfl, hx⟩ | ⟨rfl, hx, hy⟩
    · by_cases hx : x = 0
      · have hb : (x != 0) = false := by simp [hx]
        have HX := Lib.hid hx
        clear hx
        go_wp2
        exact ⟨.inr (.inl ⟨rfl, HX.out⟩), by simp [intOf]⟩
      · have hb : (x != 0) = true := by simp [hx]
        have HV : Hid (z = x) := Lib.hid (by rw [HZ.out, if_pos hx])
        clear hx
        go_wp2
        go_ret
        exact ⟨by rw [HV.out]; rfl, rfl⟩
    · have HX := Lib.hid hx
      clear hx
      by_cases hy : y = 0
      · have hb : (y != 0) = false := by simp [hy]
        have HY := Lib.hid hy
        clear hy
        go_wp2
        exact ⟨.inr (.inr ⟨rfl, HX.out, HY.out⟩), by simp [intOf]⟩
      · have hb : (y != 0) = true := by simp [hy]
        have HV : Hid (z = y) := Lib.hid (by rw [HZ.out, if_neg (by rw [HX.out]; simp)])
        clear hy
        go_wp2
        go_ret
        exact ⟨by rw [HV.out]; rfl, rfl⟩
    · have HV : Hid (z = 0) := Lib.hid (by rw [HZ.out, if_neg (by rw [hx]; simp), hy])
      clear hx hy
      go_wp2
      go_ret
      exact ⟨by rw [HV.out]; rfl, rfl⟩
set_option maxRecDepth 100000 in
set_option maxHeartbeats 1000000 in
theorem order_any (a b : K) (w : World) :
    Calls Tryd.prog 75 #[.agg #[.int .i64 a.1, .string ⟨a.2.toArray⟩], .agg #[.int .i64 b.1, .string ⟨b.2.toArray⟩]] w fun e w' => e = .returned (.int .i64 (cmpK a b)) ∧ ∃ q os', w' = Sort.grow (w.drewN q) os' := by
  obtain ⟨at', ak⟩ := a
  obtain ⟨bt, bk⟩ := b
  simp only
  go_enter Tryd.func75, Tryd.ntmps75
  go_wp2
  have hb0 : Below w.heap.size w ((w.alloc (.cells #[.int .i64 at', .string ⟨ak.toArray⟩] 41)).alloc (.cells #[.int .i64 bt, .string ⟨bk.toArray⟩] 41)) := ((Below.refl _ w).alloc (Nat.le_refl _) _).alloc (by simp) _
  have A0 := heap_old _ (.cells #[.int .i64 bt, .string ⟨bk.toArray⟩] 41) (heap_new w (.cells #[.int .i64 at', .string ⟨ak.toArray⟩] 41))
  have B0 := heap_new (w.alloc (.cells #[.int .i64 at', .string ⟨ak.toArray⟩] 41)) (.cells #[.int .i64 bt, .string ⟨bk.toArray⟩] 41)
  rw [World.size_alloc] at B0
  generalize hw0 : (w.alloc (.cells #[.int .i64 at', .string ⟨ak.toArray⟩] 41)).alloc (.cells #[.int .i64 bt, .string ⟨bk.toArray⟩] 41) = w0 at *
  have HW0 := Lib.hid hw0
  clear hw0 hb0
  have a0 := cell_of_row _ _ 0 _ _ _ A0
  have a1 := cell_of_row _ _ 1 _ _ _ A0
  have b0 := cell_of_row _ _ 0 _ _ _ B0
  have b1 := cell_of_row _ _ 1 _ _ _ B0
  clear A0 B0
  refine wp_region_still_tail 10 (by kernel_rfl) (by kernel_rfl) ?_
  simp only [List.take_succ_cons, List.take_zero, List.drop_succ_cons, List.drop_zero]
  repeat still_step
  still_call ((compareInt_any _ _ _).mono (fun e w'' h => ⟨h.1, h.2.symm⟩))
  repeat still_step
  still_call ((compareStr_any _ _ _).mono (fun e w'' h => ⟨h.1, h.2.symm⟩))
  refine wpStill_nil ?_
  clear a0 a1 b0 b1
  go_wp2_with fail
  have C0 := heap_new w0 (.cells #[.int .i64 (cmpI at' bt), .int .i64 (cmpL ak bk)] 3)
  refine (or_any w0.heap.size 2 (cmpI at' bt) (cmpL ak bk) (w0.alloc (.cells #[.int .i64 (cmpI at' bt), .int .i64 (cmpL ak bk)] 3)).drew (cell_of_row (w0.alloc (.cells #[.int .i64 (cmpI at' bt), .int .i64 (cmpL ak bk)] 3)) _ 0 _ _ _ C0) (cell_of_row (w0.alloc (.cells #[.int .i64 (cmpI at' bt), .int .i64 (cmpL ak bk)] 3)) _ 1 _ _ _ C0)).mono ?_
  rintro e w3 ⟨rfl, rfl⟩
  clear C0
  rw [show (if cmpI at' bt ≠ 0 then cmpI at' bt else cmpL ak bk) = cmpK (at', ak) (bt, bk) from rfl]
  go_wp2
  go_ret
  refine ⟨rfl, 1, #[.cells #[.int .i64 at', .string ⟨ak.toArray⟩] 41, .cells #[.int .i64 bt, .string ⟨bk.toArray⟩] 41, .cells #[.int .i64 (cmpI at' bt), .int .i64 (cmpL ak bk)] 3], ?_⟩
  rw [← HW0.out]
  exact order_world _ _ _ _
end Go.Proofs.YtkkfmkhbdoeglaaDoor

/- slices.SortFunc at keys: the library's contract laid at this program. No condition. -/
namespace Go.Proofs.YtkkfmkhbdoeglaaDoor
open Go.Shelf
def sortF_ren : Go.Shelf.Ren := ⟨fun | 6 => 90 | 15 => 100 | 14 => 99 | 28 => 111 | 29 => 112 | 20 => 103 | 21 => 104 | 22 => 105 | 23 => 106 | 24 => 107 | 25 => 108 | 26 => 109 | 27 => 110 | 46 => 113 | 47 => 114 | 48 => 115 | 49 => 116 | 50 => 117 | 57 => 118 | n => n, fun | 22 => 148 | 24 => 41 | 25 => 153 | 3 => 3 | 39 => 36 | 0 => 0 | 53 => 112 | 55 => 39 | 4 => 4 | 46 => 205 | 45 => 204 | 50 => 209 | 5 => 5 | 9 => 9 | 66 => 213 | 70 => 216 | 76 => 218 | 77 => 176 | n => n, fun | n => n⟩
theorem sortF : Go.Proofs.SlLaysF0.n6 Tryd.prog sortF_ren := {
  mixed := by kernel_rfl
  f6 := ⟨Tryd.f90.name, by decide, Tryd.func90.trans (congrArg some (by kernel_rfl))⟩
  f14 := ⟨Tryd.f99.name, by decide, Tryd.func99.trans (congrArg some (by kernel_rfl))⟩
  f15 := Tryd.func100.trans (congrArg some (by kernel_rfl))
  f20 := ⟨Tryd.f103.name, by decide, Tryd.func103.trans (congrArg some (by kernel_rfl))⟩
  f21 := ⟨Tryd.f104.name, by decide, Tryd.func104.trans (congrArg some (by kernel_rfl))⟩
  f22 := ⟨Tryd.f105.name, by decide, Tryd.func105.trans (congrArg some (by kernel_rfl))⟩
  f23 := ⟨Tryd.f106.name, by decide, Tryd.func106.trans (congrArg some (by kernel_rfl))⟩
  f24 := ⟨Tryd.f107.name, by decide, Tryd.func107.trans (congrArg some (by kernel_rfl))⟩
  f25 := ⟨Tryd.f108.name, by decide, Tryd.func108.trans (congrArg some (by kernel_rfl))⟩
  f26 := ⟨Tryd.f109.name, by decide, Tryd.func109.trans (congrArg some (by kernel_rfl))⟩
  f27 := ⟨Tryd.f110.name, by decide, Tryd.func110.trans (congrArg some (by kernel_rfl))⟩
  f28 := Tryd.func111.trans (congrArg some (by kernel_rfl))
  f29 := Tryd.func112.trans (congrArg some (by kernel_rfl))
  f46 := ⟨Tryd.f113.name, by decide, Tryd.func113.trans (congrArg some (by kernel_rfl))⟩
  f47 := Tryd.func114.trans (congrArg some (by kernel_rfl))
  f48 := Tryd.func115.trans (congrArg some (by kernel_rfl))
  f49 := ⟨Tryd.f116.name, by decide, Tryd.func116.trans (congrArg some (by kernel_rfl))⟩
  f50 := ⟨Tryd.f117.name, by decide, Tryd.func117.trans (congrArg some (by kernel_rfl))⟩
  f57 := ⟨Tryd.f118.name, by decide, Tryd.func118.trans (congrArg some (by kernel_rfl))⟩
  t0 := Tryd.underlying0
  a0 := Tryd.isAgg0
  z0 := Tryd.sizeOf0
  v0 := Tryd.zeroValue0
  t3 := Tryd.underlying3
  a3 := Tryd.isAgg3
  z3 := Tryd.sizeOf3
  v3 := Tryd.zeroValue3
  t4 := Tryd.underlying4
  a4 := Tryd.isAgg4
  z4 := Tryd.sizeOf4
  v4 := Tryd.zeroValue4
  t5 := Tryd.underlying5
  a5 := Tryd.isAgg5
  z5 := Tryd.sizeOf5
  v5 := Tryd.zeroValue5
  t9 := Tryd.underlying9
  a9 := Tryd.isAgg9
  z9 := Tryd.sizeOf9
  v9 := Tryd.zeroValue9
  t22 := Tryd.underlying148
  a22 := Tryd.isAgg148
  z22 := Tryd.sizeOf148
  v22 := Tryd.zeroValue148
  t25 := Tryd.underlying153
  a25 := Tryd.isAgg153
  z25 := Tryd.sizeOf153
  v25 := Tryd.zeroValue153
  t39 := Tryd.underlying36
  a39 := Tryd.isAgg36
  z39 := Tryd.sizeOf36
  v39 := Tryd.zeroValue36
  t45 := Tryd.underlying204
  a45 := Tryd.isAgg204
  z45 := Tryd.sizeOf204
  v45 := Tryd.zeroValue204
  t46 := Tryd.underlying205
  a46 := Tryd.isAgg205
  z46 := Tryd.sizeOf205
  v46 := Tryd.zeroValue205
  t50 := Tryd.underlying209
  a50 := Tryd.isAgg209
  z50 := Tryd.sizeOf209
  v50 := Tryd.zeroValue209
  t53 := Tryd.underlying112
  a53 := Tryd.isAgg112
  z53 := Tryd.sizeOf112
  v53 := Tryd.zeroValue112
  t55 := Tryd.underlying39
  a55 := Tryd.isAgg39
  z55 := Tryd.sizeOf39
  v55 := Tryd.zeroValue39
  t66 := Tryd.underlying213
  a66 := Tryd.isAgg213
  z66 := Tryd.sizeOf213
  v66 := Tryd.zeroValue213
  t70 := Tryd.underlying216
  a70 := Tryd.isAgg216
  z70 := Tryd.sizeOf216
  v70 := Tryd.zeroValue216
  t76 := Tryd.underlying218
  a76 := Tryd.isAgg218
  z76 := Tryd.sizeOf218
  v76 := Tryd.zeroValue218
  t77 := Tryd.underlying176
  a77 := Tryd.isAgg176
  z77 := Tryd.sizeOf176
  v77 := Tryd.zeroValue176 }
end Go.Proofs.YtkkfmkhbdoeglaaDoor
