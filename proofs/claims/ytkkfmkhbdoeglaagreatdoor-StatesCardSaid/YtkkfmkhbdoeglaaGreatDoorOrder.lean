/- The contract of package overlay's order: the order of keys, as a number below, at or above nought. No condition. -/
import Derived.Test.YtkkfmkhbdoeglaaGreatDoorTabPlain
import Derived.WalkKit
import Derived.WalkLawsBesides
import Derived.Deep.RegionWith
import Derived.BigRegion
import Derived.BigQuiet
import Derived.Deep.QuietTactic
import Derived.StillTailTactics
import Derived.Shelf.SlSortCmp.NoneTotal
import Derived.Test.YtkkfmkhbdoeglaaGreatDoorHeap
namespace Go.Proofs.YtkkfmkhbdoeglaaGreatDoor
open Go.RowKit

theorem isNaNInt (x : Int) (w : World) : Calls Tryz.prog 154 #[.int .i64 x] w fun e w' => e = .returned (.bool false) ∧ w = w' := by
  have h : (x != x) = false := by simp
  go_enter Tryz.func154, Tryz.ntmps154
  go_wp2
  go_ret
  exact ⟨rfl, rfl⟩
theorem isNaNStr (x : List UInt8) (w : World) : Calls Tryz.prog 155 #[.string ⟨x.toArray⟩] w fun e w' => e = .returned (.bool false) ∧ w = w' := by
  have h : (x == x) = true := by simp
  go_enter Tryz.func155, Tryz.ntmps155
  go_wp2
  go_ret
  exact ⟨rfl, rfl⟩
def cmpI (a b : Int) : Int := if a < b then -1 else if b < a then 1 else 0
def cmpL (a b : List UInt8) : Int := if a < b then -1 else if b < a then 1 else 0
/-- the keys' order, as a number -/
def cmpK (a b : K) : Int := if cmpI a.1 b.1 ≠ 0 then cmpI a.1 b.1 else cmpL a.2 b.2
theorem compareInt_any (a b : Int) (w : World) : Calls Tryz.prog 133 #[.int .i64 a, .int .i64 b] w fun e w' => e = .returned (.int .i64 (cmpI a b)) ∧ w = w' := by
  rcases Int.lt_trichotomy a b with h | h | h
  · have HC : Hid (cmpI a b = -1) := Lib.hid (by unfold cmpI; rw [if_pos h])
    go_enter Tryz.func133, Tryz.ntmps133
    go_wp2_with (go_at_call 154; refine (isNaNInt _ _).mono ?_; rintro e w' ⟨rfl, rfl⟩)
    go_ret
    exact ⟨by rw [HC.out]; rfl, rfl⟩
  · subst h
    have HC : Hid (cmpI a a = 0) := Lib.hid (by unfold cmpI; simp)
    go_enter Tryz.func133, Tryz.ntmps133
    go_wp2_with (go_at_call 154; refine (isNaNInt _ _).mono ?_; rintro e w' ⟨rfl, rfl⟩)
    go_ret
    exact ⟨by rw [HC.out]; rfl, rfl⟩
  · have h' : ¬ a < b := by omega
    have HC : Hid (cmpI a b = 1) := Lib.hid (by unfold cmpI; rw [if_neg h', if_pos h])
    go_enter Tryz.func133, Tryz.ntmps133
    go_wp2_with (go_at_call 154; refine (isNaNInt _ _).mono ?_; rintro e w' ⟨rfl, rfl⟩)
    go_ret
    exact ⟨by rw [HC.out]; rfl, rfl⟩
theorem lt_tri (a b : List UInt8) : a < b ∨ a = b ∨ b < a := by
  by_cases h1 : a < b
  · exact .inl h1
  · by_cases h2 : b < a
    · exact .inr (.inr h2)
    · exact .inr (.inl (List.le_antisymm (List.not_lt.1 h2) (List.not_lt.1 h1)))
theorem compareStr_any (a b : List UInt8) (w : World) : Calls Tryz.prog 134 #[.string ⟨a.toArray⟩, .string ⟨b.toArray⟩] w fun e w' => e = .returned (.int .i64 (cmpL a b)) ∧ w = w' := by
  rcases lt_tri a b with h | h | h
  · have HC : Hid (cmpL a b = -1) := Lib.hid (by unfold cmpL; rw [if_pos h])
    have hb : Op.bytesLess a b = true := by rw [bytesLess_eq]; exact decide_eq_true h
    clear h
    go_enter Tryz.func134, Tryz.ntmps134
    go_wp2_with (go_at_call 155; refine (isNaNStr _ _).mono ?_; rintro e w' ⟨rfl, rfl⟩)
    go_ret
    exact ⟨by rw [HC.out]; rfl, rfl⟩
  · subst h
    have HC : Hid (cmpL a a = 0) := Lib.hid (by unfold cmpL; simp [List.lt_irrefl])
    have hb : Op.bytesLess a a = false := by rw [bytesLess_eq]; exact decide_eq_false (List.lt_irrefl a)
    have hq : (a == a) = true := beq_self_eq_true a
    go_enter Tryz.func134, Tryz.ntmps134
    go_wp2_with (go_at_call 155; refine (isNaNStr _ _).mono ?_; rintro e w' ⟨rfl, rfl⟩)
    go_ret
    exact ⟨by rw [HC.out]; rfl, rfl⟩
  · have h1 : ¬ a < b := fun h' => List.lt_irrefl a (List.lt_trans h' h)
    have h2 : a ≠ b := fun e => List.lt_irrefl a (by rw [e] at h ⊢; exact h)
    have HC : Hid (cmpL a b = 1) := Lib.hid (by unfold cmpL; rw [if_neg h1, if_pos h])
    have hb : Op.bytesLess a b = false := by rw [bytesLess_eq]; exact decide_eq_false h1
    have hq : (a == b) = false := by rw [beq_eq_false_iff_ne]; exact h2
    clear h h1 h2
    go_enter Tryz.func134, Tryz.ntmps134
    go_wp2_with (go_at_call 155; refine (isNaNStr _ _).mono ?_; rintro e w' ⟨rfl, rfl⟩)
    go_ret
    exact ⟨by rw [HC.out]; rfl, rfl⟩
theorem order_world (w : World) (a b c : Obj) : (((w.alloc a).alloc b).alloc c).drew = Sort.grow (w.drewN 1) #[a, b, c] := by
  have h : ((w.heap.push a).push b).push c = w.heap ++ #[a, b, c] := by
    apply Array.ext'
    simp
  unfold Sort.grow World.alloc World.drew World.drewN
  simp [h]
/-- the first that is not nought -/
theorem or_any (B cap : Nat) (x y : Int) (w : World) (h0 : w.cell? ⟨B, 0, none⟩ = some (.int .i64 x)) (h1 : w.cell? ⟨B, 1, none⟩ = some (.int .i64 y)) :
    Calls Tryz.prog 132 #[.slice (some ⟨B, 0, none⟩) 2 cap] w fun e w' => e = .returned (.int .i64 (if x ≠ 0 then x else y)) ∧ w = w' := by
  obtain ⟨z, hz⟩ : ∃ z, z = if x ≠ 0 then x else y := ⟨_, rfl⟩
  rw [← hz]
  have HZ := Lib.hid hz
  clear hz
  go_enter Tryz.func132, Tryz.ntmps132
  go_wp2
  go_loop [8] (fun i => i = .int .i64 0 ∨ (i = .int .i64 1 ∧ x = 0) ∨ (i = .int .i64 2 ∧ x = 0 ∧ y = 0)) (fun i => 2 - (intOf i).toNat)
  case atStart => exact .inl rfl
  case round =>
    rcases hrel with rfl | ⟨rfl, hx⟩ | ⟨rfl, hx, hy⟩
    · by_cases hx : x = 0
      · have hb : (x != 0) = false := by simp [hx]
        have HX := Lib.hid hx
        clear hx
        go_wp2
        exact ⟨.inr (.inl ⟨rfl, HX.out⟩), by simp [intOf]⟩
      · have hb : (x != 0) = true := by simp [hx]
        have HV : Hid (z = x) := Lib.hid (by rw [HZ.out, if_pos hx])
        clear hx
        go_wp2
        go_ret
        exact ⟨by rw [HV.out]; rfl, rfl⟩
    · have HX := Lib.hid hx
      clear hx
      by_cases hy : y = 0
      · have hb : (y != 0) = false := by simp [hy]
        have HY := Lib.hid hy
        clear hy
        go_wp2
        exact ⟨.inr (.inr ⟨rfl, HX.out, HY.out⟩), by simp [intOf]⟩
      · have hb : (y != 0) = true := by simp [hy]
        have HV : Hid (z = y) := Lib.hid (by rw [HZ.out, if_neg (by rw [HX.out]; simp)])
        clear hy
        go_wp2
        go_ret
        exact ⟨by rw [HV.out]; rfl, rfl⟩
    · have HV : Hid (z = 0) := Lib.hid (by rw [HZ.out, if_neg (by rw [hx]; simp), hy])
      clear hx hy
      go_wp2
      go_ret
      exact ⟨by rw [HV.out]; rfl, rfl⟩
set_option maxRecDepth 100000 in
set_option maxHeartbeats 1000000 in
theorem order_any (a b : K) (w : World) :
    Calls Tryz.prog 93 #[.agg #[.int .i64 a.1, .string ⟨a.2.toArray⟩], .agg #[.int .i64 b.1, .string ⟨b.2.toArray⟩]] w fun e w' => e = .returned (.int .i64 (cmpK a b)) ∧ ∃ q os', w' = Sort.grow (w.drewN q) os' := by
  obtain ⟨at', ak⟩ := a
  obtain ⟨bt, bk⟩ := b
  simp only
  go_enter Tryz.func93, Tryz.ntmps93
  go_wp2
  have hb0 : Below w.heap.size w ((w.alloc (.cells #[.int .i64 at', .string ⟨ak.toArray⟩] 94)).alloc (.cells #[.int .i64 bt, .string ⟨bk.toArray⟩] 94)) := ((Below.refl _ w).alloc (Nat.le_refl _) _).alloc (by simp) _
  have A0 := heap_old _ (.cells #[.int .i64 bt, .string ⟨bk.toArray⟩] 94) (heap_new w (.cells #[.int .i64 at', .string ⟨ak.toArray⟩] 94))
  have B0 := heap_new (w.alloc (.cells #[.int .i64 at', .string ⟨ak.toArray⟩] 94)) (.cells #[.int .i64 bt, .string ⟨bk.toArray⟩] 94)
  rw [World.size_alloc] at B0
  generalize hw0 : (w.alloc (.cells #[.int .i64 at', .string ⟨ak.toArray⟩] 94)).alloc (.cells #[.int .i64 bt, .string ⟨bk.toArray⟩] 94) = w0 at *
  have HW0 := Lib.hid hw0
  clear hw0 hb0
  have a0 := cell_of_row _ _ 0 _ _ _ A0
  have a1 := cell_of_row _ _ 1 _ _ _ A0
  have b0 := cell_of_row _ _ 0 _ _ _ B0
  have b1 := cell_of_row _ _ 1 _ _ _ B0
  clear A0 B0
  refine wp_region_still_tail 10 (by kernel_rfl) (by kernel_rfl) ?_
  simp only [List.take_succ_cons, List.take_zero, List.drop_succ_cons, List.drop_zero]
  repeat still_step
  still_call ((compareInt_any _ _ _).mono (fun e w'' h => ⟨h.1, h.2.symm⟩))
  repeat still_step
  still_call ((compareStr_any _ _ _).mono (fun e w'' h => ⟨h.1, h.2.symm⟩))
  refine wpStill_nil ?_
  clear a0 a1 b0 b1
  go_wp2_with fail
  have C0 := heap_new w0 (.cells #[.int .i64 (cmpI at' bt), .int .i64 (cmpL ak bk)] 3)
  refine (or_any w0.heap.size 2 (cmpI at' bt) (cmpL ak bk) (w0.alloc (.cells #[.int .i64 (cmpI at' bt), .int .i64 (cmpL ak bk)] 3)).drew (cell_of_row (w0.alloc (.cells #[.int .i64 (cmpI at' bt), .int .i64 (cmpL ak bk)] 3)) _ 0 _ _ _ C0) (cell_of_row (w0.alloc (.cells #[.int .i64 (cmpI at' bt), .int .i64 (cmpL ak bk)] 3)) _ 1 _ _ _ C0)).mono ?_
  rintro e w3 ⟨rfl, rfl⟩
  clear C0
  rw [show (if cmpI at' bt ≠ 0 then cmpI at' bt else cmpL ak bk) = cmpK (at', ak) (bt, bk) from rfl]
  go_wp2
  go_ret
  refine ⟨rfl, 1, #[.cells #[.int .i64 at', .string ⟨ak.toArray⟩] 94, .cells #[.int .i64 bt, .string ⟨bk.toArray⟩] 94, .cells #[.int .i64 (cmpI at' bt), .int .i64 (cmpL ak bk)] 3], ?_⟩
  rw [← HW0.out]
  exact order_world _ _ _ _
end Go.Proofs.YtkkfmkhbdoeglaaGreatDoor

/- slices.SortFunc at keys: the library's contract laid at this program. No condition. -/
namespace Go.Proofs.YtkkfmkhbdoeglaaGreatDoor
open Go.Shelf
def sortF_ren : Go.Shelf.Ren := ⟨fun | 6 => 130 | 15 => 153 | 14 => 152 | 28 => 169 | 29 => 170 | 20 => 161 | 21 => 162 | 22 => 163 | 23 => 164 | 24 => 165 | 25 => 166 | 26 => 167 | 27 => 168 | 46 => 171 | 47 => 172 | 48 => 173 | 49 => 174 | 50 => 175 | 57 => 176 | n => n, fun | 22 => 174 | 24 => 94 | 25 => 181 | 3 => 3 | 39 => 193 | 0 => 0 | 53 => 182 | 55 => 26 | 4 => 4 | 46 => 287 | 45 => 286 | 50 => 148 | 5 => 5 | 9 => 9 | 66 => 297 | 70 => 300 | 76 => 302 | 77 => 243 | n => n, fun | n => n⟩
theorem sortF : Go.Proofs.SlLaysF0.n6 Tryz.prog sortF_ren := {
  mixed := by kernel_rfl
  f6 := ⟨Tryz.f130.name, by decide, Tryz.func130.trans (congrArg some (by kernel_rfl))⟩
  f14 := ⟨Tryz.f152.name, by decide, Tryz.func152.trans (congrArg some (by kernel_rfl))⟩
  f15 := Tryz.func153.trans (congrArg some (by kernel_rfl))
  f20 := ⟨Tryz.f161.name, by decide, Tryz.func161.trans (congrArg some (by kernel_rfl))⟩
  f21 := ⟨Tryz.f162.name, by decide, Tryz.func162.trans (congrArg some (by kernel_rfl))⟩
  f22 := ⟨Tryz.f163.name, by decide, Tryz.func163.trans (congrArg some (by kernel_rfl))⟩
  f23 := ⟨Tryz.f164.name, by decide, Tryz.func164.trans (congrArg some (by kernel_rfl))⟩
  f24 := ⟨Tryz.f165.name, by decide, Tryz.func165.trans (congrArg some (by kernel_rfl))⟩
  f25 := ⟨Tryz.f166.name, by decide, Tryz.func166.trans (congrArg some (by kernel_rfl))⟩
  f26 := ⟨Tryz.f167.name, by decide, Tryz.func167.trans (congrArg some (by kernel_rfl))⟩
  f27 := ⟨Tryz.f168.name, by decide, Tryz.func168.trans (congrArg some (by kernel_rfl))⟩
  f28 := Tryz.func169.trans (congrArg some (by kernel_rfl))
  f29 := Tryz.func170.trans (congrArg some (by kernel_rfl))
  f46 := ⟨Tryz.f171.name, by decide, Tryz.func171.trans (congrArg some (by kernel_rfl))⟩
  f47 := Tryz.func172.trans (congrArg some (by kernel_rfl))
  f48 := Tryz.func173.trans (congrArg some (by kernel_rfl))
  f49 := ⟨Tryz.f174.name, by decide, Tryz.func174.trans (congrArg some (by kernel_rfl))⟩
  f50 := ⟨Tryz.f175.name, by decide, Tryz.func175.trans (congrArg some (by kernel_rfl))⟩
  f57 := ⟨Tryz.f176.name, by decide, Tryz.func176.trans (congrArg some (by kernel_rfl))⟩
  t0 := Tryz.underlying0
  a0 := Tryz.isAgg0
  z0 := Tryz.sizeOf0
  v0 := Tryz.zeroValue0
  t3 := Tryz.underlying3
  a3 := Tryz.isAgg3
  z3 := Tryz.sizeOf3
  v3 := Tryz.zeroValue3
  t4 := Tryz.underlying4
  a4 := Tryz.isAgg4
  z4 := Tryz.sizeOf4
  v4 := Tryz.zeroValue4
  t5 := Tryz.underlying5
  a5 := Tryz.isAgg5
  z5 := Tryz.sizeOf5
  v5 := Tryz.zeroValue5
  t9 := Tryz.underlying9
  a9 := Tryz.isAgg9
  z9 := Tryz.sizeOf9
  v9 := Tryz.zeroValue9
  t22 := Tryz.underlying174
  a22 := Tryz.isAgg174
  z22 := Tryz.sizeOf174
  v22 := Tryz.zeroValue174
  t25 := Tryz.underlying181
  a25 := Tryz.isAgg181
  z25 := Tryz.sizeOf181
  v25 := Tryz.zeroValue181
  t39 := Tryz.underlying193
  a39 := Tryz.isAgg193
  z39 := Tryz.sizeOf193
  v39 := Tryz.zeroValue193
  t45 := Tryz.underlying286
  a45 := Tryz.isAgg286
  z45 := Tryz.sizeOf286
  v45 := Tryz.zeroValue286
  t46 := Tryz.underlying287
  a46 := Tryz.isAgg287
  z46 := Tryz.sizeOf287
  v46 := Tryz.zeroValue287
  t50 := Tryz.underlying148
  a50 := Tryz.isAgg148
  z50 := Tryz.sizeOf148
  v50 := Tryz.zeroValue148
  t53 := Tryz.underlying182
  a53 := Tryz.isAgg182
  z53 := Tryz.sizeOf182
  v53 := Tryz.zeroValue182
  t55 := Tryz.underlying26
  a55 := Tryz.isAgg26
  z55 := Tryz.sizeOf26
  v55 := Tryz.zeroValue26
  t66 := Tryz.underlying297
  a66 := Tryz.isAgg297
  z66 := Tryz.sizeOf297
  v66 := Tryz.zeroValue297
  t70 := Tryz.underlying300
  a70 := Tryz.isAgg300
  z70 := Tryz.sizeOf300
  v70 := Tryz.zeroValue300
  t76 := Tryz.underlying302
  a76 := Tryz.isAgg302
  z76 := Tryz.sizeOf302
  v76 := Tryz.zeroValue302
  t77 := Tryz.underlying243
  a77 := Tryz.isAgg243
  z77 := Tryz.sizeOf243
  v77 := Tryz.zeroValue243 }
end Go.Proofs.YtkkfmkhbdoeglaaGreatDoor
