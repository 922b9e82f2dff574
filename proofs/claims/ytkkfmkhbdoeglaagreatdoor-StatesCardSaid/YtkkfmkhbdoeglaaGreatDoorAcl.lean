/- The contract of entries' Acl. No condition. -/
import Derived.Test.YtkkfmkhbdoeglaaGreatDoorListed1
import Derived.Test.YtkkfmkhbdoeglaaGreatDoorSize
import Derived.Test.YtkkfmkhbdoeglaaGreatDoorRefTab
namespace Go.Proofs.YtkkfmkhbdoeglaaGreatDoor
open Go.RowKit Go.Shelf
attribute [local go_sem] Oper.semAt_some

theorem conv_u8 (c : UInt8) (w : World) : (Go.convert 5 3 (.int .u8 (c.toNat : Int))).run Tryz.prog w = .ok (.int .i64 (c.toNat : Int)) w := by
  have := c.toNat_lt
  simp [go_sem]
  exact IntWalk.i64_in _ (by omega)
/-- the list's first entry that speaks of n is where the loop leaves -/
theorem acl_found {S p0 : List E} {x : E} {n : Int} (h : p0 ++ [x] <+: S) (hn : ∀ y ∈ p0, aclP n y = false) (hx : aclP n x = true) : aclV n S = .tuple #[.int .i64 ((x.2.getD 1 0).toNat : Int), .bool true] := by
  obtain ⟨t, rfl⟩ := h
  have h1 : p0.find? (aclP n) = none := List.find?_eq_none.2 (fun y hy => by rw [hn y hy]; decide)
  unfold aclV
  rw [List.append_assoc, List.find?_append, h1, List.singleton_append, List.find?_cons, hx]
  rfl
theorem acl_none {S : List E} {n : Int} (hn : ∀ y ∈ S, aclP n y = false) : aclV n S = .tuple #[.int .i64 0, .bool false] := by
  have h1 : S.find? (aclP n) = none := List.find?_eq_none.2 (fun y hy => by rw [hn y hy]; decide)
  unfold aclV
  rw [h1]
set_option maxRecDepth 100000 in
set_option maxHeartbeats 4000000 in
theorem acl_any (q off r : Nat) (S : List E) (n : Int) (w : World) (he : EntAt w q off r S) (hS : S.length ≤ 1000000000) (hA : AclsTwo S) :
    Calls Tryz.prog 110 #[.pointer (some ⟨q, off, none⟩), .int .i64 n] w fun e w' => e = .returned (aclV n S) ∧ Below w.heap.size w w' := by
  refine (callsIn_wide (n := 9)).1 ?_
  refine callsIn_of_wp_marks Tryz.func110 rfl trivial ?_ rfl
  try simp only [Tryz.ntmps110, List.size_toArray, List.length_cons, List.length_nil, Nat.reduceAdd, Nat.reduceSub, Array.replicate_succ, Array.replicate_zero, List.push_toArray, List.append_toArray, List.nil_append, List.cons_append]
  gi_wp2_with (refine ⟨trivial, (callsIn_wide.2 (entsFn_any q off _)).mono ?_⟩; rintro e w0 ⟨rfl, rfl⟩)
  have bN := (((Boxed.new w 3 (.int .i64 n)).alloc (.cells #[.int .i64 0] 3)).alloc (.cells #[.bool false] 4)).alloc (.cells #[.pointer (some ⟨q, off, none⟩)] 173)
  have bR := ((Boxed.new (w.alloc (.cells #[.int .i64 n] 3)) 3 (.int .i64 0)).alloc (.cells #[.bool false] 4)).alloc (.cells #[.pointer (some ⟨q, off, none⟩)] 173)
  have bB := (Boxed.new ((w.alloc (.cells #[.int .i64 n] 3)).alloc (.cells #[.int .i64 0] 3)) 4 (.bool false)).alloc (.cells #[.pointer (some ⟨q, off, none⟩)] 173)
  have bE := Boxed.new (((w.alloc (.cells #[.int .i64 n] 3)).alloc (.cells #[.int .i64 0] 3)).alloc (.cells #[.bool false] 4)) 173 (.pointer (some ⟨q, off, none⟩))
  simp only [World.size_alloc] at bR bB bE
  have hB0 : Below w.heap.size w ((((w.alloc (.cells #[.int .i64 n] 3)).alloc (.cells #[.int .i64 0] 3)).alloc (.cells #[.bool false] 4)).alloc (.cells #[.pointer (some ⟨q, off, none⟩)] 173)) := ((((Below.refl _ w).alloc (Nat.le_refl _) _).alloc (by simp) _).alloc (by simp; omega) _).alloc (by simp; omega) _
  have hsz : ((((w.alloc (.cells #[.int .i64 n] 3)).alloc (.cells #[.int .i64 0] 3)).alloc (.cells #[.bool false] 4)).alloc (.cells #[.pointer (some ⟨q, off, none⟩)] 173)).heap.size = w.heap.size + 4 := by simp
  obtain ⟨W0, hW0⟩ : ∃ W0, (((w.alloc (.cells #[.int .i64 n] 3)).alloc (.cells #[.int .i64 0] 3)).alloc (.cells #[.bool false] 4)).alloc (.cells #[.pointer (some ⟨q, off, none⟩)] 173) = W0 := ⟨_, rfl⟩
  rw [hW0] at bN bR bB bE hB0 hsz ⊢
  clear hW0
  have he0 := he.below hB0
  have hq := he.lt
  have hr := he.tab.lt
  refine wpIn_rangeFunc_ownH rfl (by omega) (gf := 90) (lb := #[.pointer (some ⟨w.heap.size + 3, 0, none⟩)]) rfl trivial (enters_of Tryz.func90 (by kernel_rfl) rfl)
    (entries_stopsF (β := {x : E // x ∈ S}) Subtype.val S.attach (9 - 1) (w.heap.size + 3) q off r S (List.attach_map_subtype_val S) W0 (by omega) bE.cell he0 hS) (fun h k => KeepsE.trans h k)
    (fun W l o o' hl ho hc _ => ⟨by simp, (fun k hk => World.putObj_heap_other (by rcases hk with rfl | rfl | rfl <;> omega)), (fun k cs fz hk => (World.putObj_heap_other (fun e => by subst e; rw [hk] at ho; cases ho; cases hc)).trans hk)⟩) (Below.refl _ _) (fun _ => rfl)
    (fun pre W => ((((Boxed W (w.heap.size + 3) 173 (.pointer (some ⟨q, off, none⟩)) ∧ Boxed W w.heap.size 3 (.int .i64 n)) ∧ Boxed W (w.heap.size + 1) 3 (.int .i64 0)) ∧ Boxed W (w.heap.size + 2) 4 (.bool false)) ∧ Below w.heap.size w W) ∧ ∀ y ∈ pre, aclP n y.1 = false)
    (fun c pre W => c = .ret ∧ ∃ x p0, pre = p0 ++ [x] ∧ (∀ y ∈ p0, aclP n y.1 = false) ∧ aclP n x.1 = true ∧ Boxed W (w.heap.size + 1) 3 (.int .i64 ((x.1.2.getD 1 0).toNat : Int)) ∧ Boxed W (w.heap.size + 2) 4 (.bool true) ∧ Below w.heap.size w W)
    (OwnFrom.and (OwnFrom.and (OwnFrom.and (OwnFrom.and (OwnFrom.and (Own.from (boxed_own _ _ _) _) (Own.from (boxed_own _ _ _) _)) (Own.from (boxed_own _ _ _) _)) (Own.from (boxed_own _ _ _) _)) (ownFrom_below (Nat.le_refl _) (by omega))) (ownFrom_pure _ _))
    (fun c s X Y row hs hg hr => by
      obtain ⟨rfl, x, p0, e, h1, h2, h3, h4, h5⟩ := hs
      exact ⟨rfl, x, p0, e, h1, h2, (Own.from (boxed_own (β := Unit) _ _ (fun _ => _)) _) () X Y row h3 hg hr, (Own.from (boxed_own (β := Unit) _ _ (fun _ => _)) _) () X Y row h4 hg hr, (ownFrom_below (β := Unit) (Nat.le_refl _) (by omega)) () X Y row h5 hg hr⟩)
    ⟨⟨⟨⟨⟨bE, bN⟩, bR⟩, bB⟩, hB0⟩, fun y hy => by cases hy⟩
    (fun x a' W => ∃ Bx, w.heap.size + 3 < Bx ∧ W.heap[Bx]? = some (.cells #[.int .i64 x.1.1.1, .string ⟨x.1.1.2.toArray⟩] 94 (0, 0)) ∧ a' = { tmps := #[.pointer (some ⟨q, off, none⟩), .int .i64 n, undef, .pointer (some ⟨w.heap.size, 0, none⟩), .pointer (some ⟨w.heap.size + 1, 0, none⟩), .pointer (some ⟨w.heap.size + 2, 0, none⟩), .pointer (some ⟨Bx, 0, none⟩), .string ⟨x.1.2.toArray⟩, .pointer (some ⟨q, off, none⟩), .func (.func 90) #[] #[.pointer (some ⟨w.heap.size + 3, 0, none⟩)], .agg #[.int .i64 x.1.1.1, .string ⟨x.1.1.2.toArray⟩], .string ⟨x.1.2.toArray⟩, undef, undef, undef, undef, undef, undef, undef, undef, undef, undef, undef, undef, undef, undef, undef, undef, undef, undef], defers := [] })
    (fun x a' _ X Y row hs hg hr => by
      obtain ⟨Bx, h1, h2, h3⟩ := hs
      exact ⟨Bx, h1, (hg.block Bx (block_lt h2) (fun e => by obtain ⟨-, o, ho, hc⟩ := hr Bx e.symm; rw [h2] at ho; cases ho; cases hc)).trans h2, h3⟩)
    ?assign ?body ?done ?stop
  case assign =>
    rintro l pre x W K ⟨⟨⟨⟨⟨h0, h1⟩, h2⟩, h3⟩, h4⟩, h5⟩ hK
    unfold kV keyV
    gi_wp2
    exact hK _ _ ((KeepsOthers.alloc _ _).from _) (KeepsE.of_below ((Below.refl _ W).alloc (Nat.le_refl _) _) h0.lt (by have := h4.size; omega) (by have := h4.size; omega)) ⟨⟨⟨⟨⟨h0.alloc _, h1.alloc _⟩, h2.alloc _⟩, h3.alloc _⟩, h4.alloc h4.size _⟩, h5⟩ ⟨W.heap.size, h0.lt, heap_new W _, rfl⟩
  case body =>
    rintro l pre ⟨⟨⟨kt, kb⟩, vb⟩, hxm⟩ a' W hl ⟨rr, hrr⟩ ⟨⟨⟨⟨⟨h0, h1⟩, h2⟩, h3⟩, h4⟩, h5⟩ ⟨Bx, hBx, bX, rfl⟩ hlt
    have x0 := cell_of_row _ _ 0 _ _ _ bX
    have hn := h1.cell
    have hR := h2.cell
    have hB := h3.cell
    have fR := h2.frozen
    have fB := h3.frozen
    have hA1 := hA _ hxm
    simp only at hA1 x0
    have hb4 := h4
    have hG : aclP n ((kt, kb), vb) = false → ∀ y ∈ pre ++ [⟨((kt, kb), vb), hxm⟩], aclP n y.1 = false := fun h y hy => by
      rcases List.mem_append.1 hy with hy | hy
      · exact h5 y hy
      · rw [List.mem_singleton.1 hy]; exact h
    have HG := Lib.hid hG
    clear hG
    by_cases hT : kt = 2
    · subst hT
      obtain ⟨va, vc, hvc⟩ := hA1 rfl
      have hv0 := va.toNat_lt
      have hv1 := vc.toNat_lt
      have i0 : ∀ w, (Instr.index 9 (.string ⟨vb.toArray⟩) (.int .i64 0)).run Tryz.prog w = .ok (.int .u8 va.toNat) w := fun w => by rw [hvc]; exact run_index_str Tryz.underlying9 _ _ 0 va (by decide) rfl w
      have i1 : ∀ w, (Instr.index 9 (.string ⟨vb.toArray⟩) (.int .i64 1)).run Tryz.prog w = .ok (.int .u8 vc.toNat) w := fun w => by rw [hvc]; exact run_index_str Tryz.underlying9 _ _ 1 vc (by decide) rfl w
      have c0 := conv_u8 va
      have c1 := conv_u8 vc
      have hz : ∀ c : UInt8, (c == 0) = decide ((c.toNat : Int) = 0) := fun c => by
        rw [Bool.eq_iff_iff, beq_iff_eq, decide_eq_true_iff]
        exact ⟨fun e => by rw [e]; rfl, fun e => UInt8.toNat_inj.1 (by rw [show c.toNat = 0 by omega]; rfl)⟩
      have hP : aclP n ((2, kb), vb) = (decide ((va.toNat : Int) = 0) || ((va.toNat : Int) == n)) := by rw [hvc]; simp only [aclP, List.headD_cons]; rw [hz]; rfl
      have HP := Lib.hid hP
      have HVD : Hid (vb.getD 1 0 = vc) := Lib.hid (by rw [hvc]; rfl)
      clear hz hP hvc
      cases e0 : ((va.toNat : Int) == 0) with
      | true =>
        have HP2 : Hid (aclP n ((2, kb), vb) = true) := Lib.hid (by rw [HP.out, decide_eq_true (beq_iff_eq.1 e0)]; rfl)
        gi_wp2_with fail
        refine wpIn_region_still_tailR 14 (by kernel_rfl) (by kernel_rfl) (by kernel_rfl) ?_
        simp only [List.take_succ_cons, List.take_zero, List.drop_succ_cons, List.drop_zero]
        repeat still_step
        refine wpStill_nil ?_
        gi_wp2
        have sB : Boxed W.drew (w.heap.size + 1) 3 (.int .i64 0) := h2
        have sC : Boxed W.drew (w.heap.size + 2) 4 (.bool false) := h3
        have hW2 : Below w.heap.size w W.drew := h4.drew
        have hko : KeepsOthers W W.drew := KeepsOthers.of_grownBy (row := none) ⟨rfl, rfl, rfl, Nat.le_refl _, fun _ _ _ => rfl⟩ (fun j o e => by cases e)
        exact ⟨((hko.trans (KeepsOthers.setCell _ _ _)).trans (KeepsOthers.setCell _ _ _)).from _, rfl, ⟨((2, kb), vb), hxm⟩, pre, rfl, h5, HP2.out, by
          have := (sB.set (.int .i64 (vc.toNat : Int))).other (by omega : w.heap.size + 1 ≠ w.heap.size + 2) (.bool true)
          show Boxed _ _ _ (.int .i64 ((vb.getD 1 0).toNat : Int))
          rw [HVD.out]
          exact this, (sC.other (by omega : w.heap.size + 2 ≠ w.heap.size + 1) _).set _, (hW2.setCell (p := ⟨w.heap.size + 1, 0, none⟩) (by simp) _).setCell (p := ⟨w.heap.size + 2, 0, none⟩) (by simp) _⟩
      | false =>
        cases e1 : ((va.toNat : Int) == n) with
        | true =>
          have HP2 : Hid (aclP n ((2, kb), vb) = true) := Lib.hid (by rw [HP.out, e1, Bool.or_true])
          gi_wp2_with fail
          refine wpIn_region_still_tailR 14 (by kernel_rfl) (by kernel_rfl) (by kernel_rfl) ?_
          simp only [List.take_succ_cons, List.take_zero, List.drop_succ_cons, List.drop_zero]
          repeat still_step
          refine wpStill_nil ?_
          gi_wp2
          have sB : Boxed W.drew (w.heap.size + 1) 3 (.int .i64 0) := h2
          have sC : Boxed W.drew (w.heap.size + 2) 4 (.bool false) := h3
          have hW2 : Below w.heap.size w W.drew := h4.drew
          have hko : KeepsOthers W W.drew := KeepsOthers.of_grownBy (row := none) ⟨rfl, rfl, rfl, Nat.le_refl _, fun _ _ _ => rfl⟩ (fun j o e => by cases e)
          exact ⟨((hko.trans (KeepsOthers.setCell _ _ _)).trans (KeepsOthers.setCell _ _ _)).from _, rfl, ⟨((2, kb), vb), hxm⟩, pre, rfl, h5, HP2.out, by
            have := (sB.set (.int .i64 (vc.toNat : Int))).other (by omega : w.heap.size + 1 ≠ w.heap.size + 2) (.bool true)
            show Boxed _ _ _ (.int .i64 ((vb.getD 1 0).toNat : Int))
            rw [HVD.out]
            exact this, (sC.other (by omega : w.heap.size + 2 ≠ w.heap.size + 1) _).set _, (hW2.setCell (p := ⟨w.heap.size + 1, 0, none⟩) (by simp) _).setCell (p := ⟨w.heap.size + 2, 0, none⟩) (by simp) _⟩
        | false =>
          have HP2 : Hid (aclP n ((2, kb), vb) = false) := Lib.hid (by rw [HP.out, e1, Bool.or_false]; exact decide_eq_false (beq_eq_false_iff_ne.1 e0))
          gi_wp2_with fail
          refine wpIn_region_still_tailR 14 (by kernel_rfl) (by kernel_rfl) (by kernel_rfl) ?_
          simp only [List.take_succ_cons, List.take_zero, List.drop_succ_cons, List.drop_zero]
          repeat still_step
          refine wpStill_nil ?_
          gi_wp2
          have hko : KeepsOthers W W.drew := KeepsOthers.of_grownBy (row := none) ⟨rfl, rfl, rfl, Nat.le_refl _, fun _ _ _ => rfl⟩ (fun j o e => by cases e)
          exact ⟨hko.from _, ⟨Nat.le_refl _, fun _ _ => rfl, fun _ _ _ h => h⟩, ⟨⟨⟨⟨h0, h1⟩, h2⟩, h3⟩, h4.drew⟩, HG.out HP2.out⟩
    · have HP2 : Hid (aclP n ((kt, kb), vb) = false) := Lib.hid (by simp [aclP, hT])
      gi_wp2_with fail
      refine wpIn_region_still_tailR 14 (by kernel_rfl) (by kernel_rfl) (by kernel_rfl) ?_
      simp only [List.take_succ_cons, List.take_zero, List.drop_succ_cons, List.drop_zero]
      repeat still_step
      refine wpStill_nil ?_
      gi_wp2
      have hko : KeepsOthers W W.drew := KeepsOthers.of_grownBy (row := none) ⟨rfl, rfl, rfl, Nat.le_refl _, fun _ _ _ => rfl⟩ (fun j o e => by cases e)
      exact ⟨hko.from _, ⟨Nat.le_refl _, fun _ _ => rfl, fun _ _ _ h => h⟩, ⟨⟨⟨⟨h0, h1⟩, h2⟩, h3⟩, h4.drew⟩, HG.out HP2.out⟩
  case done =>
    rintro D ys W hD rfl ⟨⟨⟨⟨⟨h0, h1⟩, h2⟩, h3⟩, h4⟩, h5⟩ hK
    have HV := Lib.hid (acl_none (S := S) (n := n) (fun y hy => h5 ⟨y, hy⟩ (List.mem_attach _ _)))
    have hR := h2.cell
    have hB := h3.cell
    have fR := h2.frozen
    have fB := h3.frozen
    have hn1 : D ≠ w.heap.size + 1 := by rintro rfl; have := hK.symm.trans h2; cases this
    have hn2 : D ≠ w.heap.size + 2 := by rintro rfl; have := hK.symm.trans h3; cases this
    have hK2 : ((W.setCell ⟨w.heap.size + 1, 0, none⟩ (.int .i64 0)).setCell ⟨w.heap.size + 2, 0, none⟩ (.bool false)).heap[D]? = some (.deferred (some [])) := by
      rw [Below.heap_setCell _ ⟨w.heap.size + 2, 0, none⟩ _ D hn2, Below.heap_setCell _ ⟨w.heap.size + 1, 0, none⟩ _ D hn1]; exact hK
    have b2 : Boxed ((W.setCell ⟨w.heap.size + 1, 0, none⟩ (.int .i64 0)).setCell ⟨w.heap.size + 2, 0, none⟩ (.bool false)) (w.heap.size + 1) 3 (.int .i64 0) := (h2.set _).other (by omega) _
    have b3 : Boxed ((W.setCell ⟨w.heap.size + 1, 0, none⟩ (.int .i64 0)).setCell ⟨w.heap.size + 2, 0, none⟩ (.bool false)) (w.heap.size + 2) 4 (.bool false) := (h3.other (by omega) _).set _
    have hb2 : Below w.heap.size w ((W.setCell ⟨w.heap.size + 1, 0, none⟩ (.int .i64 0)).setCell ⟨w.heap.size + 2, 0, none⟩ (.bool false)) := (h4.setCell (p := ⟨w.heap.size + 1, 0, none⟩) (by simp) _).setCell (p := ⟨w.heap.size + 2, 0, none⟩) (by simp) _
    gi_wp2
    refine ⟨by simp, .inl ⟨_, _, rfl, run_takeDeferred hK2, ?_⟩⟩
    have p2 := (b2.kept (grownBy_putObj' _ D (.deferred none)) (fun e => hn1 (by cases e; rfl))).cell
    have p3 := (b3.kept (grownBy_putObj' _ D (.deferred none)) (fun e => hn2 (by cases e; rfl))).cell
    exact ⟨.tuple #[.int .i64 0, .bool false], by simp [results, Tryz.results110, go_sem, p2, p3], by rw [HV.out], hb2.trans (belowK_b (w := w) (Nat.le_refl _) _ D _ _ (by omega) hK2 rfl rfl)⟩
  case stop =>
    rintro D c pre W hD hp ⟨rfl, x, p0, rfl, h1, h2, h3, h4, h5⟩ hK
    have hp' : p0.map Subtype.val ++ [x.1] <+: S := by
      have := hp.map Subtype.val
      rwa [List.attach_map_subtype_val, List.map_append] at this
    have HV := Lib.hid (acl_found hp' (fun y hy => by obtain ⟨z, hz, rfl⟩ := List.mem_map.1 hy; exact h1 z hz) h2)
    have hn1 : D ≠ w.heap.size + 1 := by rintro rfl; have := hK.symm.trans h3; cases this
    have hn2 : D ≠ w.heap.size + 2 := by rintro rfl; have := hK.symm.trans h4; cases this
    gi_wp2
    refine ⟨by simp, .inl ⟨_, _, rfl, run_takeDeferred hK, ?_⟩⟩
    have p2 := (h3.kept (grownBy_putObj' _ D (.deferred none)) (fun e => hn1 (by cases e; rfl))).cell
    have p3 := (h4.kept (grownBy_putObj' _ D (.deferred none)) (fun e => hn2 (by cases e; rfl))).cell
    exact ⟨.tuple #[.int .i64 ((x.1.2.getD 1 0).toNat : Int), .bool true], by simp [results, Tryz.results110, go_sem, p2, p3], by rw [HV.out], h5.trans (belowK_b (w := w) (Nat.le_refl _) W D _ _ (by omega) hK rfl rfl)⟩
end Go.Proofs.YtkkfmkhbdoeglaaGreatDoor

/- The contract of package overlaylaw's looks: what is asked of tables that read as a list of entries is what that list tells. No condition. -/
namespace Go.Proofs.YtkkfmkhbdoeglaaGreatDoor
open Go.RowKit

theorem aclV_shape (n : Int) (l : List E) : ∃ (a : Int) (b : Bool), aclV n l = .tuple #[.int .i64 a, .bool b] := by
  unfold aclV
  split <;> exact ⟨_, _, rfl⟩
theorem macV_shape (s : List UInt8) (l : List E) : ∃ (a : List UInt8) (b : Bool), macV s l = .tuple #[.string ⟨a.toArray⟩, .bool b] := by
  unfold macV
  split
  · exact ⟨_, _, rfl⟩
  · exact ⟨[], _, rfl⟩
theorem routeV_shape (o : Option (List UInt8)) : ∃ (a : List UInt8) (b : Bool), routeV o = .tuple #[.string ⟨a.toArray⟩, .bool b] := by
  unfold routeV
  split
  · exact ⟨_, _, rfl⟩
  · exact ⟨[], _, rfl⟩
theorem rouV_shape (s : List UInt8) (l : List E) : ∃ (a : List UInt8) (b : Bool), rouV s l = .tuple #[.string ⟨a.toArray⟩, .bool b] := by
  unfold rouV
  split <;> exact routeV_shape _
theorem foldedAcl_any (fb q r : Nat) (S : List E) (n : Int) (w : World) (h : FoldAt w fb q r S) (hS : S.length ≤ 1000000000) (hA : AclsTwo S) :
    Calls Tryz.prog 72 #[.pointer (some ⟨fb, 0, none⟩), .int .i64 n] w fun e w' => e = .returned (aclV n S) ∧ Below w.heap.size w w' := by
  have hc := h.cell
  have hc2 := h.ent.cell
  have hm := acl_any q 0 r S n w h.ent hS hA
  obtain ⟨a, b, hv⟩ := aclV_shape n S
  rw [hv] at hm ⊢
  have HL := Lib.hid hm
  clear h hm hv
  go_enter Tryz.func72, Tryz.ntmps72
  go_wp2_with fail
  refine HL.out.mono ?_
  rintro e w2 ⟨rfl, hb2⟩
  clear hc hc2 HL
  go_wp2
  go_ret2
  exact ⟨rfl, hb2⟩
theorem refRouteV_any (v : Value) (l : List E) (s : List UInt8) (w : World) (h : EntsAt w v l) (hl : l.length ≤ 1000000000) (hs : SortedE l) (hR : RoutesGood l) (hsl : s.length ≤ maxB) :
    Calls Tryz.prog 71 #[v, .string ⟨s.toArray⟩] w fun e w' => e = .returned (rouV s l) ∧ Below w.heap.size w w' := by
  by_cases h4 : s.length = 4
  · obtain ⟨a, b, c, d, rfl⟩ := length4 h4
    exact refRoute_any v l a b c d w h hl hs hR
  · have e : rouV s l = routeV none := by
      unfold rouV
      split
      · exact absurd rfl h4
      · rfl
    rw [e]
    exact refRoute_short v l s w hsl h4
/-- tables and a list that read alike -/
structure LookAt (w : World) (fb q r : Nat) (v : Value) (S : List E) : Prop where
  t : FoldAt w fb q r S
  l : EntsAt w v S
theorem LookAt.below {w w' : World} {fb q r : Nat} {v : Value} {S : List E} (h : LookAt w fb q r v S) (hb : Below w.heap.size w w') : LookAt w' fb q r v S := ⟨h.t.below hb, SliceAt.below h.l hb⟩
/-- what is known of such entries -/
structure GoodTab (S : List E) : Prop where
  len : S.length ≤ 1000000000
  size : sizeS S ≤ 4611686018427387904
  sorted : SortedE S
  acls : AclsTwo S
  routes : RoutesGood S
set_option maxRecDepth 100000 in
set_option maxHeartbeats 4000000 in
theorem looks_any (fb q r : Nat) (v : Value) (S : List E) (s : List UInt8) (n : Int) (w : World) (h : LookAt w fb q r v S) (hG : GoodTab S) (hs : s.length ≤ maxB) :
    Calls Tryz.prog 34 #[.pointer (some ⟨fb, 0, none⟩), v, .string ⟨s.toArray⟩, .int .i64 n] w fun e w' => e = .returned (.bool true) ∧ Below w.heap.size w w' := by
  obtain ⟨va, vcap, rfl, -, -⟩ := h.l.opened
  have H := Lib.hid h
  have HG := Lib.hid hG
  clear h hG
  go_enter Tryz.func34, Tryz.ntmps34
  go_wp2_with fail
  refine (foldedEntries_any _ _ _ S w H.out.t HG.out.len).mono ?_
  rintro e w1 ⟨lv, rfl, hl1, hb1⟩
  obtain ⟨la, lcap, rfl, -⟩ := hl1.opened
  have HL1 := Lib.hid hl1
  have H1 := Lib.hid (H.out.below hb1)
  clear hl1
  go_wp2_with fail
  refine (lawSameEntries_true _ _ S w1 HL1.out H1.out.l HG.out.len).mono ?_
  rintro e w2 ⟨rfl, hb2⟩
  have H2 := Lib.hid (H1.out.below hb2)
  have b2 := hb1.tn hb2
  go_wp2_with fail
  refine (foldedSize_any _ _ _ S w2 H2.out.t HG.out.size).mono ?_
  rintro e w3 ⟨rfl, hb3⟩
  have H3 := Lib.hid (H2.out.below hb3)
  have b3 := b2.tn hb3
  go_wp2_with fail
  refine (refSize_any _ S w3 H3.out.l HG.out.len HG.out.size).mono ?_
  rintro e w4 ⟨rfl, hb4⟩
  have H4 := Lib.hid (H3.out.below hb4)
  have b4 := b3.tn hb4
  go_wp2_with fail
  refine (foldedCount_any _ _ _ S n w4 H4.out.t HG.out.len).mono ?_
  rintro e w5 ⟨rfl, hb5⟩
  have H5 := Lib.hid (H4.out.below hb5)
  have b5 := b4.tn hb5
  go_wp2_with fail
  refine (refCount_any _ S n w5 H5.out.l HG.out.len).mono ?_
  rintro e w6 ⟨rfl, hb6⟩
  have H6 := Lib.hid (H5.out.below hb6)
  have b6 := b5.tn hb6
  go_wp2
  go_loopw [12] (fun i wr => ∃ k : Nat, k ≤ 3 ∧ i = .int .i64 k ∧ Below w6.heap.size w6 wr) (fun i _ => 3 - (intOf i).toNat)
  case atStart => exact ⟨0, by omega, rfl, Below.refl _ _⟩
  case round =>
    obtain ⟨k, hk, rfl, hbr⟩ := hrel
    have HR := Lib.hid (H6.out.below hbr)
    have br := b6.tn hbr
    by_cases hlt : k < 3
    · have hlt' : (k : Int) < 3 := by omega
      go_wp2_with fail
      refine (foldedCount_any _ _ _ S k wr HR.out.t HG.out.len).mono ?_
      rintro e w7 ⟨rfl, hb7⟩
      have H7 := Lib.hid (HR.out.below hb7)
      go_wp2_with fail
      refine (refCount_any _ S k w7 H7.out.l HG.out.len).mono ?_
      rintro e w8 ⟨rfl, hb8⟩
      have b8 : Below w6.heap.size w6 w8 := (hbr.tn hb7).tn hb8
      go_wp2
      exact ⟨⟨k + 1, by omega, rfl, b8⟩, by simp [intOf]; omega⟩
    · obtain rfl : k = 3 := by omega
      obtain ⟨ma, mb, hmac⟩ := macV_shape s S
      obtain ⟨ra, rb, hrou⟩ := rouV_shape s S
      obtain ⟨aa, ab, hacl⟩ := aclV_shape n S
      have M1 := fun W h => foldedMac_any fb q r S s W h
      have M2 := fun W h => refMac_any (.slice va S.length vcap) S s W h HG.out.len
      have R1 := fun W h => foldedRouteV_any fb q r S s W h hs
      have R2 := fun W h => refRouteV_any (.slice va S.length vcap) S s W h HG.out.len HG.out.sorted HG.out.routes hs
      have A1 := fun W h => foldedAcl_any fb q r S n W h HG.out.len HG.out.acls
      have A2 := fun W h => refAcl_any (.slice va S.length vcap) S n W h HG.out.len HG.out.acls
      rw [hmac] at M1 M2
      rw [hrou] at R1 R2
      rw [hacl] at A1 A2
      have M1 := Lib.hid M1
      have M2 := Lib.hid M2
      have R1 := Lib.hid R1
      have R2 := Lib.hid R2
      have A1 := Lib.hid A1
      have A2 := Lib.hid A2
      clear hmac hrou hacl
      go_wp2_with fail
      refine (M1.out wr HR.out.t).mono ?_
      rintro e w7 ⟨rfl, hb7⟩
      have H7 := Lib.hid (HR.out.below hb7)
      have b7 := br.tn hb7
      go_wp2_with fail
      refine (M2.out w7 H7.out.l).mono ?_
      rintro e w8 ⟨rfl, hb8⟩
      have H8 := Lib.hid (H7.out.below hb8)
      have b8 := b7.tn hb8
      go_wp2_with fail
      refine (R1.out w8 H8.out.t).mono ?_
      rintro e w9 ⟨rfl, hb9⟩
      have H9 := Lib.hid (H8.out.below hb9)
      have b9 := b8.tn hb9
      go_wp2_with fail
      refine (R2.out w9 H9.out.l).mono ?_
      rintro e w10 ⟨rfl, hb10⟩
      have H10 := Lib.hid (H9.out.below hb10)
      have b10 := b9.tn hb10
      go_wp2_with fail
      refine (A1.out w10 H10.out.t).mono ?_
      rintro e w11 ⟨rfl, hb11⟩
      have H11 := Lib.hid (H10.out.below hb11)
      have b11 := b10.tn hb11
      go_wp2_with fail
      refine (A2.out w11 H11.out.l).mono ?_
      rintro e w12 ⟨rfl, hb12⟩
      have b12 := b11.tn hb12
      go_wp2
      go_ret
      exact ⟨rfl, b12⟩
end Go.Proofs.YtkkfmkhbdoeglaaGreatDoor
