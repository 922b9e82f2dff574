/- Deltas one behind the other make the document's tables: entries, counts, sizes and all that is found (P6, P7): the statement Tables, for every input. Condition: the package-level variables that errors.As and the table shapes read hold what the program's text lays there (the card ties them to that text). -/
import Derived.Test.YtkkfmkhbdoeglaaGreatDoorRefWith
namespace Go.Proofs.YtkkfmkhbdoeglaaGreatDoor.tablesLaw
open Go.ChangeShapes Go.WideShapes Go.ChangeAt Go.RowKit

theorem vars {W : World} (hs : 2 ≤ W.heap.size) (h : laidMetH Tryz.prog Rows.tablesRow.laid W) : ErrVar W ∧ ShapesVar W :=
  ⟨⟨hs, errCell_of_handles (List.mem_singleton.2 rfl) (show laidMet Tryz.prog [("overlay/overlay.shapes", Rows.laid_overlay_overlay_shapes)] W ∧ handlesMet Tryz.prog [("errors.errorType", Rows.laid_errors_errorType)] W from h).2⟩, shapes_of_laid hs (show laidMet Tryz.prog [("overlay/overlay.shapes", Rows.laid_overlay_overlay_shapes)] W ∧ handlesMet Tryz.prog [("errors.errorType", Rows.laid_errors_errorType)] W from h).1⟩
theorem laid_met (os : Os) : laidMetH Tryz.prog Rows.tablesRow.laid ((laidWorld os).forCall (fun _ _ => 0) ⟨#[], #[.slice none 0 0, .slice none 0 0, .slice none 0 0], []⟩).memory :=
  laidMetH_of_parts (shapes_met os _) (by kernel_rfl)

set_option maxRecDepth 100000 in
theorem contract (H : Type) (enc : TypeId × Value → H) (W : World) (base : Nat) (args : Array Value) (ds gs : List (DataW H)) (before : List MemPlace)
    (hval : ∀ (j : Nat) t v, Tryz.f5.params[j]? = some t → args[j]? = some v → Value.okWide Tryz.prog W .any base t v)
    (hW : DataW.Whole enc Tryz.prog Tryz.f5.params.toList Rows.tablesSpec.vars false W args.toList ds gs before) (hL : laidMetH Tryz.prog Rows.tablesRow.laid W)
    (hz : (DataW.weightsEach Tryz.prog (Tryz.f5.params.toList ++ (OpenSpec.ofChange Rows.tablesSpec).bare.plain.varTypes Tryz.prog) (ds ++ gs)).all (· ≤ reachBytes) = true) (hsh : W.ShapedOpen Tryz.prog) :
    Calls Tryz.prog 5 args W fun e W' => ∃ v, e = .returned v ∧ Rows.tablesSpec.post enc Tryz.prog Tryz.f5 false true false false W args v W' := by
  have hsize := twoBlocks hsh
  clear hsh
  have hW' := hW
  have hvars := vars hsize hL
  obtain ⟨p, q, hA0, hV, rfl, hfz, hnd⟩ := hW
  have hA : DataW.TrodAll enc Tryz.prog W 0 (fun _ => true) true Tryz.f5.params.toList args.toList ds p := hA0
  rw [Tryz.params5] at hA hval hz
  have HZ := Lib.hid hz
  clear hz hA0 hL
  obtain ⟨v0, vs0, d0, ds0, p0, q0, hargs, rfl, rfl, h0, r0⟩ := trodAll_cons hA
  obtain ⟨v1, vs1, d1, ds1, p1, q1, rfl, rfl, rfl, h1, r1⟩ := trodAll_cons r0
  obtain ⟨v2, vs2, d2, ds2, p2, q2, rfl, rfl, rfl, h2, r2⟩ := trodAll_cons r1
  obtain ⟨rfl, rfl, rfl⟩ := trodAll_nil r2
  obtain rfl : args = #[v0, v1, v2] := by
    obtain ⟨l⟩ := args
    exact congrArg Array.mk hargs
  obtain ⟨rfl, rfl⟩ := trodVars_none hV
  obtain ⟨l0, hl0⟩ := arg_slice Tryz.underlying63 (hval 0 63 v0 rfl rfl) h0 (fun h => opened_deltas h (weight_at HZ.out 0 rfl rfl))
  obtain ⟨l1, hl1⟩ := arg_slice Tryz.underlying64 (hval 1 64 v1 rfl rfl) h1 (fun h => opened_strings h (weight_at HZ.out 1 rfl rfl))
  obtain ⟨l2, hl2⟩ := arg_slice Tryz.underlying29 (hval 2 29 v2 rfl rfl) h2 (fun h => opened_ints h (weight_at HZ.out 2 rfl rfl))
  obtain ⟨hm2, hbd2, hat2⟩ := hl2.view
  obtain ⟨hm0, hat0⟩ := hl0.view
  obtain ⟨hm1, hat1⟩ := hl1.view
  obtain ⟨hn2, hnt2⟩ := hl2.nums
  refine (Tables_walk _ _ _ l0 l1 l2 W ⟨hat0, hat1, hnt2, hvars.2, hvars.1⟩ (by omega) hm1 hn2).mono fun e W' ⟨he, hb⟩ => ?_
  subst he
  exact ⟨_, rfl, law_post hW' rfl (by kernel_rfl) Tryz.underlying4 rfl rfl rfl laidOut (by decide +kernel) hb⟩

theorem reads (os : Os) {H : Type} (enc : TypeId × Value → H) : ∃ places, DataW.whole enc Tryz.prog ((laidWorld os).forCall (fun _ _ => 0) ⟨#[], #[.slice none 0 0, .slice none 0 0, .slice none 0 0], []⟩).memory Tryz.f5.params.toList Rows.tablesSpec.vars false (#[.slice none 0 0, .slice none 0 0, .slice none 0 0] : Array Value).toList 8 = some ([.nil, .nil, .nil], [], places) :=
  ⟨[], by kernel_rfl⟩
set_option maxRecDepth 100000 in
theorem lifted (os : Os) (started : os.Started) (H : Type) (enc : TypeId × Value → H) (F : Stop.Interp) :
    ReturnsInHanded {} Tryz.checked os 5 .any ((OpenSpec.ofChange Rows.tablesSpec).preRow enc Tryz.prog Tryz.f5 Rows.tablesRow.domain false Rows.tablesRow.laid) (((OpenSpec.ofChange Rows.tablesSpec).at F).post enc Tryz.prog Tryz.f5 false true false false) := by
  obtain ⟨places, hx⟩ := reads os enc
  refine returnsInHanded_of_row (C := Tryz.checked) (s := OpenSpec.ofChange Rows.tablesSpec) own started (by kernel_rfl) Tryz.func5
    (witness_row_at (enc := enc) (C := Tryz.checked) false (laidWorld os) #[.slice none 0 0, .slice none 0 0, .slice none 0 0] rfl (by kernel_rfl) (by kernel_rfl) (by kernel_rfl)
      (OpenSpec.preRow_of_cond 8 hx (by kernel_rfl) (fun k hk => by cases hk) (by kernel_rfl) (laid_met os))) ?_
  intro W base args ds gs before hval hW _ _ hz hL hsh _
  exact contract H enc W base args ds gs before hval hW hL hz hsh
theorem said : Rows.TablesSaid :=
  OpenClaim.holds_of_cond 5 Tryz.f5 rfl rfl rfl rfl rfl rfl rfl ⟨rfl, rfl, rfl, rfl, rfl⟩ rfl rfl rfl rfl rfl (by kernel_rfl) Tryz.func5 (by kernel_rfl)
    (of_decide_eq_true (by kernel_rfl)) (by unfold Func.isWrapper; first | (rw [if_pos (by decide +kernel)]; kernel_rfl) | (rw [if_neg (by decide +kernel)]; exact ⟨rfl, rfl⟩))
    (fun os started H enc _ F => by rw [OpenClaim.pre_eq_preRow]; exact lifted os started H enc F)
theorem plain (f : FuncId) (fn : Func) (hf : Tryz.pinned.checked.prog.funcNamed "overlay/overlaylaw.Tables" = some f) (hfn : Tryz.pinned.checked.prog.funcs[f]? = some fn) :
    true = Tryz.pinned.checked.prog.looks [] ∧ ∀ (j : Nat) t, fn.params[j]? = some t → Tryz.pinned.checked.prog.wantsStandIn t = false := by
  obtain rfl : f = 5 := Option.some.inj ((show Tryz.prog.funcNamed "overlay/overlaylaw.Tables" = some 5 by kernel_rfl).symm.trans hf) |>.symm
  obtain rfl : fn = Tryz.f5 := (Option.some.inj (Tryz.func5.symm.trans hfn)).symm
  refine ⟨by kernel_rfl, fun j t ht => ?_⟩
  rw [Tryz.params5] at ht
  have hm := Array.mem_of_getElem? ht
  simp only [List.mem_toArray, List.mem_cons, List.not_mem_nil, or_false] at hm
  have hall : ∀ t ∈ [63, 64, 29], Tryz.prog.wantsStandIn t = false := by
    intro t ht
    simp only [List.mem_cons, List.not_mem_nil, or_false] at ht
    rcases ht with rfl | rfl | rfl <;> kernel_rfl
  exact hall t (by simpa using hm)
/-- The card. -/
theorem card : Rows.TablesCardSaid :=
  Claim7.holds_tied_plain_at .later [] _ _ _ _ said (fun _ h => by cases h) (by kernel_rfl) (fun _ h => by cases h) tables_row_tie rfl ⟨rfl, rfl⟩ (by kernel_rfl) rfl plain (by kernel_rfl)
end Go.Proofs.YtkkfmkhbdoeglaaGreatDoor.tablesLaw
