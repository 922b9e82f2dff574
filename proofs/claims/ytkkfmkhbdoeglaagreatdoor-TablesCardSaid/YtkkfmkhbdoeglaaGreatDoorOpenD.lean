/- What arguments are in memory: changes and deltas; and the row's list of variables opened. -/
import Derived.Test.YtkkfmkhbdoeglaaGreatDoorOpen
import Derived.Test.YtkkfmkhbdoeglaaGreatDoorChk
namespace Go.Proofs.YtkkfmkhbdoeglaaGreatDoor
open Go.ChangeShapes Go.WideShapes Go.ChangeAt Go.RowKit Go.Deep

theorem length_two {cs : List Value} (h : cs.length = 2) : ∃ a b, cs = [a, b] := by
  match cs, h with
  | [a, b], _ => exact ⟨a, b, rfl⟩
theorem length_four {cs : List Value} (h : cs.length = 4) : ∃ a b c d, cs = [a, b, c, d] := by
  match cs, h with
  | [a, b, c, d], _ => exact ⟨a, b, c, d, rfl⟩
theorem cInt : Tryz.prog.cellsOf 3 = 1 := by kernel_rfl
theorem cU64 : Tryz.prog.cellsOf 26 = 1 := by kernel_rfl
theorem cStr : Tryz.prog.cellsOf 9 = 1 := by kernel_rfl
theorem cKey : Tryz.prog.cellsOf 94 = 2 := by kernel_rfl
theorem cOp : Tryz.prog.cellsOf 96 = 4 := by kernel_rfl
theorem cDelta : Tryz.prog.cellsOf 34 = 2 := by kernel_rfl
theorem cOps : Tryz.prog.cellsOf 32 = 1 := by kernel_rfl
theorem bytesOp : Tryz.prog.bytesOf 96 = 48 := by kernel_rfl
def KeyR (_ : World) (cs : List Value) (k : Int × List UInt8) : Prop := cs = [.int .i64 k.1, .string ⟨k.2.toArray⟩] ∧ -9223372036854775808 ≤ k.1 ∧ k.1 ≤ 9223372036854775807 ∧ k.2.length ≤ reachBytes
theorem opened_key : Opened 94 KeyR := by
  intro H enc w base spare held fuel cs x h hw
  obtain ⟨hl, a, ha⟩ := open_field Tryz.underlying94 h hw 0 _ rfl opened_i64
  obtain ⟨-, s, hs⟩ := open_field Tryz.underlying94 h hw 1 _ rfl opened_str
  have ha : I64 w ((cs.drop 0).take (Tryz.prog.cellsOf 3)) a := ha
  have hs : StrR w ((cs.drop 1).take (Tryz.prog.cellsOf 9)) s := hs
  rw [cInt] at ha
  rw [cStr] at hs
  rw [cKey] at hl
  obtain ⟨c0, c1, rfl⟩ := length_two hl
  obtain ⟨h1, -⟩ := ha
  have hb := IntR.i64 ha
  obtain ⟨h2, hl2⟩ := hs
  simp at h1 h2
  subst h1 h2
  exact ⟨(a, s), rfl, hb.1, hb.2, hl2⟩
theorem le_maxB {n : Nat} (h : n ≤ reachBytes) : n ≤ maxB := Nat.le_trans h (by decide)
instance : Inhabited OpB := ⟨⟨0, 0, [], []⟩⟩
def OpR (_ : World) (cs : List Value) (o : OpB) : Prop := cs = [.int .i64 o.kind, .int .i64 o.table, .string ⟨o.key.toArray⟩, .string ⟨o.val.toArray⟩] ∧ o.key.length ≤ maxB ∧ o.val.length ≤ maxB ∧
  (-9223372036854775808 ≤ o.kind ∧ o.kind ≤ 9223372036854775807) ∧ (-9223372036854775808 ≤ o.table ∧ o.table ≤ 9223372036854775807)
theorem opened_op : Opened 96 OpR := by
  intro H enc w base spare held fuel cs x h hw
  obtain ⟨hl, a, ha⟩ := open_field Tryz.underlying96 h hw 0 _ rfl opened_i64
  obtain ⟨-, k, hk⟩ := open_field Tryz.underlying96 h hw 1 _ rfl opened_key
  obtain ⟨-, s, hs⟩ := open_field Tryz.underlying96 h hw 2 _ rfl opened_str
  have ha : I64 w ((cs.drop 0).take (Tryz.prog.cellsOf 3)) a := ha
  have hk : KeyR w ((cs.drop 1).take (Tryz.prog.cellsOf 94)) k := hk
  have hs : StrR w ((cs.drop 3).take (Tryz.prog.cellsOf 9)) s := hs
  rw [cInt] at ha
  rw [cKey] at hk
  rw [cStr] at hs
  rw [cOp] at hl
  obtain ⟨c0, c1, c2, c3, rfl⟩ := length_four hl
  obtain ⟨h1, -⟩ := ha
  have hb := IntR.i64 ha
  obtain ⟨h2, hk1, hk2, hk3⟩ := hk
  obtain ⟨h3, hl3⟩ := hs
  simp at h1 h2 h3
  obtain ⟨h2, h4⟩ := h2
  subst h1 h2 h3 h4
  exact ⟨⟨a, k.1, k.2, s⟩, rfl, le_maxB hk3, le_maxB hl3, hb, hk1, hk2⟩
def OpsR := SliceR 4 2932031007402 OpR
theorem opened_ops : Opened 32 OpsR := opened_slice Tryz.underlying32 cOp (by omega) (fun n h => by rw [bytesOp] at h; unfold reachBytes at h; omega) opened_op
theorem flatCells {w : World} {b off C : Nat} {xs : List Value} {n : Nat} (hC : 0 < C) (hl : xs.length = n * C) (h : ∀ i, i < n → ∀ j, j < C → w.cell? ⟨b, off + i * C + j, none⟩ = xs[i * C + j]?) : ∀ k (hk : k < xs.length), w.cell? ⟨b, off + k, none⟩ = some xs[k] := by
  intro k hk
  have h1 : k / C < n := Nat.div_lt_of_lt_mul (by rw [Nat.mul_comm]; omega)
  have h2 : k % C < C := Nat.mod_lt _ hC
  have e : k / C * C + k % C = k := by rw [Nat.mul_comm]; exact Nat.div_add_mod k C
  have := h (k / C) h1 (k % C) h2
  rw [Nat.add_assoc, e] at this
  rw [this]
  exact List.getElem?_eq_getElem hk
theorem OpsR.view {w : World} {v : Value} {l : List OpB} (h : OpsR w [v] l) : l.length ≤ 2932031007402 ∧ OpsFit l ∧ OpsAt w v l := by
  obtain ⟨hm, a, cap, hv, hc, hx⟩ := h
  cases hv
  refine ⟨hm, fun o ho => ?_, ?_⟩
  · obtain ⟨i, hi, rfl⟩ := List.getElem_of_mem ho
    obtain ⟨b, off, -, cs', -, -, hr⟩ := hx i hi
    exact ⟨hr.2.1, hr.2.2.1⟩
  · refine ⟨opCells_length l, a, cap, rfl, hc, fun k hk => ?_⟩
    have hpos : 0 < l.length := by rw [opCells_length] at hk; omega
    obtain ⟨b, off, rfl, -⟩ := hx 0 hpos
    refine ⟨b, off, rfl, flatCells (C := 4) (n := l.length) (by omega) (opCells_length l) (fun i hi j hj => ?_) k hk⟩
    obtain ⟨b', off', he, cs', hl, hat, hr⟩ := hx i hi
    cases he
    rw [hat j hj, hr.1]
    obtain ⟨e0, e1, e2, e3⟩ := opCells_at l i hi
    match j, hj with
    | 0, _ => exact e0.symm
    | 1, _ => exact e1.symm
    | 2, _ => exact e2.symm
    | 3, _ => exact e3.symm
def DeltaR (w : World) (cs : List Value) (d : Nat × List OpB) : Prop := ∃ sv, cs = [.int .u64 d.1, sv] ∧ d.1 < 18446744073709551616 ∧ OpsR w [sv] d.2
theorem opened_delta : Opened 34 DeltaR := by
  intro H enc w base spare held fuel cs x h hw
  obtain ⟨hl, a, ha⟩ := open_field Tryz.underlying34 h hw 0 _ rfl (opened_int Tryz.underlying26)
  obtain ⟨-, k, hk⟩ := open_field Tryz.underlying34 h hw 1 _ rfl opened_ops
  have ha : IntR .u64 w ((cs.drop 0).take (Tryz.prog.cellsOf 26)) a := ha
  have hk : OpsR w ((cs.drop 1).take (Tryz.prog.cellsOf 32)) k := hk
  rw [cU64] at ha
  rw [cOps] at hk
  rw [cDelta] at hl
  obtain ⟨c0, c1, rfl⟩ := length_two hl
  obtain ⟨h1, hwf⟩ := ha
  simp at h1
  subst h1
  have hb : 0 ≤ a ∧ a < 18446744073709551616 := by
    simp only [Lit.wf, Bool.and_eq_true, decide_eq_true_eq] at hwf
    have e1 : IntKind.u64.min = 0 := by decide
    have e2 : IntKind.u64.max = 18446744073709551615 := by decide
    omega
  obtain ⟨n, rfl⟩ := Int.eq_ofNat_of_zero_le hb.1
  exact ⟨(n, k), c1, rfl, by simp only; omega, hk⟩
/-- one row of the table shapes -/
theorem shape_row {H : Type} {enc : TypeId × Value → H} {w : World} {base : Nat} {spare : Nat → Bool} {held : Bool} {fuel : Nat} {cs : List Value} {a b : Int} {p : List MemPlace}
    (h : DataW.trod enc Tryz.prog w base spare held fuel 248 cs = some (.agg [.lit (.int .i64 a), .lit (.int .i64 b)], p)) : cs = [.int .i64 a, .int .i64 b] := by
  obtain ⟨xs, n, -, hx, hl, hxl, hf⟩ := DataW.trod_struct Tryz.underlying248 h
  have h0 := hf 0 _ rfl
  have h1 := hf 1 _ rfl
  have c : Tryz.prog.cellsOf 248 = 2 := by kernel_rfl
  have h0 : DataW.trod enc Tryz.prog w base spare held n 3 ((cs.drop 0).take (Tryz.prog.cellsOf 3)) = xs[0]? := h0
  have h1 : DataW.trod enc Tryz.prog w base spare held n 3 ((cs.drop 1).take (Tryz.prog.cellsOf 3)) = xs[1]? := h1
  rw [cInt] at h0 h1
  rw [c] at hl
  obtain ⟨c0, c1, rfl⟩ := length_two hl
  have hx1 : xs.map (·.1) = [.lit (.int .i64 a), .lit (.int .i64 b)] := by
    have := congrArg Prod.fst hx
    simpa using this.symm
  have e0 : (xs.map (·.1))[0]? = some (.lit (.int .i64 a)) := by rw [hx1]; rfl
  have e1 : (xs.map (·.1))[1]? = some (.lit (.int .i64 b)) := by rw [hx1]; rfl
  rw [List.getElem?_map] at e0 e1
  obtain ⟨y0, g0, f0⟩ := Option.map_eq_some_iff.1 e0
  obtain ⟨y1, g1, f1⟩ := Option.map_eq_some_iff.1 e1
  rw [g0] at h0
  rw [g1] at h1
  obtain ⟨z0, k0, rfl, -⟩ := DataW.trod_int Tryz.underlying3 h0
  obtain ⟨z1, k1, rfl, -⟩ := DataW.trod_int Tryz.underlying3 h1
  simp at k0 k1 f0 f1
  rw [k0, k1, f0, f1]
/-- the variable shapes, out of what the row lists -/
theorem shapes_of_laid {W : World} (hs : 2 ≤ W.heap.size) (h : laidMet Tryz.prog [("overlay/overlay.shapes", Rows.laid_overlay_overlay_shapes)] W) : ShapesVar W := by
  obtain ⟨ps, ⟨g', t', cs, fuel, p, q, hg', ht', hvar, hd, _, _⟩, _⟩ := h
  have hg : Tryz.prog.globalNamed "overlay/overlay.shapes" = some 1 := by kernel_rfl
  obtain rfl := Option.some.inj (hg.symm.trans hg')
  have ht : (Tryz.prog.globals[1]?).map (·.type) = some 249 := by kernel_rfl
  obtain rfl := Option.some.inj (ht.symm.trans ht')
  have ce : Tryz.prog.cellsOf 248 = 2 := by kernel_rfl
  have ct : Tryz.prog.cellsOf 249 = 6 := by kernel_rfl
  have hcs : ∀ i a b, ((Rows.laid_overlay_overlay_shapes : DataW Unit) = .agg [.agg [.lit (.int .i64 6), .lit (.int .i64 4)], .agg [.lit (.int .i64 5), .lit (.int .i64 4)], .agg [.lit (.int .i64 2), .lit (.int .i64 2)]]) →
      ([.agg [.lit (.int .i64 6), .lit (.int .i64 4)], .agg [.lit (.int .i64 5), .lit (.int .i64 4)], .agg [.lit (.int .i64 2), .lit (.int .i64 2)]] : List (DataW Unit))[i]? = some (.agg [.lit (.int .i64 a), .lit (.int .i64 b)]) →
      cs[i * 2]? = some (.int .i64 a) ∧ cs[i * 2 + 1]? = some (.int .i64 b) := by
    intro i a b hdat hi
    rw [hdat] at hd
    cases fuel with
    | zero => simp [DataW.trod] at hd
    | succ n =>
      simp only [DataW.trod, Tryz.underlying249, ce, ct] at hd
      split at hd
      · obtain ⟨xs, hm, hx⟩ := Option.map_eq_some_iff.1 hd
        have hxs := congrArg Prod.fst hx
        simp only [DataW.agg.injEq] at hxs
        rw [← hxs, List.getElem?_map] at hi
        obtain ⟨y, hy, hyf⟩ := Option.map_eq_some_iff.1 hi
        have hi3 : i < 3 := by
          have h1 := (List.getElem?_eq_some_iff.1 hy).1
          have h2 := Lib.mapM_length hm
          rw [List.length_range] at h2
          omega
        obtain ⟨b', hb', hf⟩ := Lib.mapM_at hm i i (by rw [List.getElem?_range hi3])
        rw [hy] at hb'
        obtain rfl := Option.some.inj hb'
        obtain ⟨y1, y2⟩ := y
        simp only at hyf
        subst hyf
        have := shape_row hf
        have e0 := congrArg (·[0]?) this
        have e1 := congrArg (·[1]?) this
        simp only [List.getElem?_take, List.getElem?_drop] at e0 e1
        simp at e0 e1
        exact ⟨e0, e1⟩
      · cases hd
  have hv := World.var?_cell hg hvar
  have r0 := hcs 0 6 4 rfl rfl
  have r1 := hcs 1 5 4 rfl rfl
  have r2 := hcs 2 2 2 rfl rfl
  exact ⟨hs, (hv 0).trans (by simpa using r0.1), (hv 1).trans (by simpa using r0.2), (hv 2).trans (by simpa using r1.1), (hv 3).trans (by simpa using r1.2), (hv 4).trans (by simpa using r2.1), (hv 5).trans (by simpa using r2.2)⟩
theorem shapes_met (os : Os) (args : Array Value) : laidMet Tryz.prog [("overlay/overlay.shapes", Rows.laid_overlay_overlay_shapes)] ((laidWorld os).forCall (fun _ _ => 0) ⟨#[], args, []⟩).memory :=
  laidMet_of_run' 8 (by kernel_rfl) (by kernel_rfl)
end Go.Proofs.YtkkfmkhbdoeglaaGreatDoor
