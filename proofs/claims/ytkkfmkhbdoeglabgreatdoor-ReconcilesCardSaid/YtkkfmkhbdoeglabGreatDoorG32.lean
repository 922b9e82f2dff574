/- A part of what is proved here: lemmas and contracts of single functions. No condition but those that each names. -/
import Derived.Carry
import Derived.ChangeSame
import Derived.Deep.DeepHandedRow
import Derived.Deep.Fields
import Derived.Deep.Slices
import Derived.LaidHandle
import Derived.LaidLaws
import Derived.Lib.LaidTab
import Derived.OpenShut
import Derived.ProofKit
import Derived.Test.YtkkfmkhbdoeglabGreatDoorCards
import Derived.Test.YtkkfmkhbdoeglabGreatDoorTie
import Derived.WalkKit
import Derived.WideKeyArgs
import Derived.Test.YtkkfmkhbdoeglabGreatDoorG02
import Derived.Test.YtkkfmkhbdoeglabGreatDoorG09
namespace Go.Proofs.YtkkfmkhbdoeglabGreatDoor
open Go.ChangeShapes Go.WideShapes Go.ChangeAt Go.RowKit
theorem own : ownKnob Tryz.prog.godebug = none := by kernel_rfl
theorem errG : Tryz.prog.globalNamed "errors.errorType" = some 0 := by kernel_rfl
theorem errRt : (Tryz.prog.cutTypes.find? (·.1 == "internal/reflectlite.rtype")).map (·.2) = some 286 := by kernel_rfl
theorem errOne : ((List.range 370).filter fun t => Tryz.prog.rowNamed t [101, 114, 114, 111, 114]) = [128] := by kernel_rfl
theorem typesSize : Tryz.prog.types.size = 370 := by kernel_rfl
/-- the one listed variable errors.errorType, out of a list's handles -/
theorem errCell_of_handles {W : World} {l : List (String × DataW Unit)} (hm : ("errors.errorType", (Rows.laid_errors_errorType : DataW Unit)) ∈ l) (h : handlesMet Tryz.prog l W) :
    W.cell? ⟨0, 0, none⟩ = some (.iface 286 (.agg #[.pointer (some ⟨2, 128, none⟩)])) := by
  obtain ⟨name, u, ty, e1, e2, e3, e4, e5⟩ := h _ hm
  have en : name = [101, 114, 114, 111, 114] := (Option.some.inj e1).symm
  subst en
  obtain rfl := Option.some.inj (errRt.symm.trans e2)
  have hm : ty ∈ (List.range 370).filter fun t => Tryz.prog.rowNamed t [101, 114, 114, 111, 114] := List.mem_filter.2 ⟨List.mem_range.2 (by rw [← typesSize]; exact e3), e4⟩
  rw [errOne] at hm
  obtain rfl := List.mem_singleton.1 hm
  have hh : typeHandle Tryz.prog 128 = .pointer (some ⟨2, 128, none⟩) := by kernel_rfl
  rw [hh] at e5
  simpa using World.var?_cell errG e5 0
/-- a world that meets the rows' lists: the settled one, both variables laid -/
noncomputable def laidWorld (os : Os) : World :=
  let w0 := World.holding Tryz.prog os ⟨#[], #[], []⟩
  { w0 with heap := (w0.heap.modify 0 fun
      | .cells _ t frozen => .cells #[.iface 286 (.agg #[.pointer (some ⟨2, 128, none⟩)])] t frozen
      | o => o).modify 1 fun
      | .cells _ t frozen => .cells #[.int .i64 6, .int .i64 4, .int .i64 5, .int .i64 4, .int .i64 2, .int .i64 2] t frozen
      | o => o }
section
variable {H : Type} {enc : TypeId × Value → H} {P : Program}
/-- what was read as arguments reads the same behind a call that turns nothing old -/
theorem trodAll_stays {W W' : World} (hl : laidOutB P = true) (hb : Below W.heap.size W W') : ∀ (ts : List TypeId) (vs : List Value) (ds : List (DataW H)) (ps : List MemPlace),
    (∀ t ∈ ts, P.readableRec t = true ∧ t < P.types.size) → DataW.TrodAll enc P W 0 (fun _ => true) true ts vs ds ps → (∀ x ∈ ps, x.block < W.heap.size) →
    DataW.TrodAll enc P W' 0 (fun b => decide (b < W.heap.size)) true ts vs ds ps
  | [], [], [], _, _, h, _ => h
  | t :: ts, v :: vs, d :: ds, ps, hr, h, hlt => by
    obtain ⟨p, q, h1, h2, rfl⟩ := h
    have ht := hr t List.mem_cons_self
    exact ⟨p, q, Below.trod hl ht.1 ht.2 h1 hb (fun x hx => hlt x (List.mem_append_left _ hx)),
      trodAll_stays hl hb ts vs ds q (fun t' h' => hr t' (List.mem_cons_of_mem _ h')) h2 (fun x hx => hlt x (List.mem_append_right _ hx)), rfl⟩
  | [], _ :: _, _, _, _, h, _ => h.elim
  | [], [], _ :: _, _, _, h, _ => h.elim
  | _ :: _, [], _, _, _, h, _ => h.elim
  | _ :: _, _ :: _, [], _, _, h, _ => h.elim
/-- the last step of a law's row: it returned true, and nothing old has turned -/
theorem law_post {f : Func} {s : ChangeSpec} {W W' : World} {args : Array Value} {ds gs : List (DataW H)} {before : List MemPlace} {tb : TypeId}
    (hW : DataW.Whole enc P f.params.toList s.vars false W args.toList ds gs before) (hv : s.vars = []) (hr : f.resultTypes = #[tb]) (ht : P.underlying tb = some .bool)
    (hres : (s.fn H (ds ++ gs)).results = [.lit (.bool true)]) (hargs : (s.fn H (ds ++ gs)).args = ds) (hvars : (s.fn H (ds ++ gs)).vars = [])
    (hl : laidOutB P = true) (hp : ∀ t ∈ f.params.toList, P.readableRec t = true ∧ t < P.types.size) (hb : Below W.heap.size W W') :
    s.post enc P f false true false false W args (.bool true) W' := by
  have hlt : ∀ x ∈ before, x.block < W.heap.size := fun x hx => hW.lt x hx
  have hW' := hW
  obtain ⟨p, q, h1, h2, rfl, _, _⟩ := hW
  rw [hv] at h2
  obtain ⟨rfl, rfl⟩ := trodVars_none h2
  refine ⟨ds, [], p ++ [], [], p, [], hW', ?_, ?_, ?_, World.keptBut_mono (fun x hx => ⟨hx, .inr (.inl (by simpa using hx))⟩) (hb.frame (· ∈ p ++ [])), fun h => by cases h⟩
  · rw [hr, hres]
    exact ⟨[], [], shut_bool ht true, rfl, rfl⟩
  · rw [hargs]
    exact trodAll_stays hl hb _ _ _ _ hp h1 (fun x hx => hlt x (List.mem_append_left _ hx))
  · rw [hv, hvars]
    rfl
end
theorem laidOut : laidOutB Tryz.prog = true := by kernel_rfl
theorem twoBlocks {W : World} (h : W.ShapedOpen Tryz.prog) : 2 ≤ W.heap.size := by
  have hc : (((begin Tryz.prog (fun _ _ => 0) default).world.heap[1]?).bind Obj.row?).isSome = true := by kernel_rfl
  obtain ⟨⟨z, t⟩, hz⟩ := Option.isSome_iff_exists.1 hc
  obtain ⟨cs, hcs, _⟩ := h.1 1 z t (by show 1 < Tryz.prog.globals.size; exact (by kernel_rfl : Tryz.prog.globals.size = 2) ▸ (by decide)) hz
  exact (Array.getElem?_eq_some_iff.1 hcs).1
end Go.Proofs.YtkkfmkhbdoeglabGreatDoor
namespace Go.Proofs.YtkkfmkhbdoeglabGreatDoor
open Go.ChangeShapes Go.WideShapes Go.ChangeAt Go.RowKit Go.Deep
/-- whatever cells read as data of a type (of a weight within the reach) are some a -/
def Opened {α : Type} (t : TypeId) (R : World → List Value → α → Prop) : Prop :=
  ∀ {H : Type} {enc : TypeId × Value → H} {w : World} {base : Nat} {spare : Nat → Bool} {held : Bool} {fuel : Nat} {cs : List Value} {x : DataW H × List MemPlace},
    DataW.trod enc Tryz.prog w base spare held fuel t cs = some x → (∀ y ∈ x.1.weights Tryz.prog t, y ≤ reachBytes) → ∃ a : α, R w cs a
/-- a number -/
def IntR (k : IntKind) (_ : World) (cs : List Value) (n : Int) : Prop := cs = [.int k n] ∧ (Lit.int k n).wf = true
theorem opened_int {t : TypeId} {k : IntKind} (ht : Tryz.prog.underlying t = some (.int k)) : Opened t (IntR k) := by
  intro H enc w base spare held fuel cs x h _
  obtain ⟨z, hc, rfl, hw⟩ := DataW.trod_int ht h
  exact ⟨z, hc, hw⟩
/-- a string -/
def StrR (_ : World) (cs : List Value) (l : List UInt8) : Prop := cs = [.string ⟨l.toArray⟩] ∧ l.length ≤ reachBytes
theorem opened_string {t : TypeId} (ht : Tryz.prog.underlying t = some .string) : Opened t StrR := by
  intro H enc w base spare held fuel cs x h hw
  obtain ⟨⟨⟨l⟩⟩, rfl, rfl, -⟩ := DataW.trod_string ht h
  exact ⟨l, rfl, hw l.length (by simp [DataW.weights])⟩
/-- a slice: each element R -/
def SliceR {α : Type} (C : Nat) (m : Nat) (R : World → List Value → α → Prop) (w : World) (cs : List Value) (l : List α) : Prop :=
  l.length ≤ m ∧ ∃ a cap, cs = [.slice a l.length cap] ∧ l.length ≤ cap ∧ ∀ i (h : i < l.length), ∃ b off, a = some ⟨b, off, none⟩ ∧ ∃ cs', cs'.length = C ∧ (∀ j, j < C → w.cell? ⟨b, off + i * C + j, none⟩ = cs'[j]?) ∧ R w cs' l[i]
theorem mem_weightsAll {H : Type} {P : Program} {e : TypeId} {d : DataW H} {y : Nat} : ∀ {l : List (DataW H)}, d ∈ l → y ∈ d.weights P e → y ∈ DataW.weightsAll P e l
  | [], h, _ => by cases h
  | x :: l, h, hy => by
    simp only [DataW.weightsAll, List.mem_append]
    rcases List.mem_cons.1 h with rfl | h
    · exact .inl hy
    · exact .inr (mem_weightsAll h hy)
theorem spot_none {w : World} {a : Addr} {v : Value} (h : w.cell? a = some v) : a = ⟨a.block, a.off, none⟩ := by
  obtain ⟨b, o, s⟩ := a
  unfold World.cell? at h
  split at h
  · split at h
    · cases h
    · rename_i hs
      cases s with
      | none => rfl
      | some _ => simp at hs
  · cases h
theorem opened_slice {α : Type} [Inhabited α] {t e : TypeId} {C m : Nat} {R : World → List Value → α → Prop} (ht : Tryz.prog.underlying t = some (.slice e)) (hC : Tryz.prog.cellsOf e = C) (hpos : 0 < C) (hby : ∀ n, n * Tryz.prog.bytesOf e ≤ reachBytes → n ≤ m) (hR : Opened e R) :
    Opened t (SliceR C m R) := by
  intro H enc w base spare held fuel cs x h hw
  rcases open_slice ht h with ⟨rfl, rfl⟩ | ⟨a, len, cap, mm, n, D, Pl, rfl, hb, hl, hm, hmm, rfl, hx⟩
  · exact ⟨[], Nat.zero_le _, none, 0, rfl, Nat.le_refl _, fun i hi => absurd hi (by simp)⟩
  · have hle : len ≤ mm := by rw [hmm]; split <;> omega
    simp only [DataW.weights, ht] at hw
    have hW : ∀ i, i < len → ∀ y ∈ (D i).weights Tryz.prog e, y ≤ reachBytes := fun i hi y hy => by
      refine hw y (List.mem_cons_of_mem _ (List.mem_append_left _ ?_))
      exact mem_weightsAll (List.mem_map.2 ⟨i, List.mem_range.2 hi, rfl⟩) hy
    have hlen : len ≤ m := by
      refine hby len ?_
      have := hw _ List.mem_cons_self
      simp only [List.length_map, List.length_range] at this
      exact Nat.le_trans (Nat.mul_le_mul_right _ (Nat.le_add_right _ _)) this
    obtain ⟨V, hV⟩ := choose_lt (α := α) (n := len) (p := fun i v => ∃ cs', cs'.length = C ∧ (∀ j, j < C → w.cell? (a.add (i * C + j)) = cs'[j]?) ∧ R w cs' v) (fun i hi => by
      obtain ⟨cs', h1, h2⟩ := hx i (by omega)
      rw [hC] at h1
      obtain ⟨_, hlen', hat⟩ := World.cells?_some h1
      obtain ⟨v, hv⟩ := hR h2 (hW i hi)
      exact ⟨v, cs', hlen', fun j hj => by rw [← add_add]; exact hat j hj, hv⟩)
    refine ⟨(List.range len).map V, by simpa using hlen, some a, cap, by simp, by simpa using hl, fun i hi => ?_⟩
    have hi' : i < len := by simpa using hi
    obtain ⟨cs', hl', hat, hv⟩ := hV i hi'
    have h0 : ∃ v, w.cell? (a.add (0 * C + 0)) = some v := by
      obtain ⟨c0, hl0, hat0, _⟩ := hV 0 (by omega)
      rw [hat0 0 hpos]
      exact ⟨c0[0], List.getElem?_eq_getElem (by omega)⟩
    obtain ⟨v0, h0⟩ := h0
    have ha : a = ⟨a.block, a.off, none⟩ := by
      have : a.add (0 * C + 0) = a := by simp [Addr.add]
      rw [this] at h0
      exact spot_none h0
    refine ⟨a.block, a.off, by rw [← ha], cs', hl', fun j hj => ?_, by simpa using hv⟩
    have := hat j hj
    rw [ha, Addr.add_lit] at this
    rw [Nat.add_assoc]
    exact this
/-- the fields of a struct, one behind the other -/
theorem mem_weightsEach {H : Type} {P : Program} {y : Nat} : ∀ {ts : List TypeId} {ds : List (DataW H)} {i : Nat} {t : TypeId} {d : DataW H}, ts[i]? = some t → ds[i]? = some d → y ∈ d.weights P t → y ∈ DataW.weightsEach P ts ds
  | [], _, i, _, _, h, _, _ => by simp at h
  | _ :: _, [], i, _, _, _, h, _ => by simp at h
  | t' :: ts, d' :: ds, 0, t, d, h1, h2, hy => by
    simp only [List.getElem?_cons_zero, Option.some.injEq] at h1 h2
    subst h1 h2
    simp only [DataW.weightsEach, List.mem_append]
    exact .inl hy
  | t' :: ts, d' :: ds, i + 1, t, d, h1, h2, hy => by
    simp only [List.getElem?_cons_succ] at h1 h2
    simp only [DataW.weightsEach, List.mem_append]
    exact .inr (mem_weightsEach h1 h2 hy)
theorem open_field {H : Type} {enc : TypeId × Value → H} {w : World} {base : Nat} {spare : Nat → Bool} {held : Bool} {fuel : Nat} {cs : List Value} {x : DataW H × List MemPlace} {t : TypeId} {fs : Array Field} (ht : Tryz.prog.underlying t = some (.struct fs))
    (h : DataW.trod enc Tryz.prog w base spare held fuel t cs = some x) (hw : ∀ y ∈ x.1.weights Tryz.prog t, y ≤ reachBytes) {α : Type} (i : Nat) (f : Field) (hf : fs[i]? = some f) {R : World → List Value → α → Prop} (hR : Opened f.type R) :
    cs.length = Tryz.prog.cellsOf t ∧ ∃ a : α, R w ((cs.drop f.offset).take (Tryz.prog.cellsOf f.type)) a := by
  obtain ⟨xs, n, -, rfl, hl, hxl, hx⟩ := DataW.trod_struct ht h
  have hi : i < xs.length := by rw [hxl]; exact (Array.getElem?_eq_some_iff.1 hf).1
  have h1 := hx i f hf
  rw [List.getElem?_eq_getElem hi] at h1
  refine ⟨hl, hR h1 fun y hy => hw y ?_⟩
  simp only [DataW.weights, ht]
  refine mem_weightsEach (i := i) (t := f.type) (d := xs[i].1) ?_ ?_ hy
  · rw [List.getElem?_map, Array.getElem?_toList, hf]; rfl
  · rw [List.getElem?_map, List.getElem?_eq_getElem hi]; rfl
theorem IntR.i64 {w : World} {cs : List Value} {n : Int} (h : IntR .i64 w cs n) : -9223372036854775808 ≤ n ∧ n ≤ 9223372036854775807 := bounds_i64 h.2
/-- of a weight within the reach -/
def Small {H : Type} (t : TypeId) (d : DataW H) : Prop := ∀ y ∈ d.weights Tryz.prog t, y ≤ reachBytes
theorem weight_at {H : Type} {ts : List TypeId} {ds : List (DataW H)} (h : (DataW.weightsEach Tryz.prog ts ds).all (· ≤ reachBytes) = true) (i : Nat) {t : TypeId} {d : DataW H} (ht : ts[i]? = some t) (hd : ds[i]? = some d) : Small t d :=
  fun y hy => of_decide_eq_true (List.all_eq_true.1 h y (mem_weightsEach ht hd hy))
section
variable {H : Type} {enc : TypeId × Value → H} {P : Program} {w : World} {base b0 : Nat} {spare : Nat → Bool} {held : Bool} {t : TypeId} {v : Value} {d : DataW H} {p : List MemPlace}
theorem arg_slice {α : Type} {R : World → List Value → α → Prop} {e : TypeId} (ht : P.underlying t = some (.slice e)) (hv : Value.okWide P w .any b0 t v) (h : DataW.Trod enc P w base spare held t v d p) (hR : ∀ {fuel : Nat} {cs : List Value}, DataW.trod enc P w base spare held fuel t cs = some (d, p) → ∃ a, R w cs a) : ∃ a, R w [v] a := by
  obtain ⟨a, len, cap, rfl⟩ := okWide_slice ht hv
  obtain ⟨fuel, hf⟩ := h
  exact hR hf
theorem arg_int {k : IntKind} (ht : P.underlying t = some (.int k)) (hv : Value.okWide P w .any b0 t v) (h : DataW.Trod enc P w base spare held t v d p) : ∃ n, v = .int k n ∧ (Lit.int k n).wf = true := by
  obtain ⟨m, rfl⟩ := okWide_int ht hv
  obtain ⟨fuel, hf⟩ := h
  obtain ⟨n, h1, -, h2⟩ := DataW.trod_int ht hf
  exact ⟨n, by simpa [Value.cells] using h1, h2⟩
end
theorem opened_str : Opened 9 StrR := opened_string Tryz.underlying9
def I64 := IntR .i64
theorem opened_i64 : Opened 3 I64 := opened_int Tryz.underlying3
def IntsR := SliceR 1 17592186044416 I64
theorem bytesInt : Tryz.prog.bytesOf 3 = 8 := by kernel_rfl
theorem opened_ints : Opened 22 IntsR := opened_slice Tryz.underlying22 (by kernel_rfl) (by omega) (fun n h => by rw [bytesInt] at h; unfold reachBytes at h; omega) opened_i64
theorem IntsR.view {w : World} {v : Value} {l : List Int} (h : IntsR w [v] l) : l.length ≤ maxB ∧ (∀ x ∈ l, -9223372036854775808 ≤ x ∧ x ≤ 9223372036854775807) ∧ SliceAt w v 1 l.length (l.map fun x => .int .i64 x) := by
  obtain ⟨hm, a, cap, hv, hc, hx⟩ := h
  cases hv
  refine ⟨by unfold maxB; omega, fun x hx' => ?_, by simp, a, cap, rfl, hc, fun i hi => ?_⟩
  · obtain ⟨i, hi, rfl⟩ := List.getElem_of_mem hx'
    obtain ⟨b, off, -, cs', -, -, hr⟩ := hx i hi
    exact hr.i64
  · rw [List.length_map] at hi
    obtain ⟨b, off, rfl, cs', hl, hat, hr⟩ := hx i hi
    refine ⟨b, off, rfl, ?_⟩
    have := hat 0 (by omega)
    rw [hr.1] at this
    simpa using this
end Go.Proofs.YtkkfmkhbdoeglabGreatDoor
namespace Go.Proofs.YtkkfmkhbdoeglabGreatDoor
open Go.ChangeShapes Go.WideShapes Go.ChangeAt Go.RowKit Go.Deep
theorem length_two {cs : List Value} (h : cs.length = 2) : ∃ a b, cs = [a, b] := by
  match cs, h with
  | [a, b], _ => exact ⟨a, b, rfl⟩
theorem cInt : Tryz.prog.cellsOf 3 = 1 := by kernel_rfl
theorem cStr : Tryz.prog.cellsOf 9 = 1 := by kernel_rfl
theorem le_maxB {n : Nat} (h : n ≤ reachBytes) : n ≤ maxB := Nat.le_trans h (by decide)
instance : Inhabited OpB := ⟨⟨0, 0, [], []⟩⟩
def OpR (_ : World) (cs : List Value) (o : OpB) : Prop := cs = [.int .i64 o.kind, .int .i64 o.table, .string ⟨o.key.toArray⟩, .string ⟨o.val.toArray⟩] ∧ o.key.length ≤ maxB ∧ o.val.length ≤ maxB ∧
  (-9223372036854775808 ≤ o.kind ∧ o.kind ≤ 9223372036854775807) ∧ (-9223372036854775808 ≤ o.table ∧ o.table ≤ 9223372036854775807)
def OpsR := SliceR 4 2932031007402 OpR
theorem flatCells {w : World} {b off C : Nat} {xs : List Value} {n : Nat} (hC : 0 < C) (hl : xs.length = n * C) (h : ∀ i, i < n → ∀ j, j < C → w.cell? ⟨b, off + i * C + j, none⟩ = xs[i * C + j]?) : ∀ k (hk : k < xs.length), w.cell? ⟨b, off + k, none⟩ = some xs[k] := by
  intro k hk
  have h1 : k / C < n := Nat.div_lt_of_lt_mul (by rw [Nat.mul_comm]; omega)
  have h2 : k % C < C := Nat.mod_lt _ hC
  have e : k / C * C + k % C = k := by rw [Nat.mul_comm]; exact Nat.div_add_mod k C
  have := h (k / C) h1 (k % C) h2
  rw [Nat.add_assoc, e] at this
  rw [this]
  exact List.getElem?_eq_getElem hk
theorem OpsR.view {w : World} {v : Value} {l : List OpB} (h : OpsR w [v] l) : l.length ≤ 2932031007402 ∧ OpsFit l ∧ OpsAt w v l := by
  obtain ⟨hm, a, cap, hv, hc, hx⟩ := h
  cases hv
  refine ⟨hm, fun o ho => ?_, ?_⟩
  · obtain ⟨i, hi, rfl⟩ := List.getElem_of_mem ho
    obtain ⟨b, off, -, cs', -, -, hr⟩ := hx i hi
    exact ⟨hr.2.1, hr.2.2.1⟩
  · refine ⟨opCells_length l, a, cap, rfl, hc, fun k hk => ?_⟩
    have hpos : 0 < l.length := by rw [opCells_length] at hk; omega
    obtain ⟨b, off, rfl, -⟩ := hx 0 hpos
    refine ⟨b, off, rfl, flatCells (C := 4) (n := l.length) (by omega) (opCells_length l) (fun i hi j hj => ?_) k hk⟩
    obtain ⟨b', off', he, cs', hl, hat, hr⟩ := hx i hi
    cases he
    rw [hat j hj, hr.1]
    obtain ⟨e0, e1, e2, e3⟩ := opCells_at l i hi
    match j, hj with
    | 0, _ => exact e0.symm
    | 1, _ => exact e1.symm
    | 2, _ => exact e2.symm
    | 3, _ => exact e3.symm
def DeltaR (w : World) (cs : List Value) (d : Nat × List OpB) : Prop := ∃ sv, cs = [.int .u64 d.1, sv] ∧ d.1 < 18446744073709551616 ∧ OpsR w [sv] d.2
/-- one row of the table shapes -/
theorem shape_row {H : Type} {enc : TypeId × Value → H} {w : World} {base : Nat} {spare : Nat → Bool} {held : Bool} {fuel : Nat} {cs : List Value} {a b : Int} {p : List MemPlace}
    (h : DataW.trod enc Tryz.prog w base spare held fuel 311 cs = some (.agg [.lit (.int .i64 a), .lit (.int .i64 b)], p)) : cs = [.int .i64 a, .int .i64 b] := by
  obtain ⟨xs, n, -, hx, hl, hxl, hf⟩ := DataW.trod_struct Tryz.underlying311 h
  have h0 := hf 0 _ rfl
  have h1 := hf 1 _ rfl
  have c : Tryz.prog.cellsOf 311 = 2 := by kernel_rfl
  have h0 : DataW.trod enc Tryz.prog w base spare held n 3 ((cs.drop 0).take (Tryz.prog.cellsOf 3)) = xs[0]? := h0
  have h1 : DataW.trod enc Tryz.prog w base spare held n 3 ((cs.drop 1).take (Tryz.prog.cellsOf 3)) = xs[1]? := h1
  rw [cInt] at h0 h1
  rw [c] at hl
  obtain ⟨c0, c1, rfl⟩ := length_two hl
  have hx1 : xs.map (·.1) = [.lit (.int .i64 a), .lit (.int .i64 b)] := by
    have := congrArg Prod.fst hx
    simpa using this.symm
  have e0 : (xs.map (·.1))[0]? = some (.lit (.int .i64 a)) := by rw [hx1]; rfl
  have e1 : (xs.map (·.1))[1]? = some (.lit (.int .i64 b)) := by rw [hx1]; rfl
  rw [List.getElem?_map] at e0 e1
  obtain ⟨y0, g0, f0⟩ := Option.map_eq_some_iff.1 e0
  obtain ⟨y1, g1, f1⟩ := Option.map_eq_some_iff.1 e1
  rw [g0] at h0
  rw [g1] at h1
  obtain ⟨z0, k0, rfl, -⟩ := DataW.trod_int Tryz.underlying3 h0
  obtain ⟨z1, k1, rfl, -⟩ := DataW.trod_int Tryz.underlying3 h1
  simp at k0 k1 f0 f1
  rw [k0, k1, f0, f1]
/-- the variable shapes, out of what the row lists -/
theorem shapes_of_laid {W : World} (hs : 2 ≤ W.heap.size) (h : laidMet Tryz.prog [("overlay/overlay.shapes", Rows.laid_overlay_overlay_shapes)] W) : ShapesVar W := by
  obtain ⟨ps, ⟨g', t', cs, fuel, p, q, hg', ht', hvar, hd, _, _⟩, _⟩ := h
  have hg : Tryz.prog.globalNamed "overlay/overlay.shapes" = some 1 := by kernel_rfl
  obtain rfl := Option.some.inj (hg.symm.trans hg')
  have ht : (Tryz.prog.globals[1]?).map (·.type) = some 312 := by kernel_rfl
  obtain rfl := Option.some.inj (ht.symm.trans ht')
  have ce : Tryz.prog.cellsOf 311 = 2 := by kernel_rfl
  have ct : Tryz.prog.cellsOf 312 = 6 := by kernel_rfl
  have hcs : ∀ i a b, ((Rows.laid_overlay_overlay_shapes : DataW Unit) = .agg [.agg [.lit (.int .i64 6), .lit (.int .i64 4)], .agg [.lit (.int .i64 5), .lit (.int .i64 4)], .agg [.lit (.int .i64 2), .lit (.int .i64 2)]]) →
      ([.agg [.lit (.int .i64 6), .lit (.int .i64 4)], .agg [.lit (.int .i64 5), .lit (.int .i64 4)], .agg [.lit (.int .i64 2), .lit (.int .i64 2)]] : List (DataW Unit))[i]? = some (.agg [.lit (.int .i64 a), .lit (.int .i64 b)]) →
      cs[i * 2]? = some (.int .i64 a) ∧ cs[i * 2 + 1]? = some (.int .i64 b) := by
    intro i a b hdat hi
    rw [hdat] at hd
    cases fuel with
    | zero => simp [DataW.trod] at hd
    | succ n =>
      simp only [DataW.trod, Tryz.underlying312, ce, ct] at hd
      split at hd
      · obtain ⟨xs, hm, hx⟩ := Option.map_eq_some_iff.1 hd
        have hxs := congrArg Prod.fst hx
        simp only [DataW.agg.injEq] at hxs
        rw [← hxs, List.getElem?_map] at hi
        obtain ⟨y, hy, hyf⟩ := Option.map_eq_some_iff.1 hi
        have hi3 : i < 3 := by
          have h1 := (List.getElem?_eq_some_iff.1 hy).1
          have h2 := Lib.mapM_length hm
          rw [List.length_range] at h2
          omega
        obtain ⟨b', hb', hf⟩ := Lib.mapM_at hm i i (by rw [List.getElem?_range hi3])
        rw [hy] at hb'
        obtain rfl := Option.some.inj hb'
        obtain ⟨y1, y2⟩ := y
        simp only at hyf
        subst hyf
        have := shape_row hf
        have e0 := congrArg (·[0]?) this
        have e1 := congrArg (·[1]?) this
        simp only [List.getElem?_take, List.getElem?_drop] at e0 e1
        simp at e0 e1
        exact ⟨e0, e1⟩
      · cases hd
  have hv := World.var?_cell hg hvar
  have r0 := hcs 0 6 4 rfl rfl
  have r1 := hcs 1 5 4 rfl rfl
  have r2 := hcs 2 2 2 rfl rfl
  exact ⟨hs, (hv 0).trans (by simpa using r0.1), (hv 1).trans (by simpa using r0.2), (hv 2).trans (by simpa using r1.1), (hv 3).trans (by simpa using r1.2), (hv 4).trans (by simpa using r2.1), (hv 5).trans (by simpa using r2.2)⟩
theorem shapes_met (os : Os) (args : Array Value) : laidMet Tryz.prog [("overlay/overlay.shapes", Rows.laid_overlay_overlay_shapes)] ((laidWorld os).forCall (fun _ _ => 0) ⟨#[], args, []⟩).memory :=
  laidMet_of_run' 8 (by kernel_rfl) (by kernel_rfl)
end Go.Proofs.YtkkfmkhbdoeglabGreatDoor
