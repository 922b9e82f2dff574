/- What arguments are in memory: a reading as data opened down to cells, for slices, structs, strings and numbers, nested; with the size that the form's reach gives. -/
import Derived.Test.YtkkfmkhbdoeglaaGreatDoorLaid
import Derived.Deep.Slices
import Derived.Deep.Fields
import Derived.ChangeSame
namespace Go.Proofs.YtkkfmkhbdoeglaaGreatDoor
open Go.ChangeShapes Go.WideShapes Go.ChangeAt Go.RowKit Go.Deep

/-- whatever cells read as data of a type (of a weight within the reach) are some a -/
def Opened {α : Type} (t : TypeId) (R : World → List Value → α → Prop) : Prop :=
  ∀ {H : Type} {enc : TypeId × Value → H} {w : World} {base : Nat} {spare : Nat → Bool} {held : Bool} {fuel : Nat} {cs : List Value} {x : DataW H × List MemPlace},
    DataW.trod enc Tryz.prog w base spare held fuel t cs = some x → (∀ y ∈ x.1.weights Tryz.prog t, y ≤ reachBytes) → ∃ a : α, R w cs a
/-- a number -/
def IntR (k : IntKind) (_ : World) (cs : List Value) (n : Int) : Prop := cs = [.int k n] ∧ (Lit.int k n).wf = true
theorem opened_int {t : TypeId} {k : IntKind} (ht : Tryz.prog.underlying t = some (.int k)) : Opened t (IntR k) := by
  intro H enc w base spare held fuel cs x h _
  obtain ⟨z, hc, rfl, hw⟩ := DataW.trod_int ht h
  exact ⟨z, hc, hw⟩
/-- a string -/
def StrR (_ : World) (cs : List Value) (l : List UInt8) : Prop := cs = [.string ⟨l.toArray⟩] ∧ l.length ≤ reachBytes
theorem opened_string {t : TypeId} (ht : Tryz.prog.underlying t = some .string) : Opened t StrR := by
  intro H enc w base spare held fuel cs x h hw
  obtain ⟨⟨⟨l⟩⟩, rfl, rfl, -⟩ := DataW.trod_string ht h
  exact ⟨l, rfl, hw l.length (by simp [DataW.weights])⟩
/-- a slice: each element R -/
def SliceR {α : Type} (C : Nat) (m : Nat) (R : World → List Value → α → Prop) (w : World) (cs : List Value) (l : List α) : Prop :=
  l.length ≤ m ∧ ∃ a cap, cs = [.slice a l.length cap] ∧ l.length ≤ cap ∧ ∀ i (h : i < l.length), ∃ b off, a = some ⟨b, off, none⟩ ∧ ∃ cs', cs'.length = C ∧ (∀ j, j < C → w.cell? ⟨b, off + i * C + j, none⟩ = cs'[j]?) ∧ R w cs' l[i]
theorem mem_weightsAll {H : Type} {P : Program} {e : TypeId} {d : DataW H} {y : Nat} : ∀ {l : List (DataW H)}, d ∈ l → y ∈ d.weights P e → y ∈ DataW.weightsAll P e l
  | [], h, _ => by cases h
  | x :: l, h, hy => by
    simp only [DataW.weightsAll, List.mem_append]
    rcases List.mem_cons.1 h with rfl | h
    · exact .inl hy
    · exact .inr (mem_weightsAll h hy)
theorem spot_none {w : World} {a : Addr} {v : Value} (h : w.cell? a = some v) : a = ⟨a.block, a.off, none⟩ := by
  obtain ⟨b, o, s⟩ := a
  unfold World.cell? at h
  split at h
  · split at h
    · cases h
    · rename_i hs
      cases s with
      | none => rfl
      | some _ => simp at hs
  · cases h
theorem opened_slice {α : Type} [Inhabited α] {t e : TypeId} {C m : Nat} {R : World → List Value → α → Prop} (ht : Tryz.prog.underlying t = some (.slice e)) (hC : Tryz.prog.cellsOf e = C) (hpos : 0 < C) (hby : ∀ n, n * Tryz.prog.bytesOf e ≤ reachBytes → n ≤ m) (hR : Opened e R) :
    Opened t (SliceR C m R) := by
  intro H enc w base spare held fuel cs x h hw
  rcases open_slice ht h with ⟨rfl, rfl⟩ | ⟨a, len, cap, mm, n, D, Pl, rfl, hb, hl, hm, hmm, rfl, hx⟩
  · exact ⟨[], Nat.zero_le _, none, 0, rfl, Nat.le_refl _, fun i hi => absurd hi (by simp)⟩
  · have hle : len ≤ mm := by rw [hmm]; split <;> omega
    simp only [DataW.weights, ht] at hw
    have hW : ∀ i, i < len → ∀ y ∈ (D i).weights Tryz.prog e, y ≤ reachBytes := fun i hi y hy => by
      refine hw y (List.mem_cons_of_mem _ (List.mem_append_left _ ?_))
      exact mem_weightsAll (List.mem_map.2 ⟨i, List.mem_range.2 hi, rfl⟩) hy
    have hlen : len ≤ m := by
      refine hby len ?_
      have := hw _ List.mem_cons_self
      simp only [List.length_map, List.length_range] at this
      exact Nat.le_trans (Nat.mul_le_mul_right _ (Nat.le_add_right _ _)) this
    obtain ⟨V, hV⟩ := choose_lt (α := α) (n := len) (p := fun i v => ∃ cs', cs'.length = C ∧ (∀ j, j < C → w.cell? (a.add (i * C + j)) = cs'[j]?) ∧ R w cs' v) (fun i hi => by
      obtain ⟨cs', h1, h2⟩ := hx i (by omega)
      rw [hC] at h1
      obtain ⟨_, hlen', hat⟩ := World.cells?_some h1
      obtain ⟨v, hv⟩ := hR h2 (hW i hi)
      exact ⟨v, cs', hlen', fun j hj => by rw [← add_add]; exact hat j hj, hv⟩)
    refine ⟨(List.range len).map V, by simpa using hlen, some a, cap, by simp, by simpa using hl, fun i hi => ?_⟩
    have hi' : i < len := by simpa using hi
    obtain ⟨cs', hl', hat, hv⟩ := hV i hi'
    have h0 : ∃ v, w.cell? (a.add (0 * C + 0)) = some v := by
      obtain ⟨c0, hl0, hat0, _⟩ := hV 0 (by omega)
      rw [hat0 0 hpos]
      exact ⟨c0[0], List.getElem?_eq_getElem (by omega)⟩
    obtain ⟨v0, h0⟩ := h0
    have ha : a = ⟨a.block, a.off, none⟩ := by
      have : a.add (0 * C + 0) = a := by simp [Addr.add]
      rw [this] at h0
      exact spot_none h0
    refine ⟨a.block, a.off, by rw [← ha], cs', hl', fun j hj => ?_, by simpa using hv⟩
    have := hat j hj
    rw [ha, Addr.add_lit] at this
    rw [Nat.add_assoc]
    exact this
/-- the fields of a struct, one behind the other -/
theorem mem_weightsEach {H : Type} {P : Program} {y : Nat} : ∀ {ts : List TypeId} {ds : List (DataW H)} {i : Nat} {t : TypeId} {d : DataW H}, ts[i]? = some t → ds[i]? = some d → y ∈ d.weights P t → y ∈ DataW.weightsEach P ts ds
  | [], _, i, _, _, h, _, _ => by simp at h
  | _ :: _, [], i, _, _, _, h, _ => by simp at h
  | t' :: ts, d' :: ds, 0, t, d, h1, h2, hy => by
    simp only [List.getElem?_cons_zero, Option.some.injEq] at h1 h2
    subst h1 h2
    simp only [DataW.weightsEach, List.mem_append]
    exact .inl hy
  | t' :: ts, d' :: ds, i + 1, t, d, h1, h2, hy => by
    simp only [List.getElem?_cons_succ] at h1 h2
    simp only [DataW.weightsEach, List.mem_append]
    exact .inr (mem_weightsEach h1 h2 hy)
theorem open_field {H : Type} {enc : TypeId × Value → H} {w : World} {base : Nat} {spare : Nat → Bool} {held : Bool} {fuel : Nat} {cs : List Value} {x : DataW H × List MemPlace} {t : TypeId} {fs : Array Field} (ht : Tryz.prog.underlying t = some (.struct fs))
    (h : DataW.trod enc Tryz.prog w base spare held fuel t cs = some x) (hw : ∀ y ∈ x.1.weights Tryz.prog t, y ≤ reachBytes) {α : Type} (i : Nat) (f : Field) (hf : fs[i]? = some f) {R : World → List Value → α → Prop} (hR : Opened f.type R) :
    cs.length = Tryz.prog.cellsOf t ∧ ∃ a : α, R w ((cs.drop f.offset).take (Tryz.prog.cellsOf f.type)) a := by
  obtain ⟨xs, n, -, rfl, hl, hxl, hx⟩ := DataW.trod_struct ht h
  have hi : i < xs.length := by rw [hxl]; exact (Array.getElem?_eq_some_iff.1 hf).1
  have h1 := hx i f hf
  rw [List.getElem?_eq_getElem hi] at h1
  refine ⟨hl, hR h1 fun y hy => hw y ?_⟩
  simp only [DataW.weights, ht]
  refine mem_weightsEach (i := i) (t := f.type) (d := xs[i].1) ?_ ?_ hy
  · rw [List.getElem?_map, Array.getElem?_toList, hf]; rfl
  · rw [List.getElem?_map, List.getElem?_eq_getElem hi]; rfl
theorem IntR.i64 {w : World} {cs : List Value} {n : Int} (h : IntR .i64 w cs n) : -9223372036854775808 ≤ n ∧ n ≤ 9223372036854775807 := bounds_i64 h.2

/-- of a weight within the reach -/
def Small {H : Type} (t : TypeId) (d : DataW H) : Prop := ∀ y ∈ d.weights Tryz.prog t, y ≤ reachBytes
theorem weight_at {H : Type} {ts : List TypeId} {ds : List (DataW H)} (h : (DataW.weightsEach Tryz.prog ts ds).all (· ≤ reachBytes) = true) (i : Nat) {t : TypeId} {d : DataW H} (ht : ts[i]? = some t) (hd : ds[i]? = some d) : Small t d :=
  fun y hy => of_decide_eq_true (List.all_eq_true.1 h y (mem_weightsEach ht hd hy))
section
variable {H : Type} {enc : TypeId × Value → H} {P : Program} {w : World} {base b0 : Nat} {spare : Nat → Bool} {held : Bool} {t : TypeId} {v : Value} {d : DataW H} {p : List MemPlace}
theorem arg_slice {α : Type} {R : World → List Value → α → Prop} {e : TypeId} (ht : P.underlying t = some (.slice e)) (hv : Value.okWide P w .any b0 t v) (h : DataW.Trod enc P w base spare held t v d p) (hR : ∀ {fuel : Nat} {cs : List Value}, DataW.trod enc P w base spare held fuel t cs = some (d, p) → ∃ a, R w cs a) : ∃ a, R w [v] a := by
  obtain ⟨a, len, cap, rfl⟩ := okWide_slice ht hv
  obtain ⟨fuel, hf⟩ := h
  exact hR hf
theorem arg_struct {α : Type} {R : World → List Value → α → Prop} {fs : Array Field} (ht : P.underlying t = some (.struct fs)) (hv : Value.okWide P w .any b0 t v) (h : DataW.Trod enc P w base spare held t v d p) (hR : ∀ {fuel : Nat} {cs : List Value}, DataW.trod enc P w base spare held fuel t cs = some (d, p) → ∃ a, R w cs a) : ∃ cs a, v = .agg ⟨cs⟩ ∧ R w cs a := by
  obtain ⟨⟨cs⟩, rfl, -⟩ := okWide_struct ht hv
  obtain ⟨fuel, hf⟩ := h
  obtain ⟨a, ha⟩ := hR hf
  exact ⟨cs, a, rfl, ha⟩
theorem arg_int {k : IntKind} (ht : P.underlying t = some (.int k)) (hv : Value.okWide P w .any b0 t v) (h : DataW.Trod enc P w base spare held t v d p) : ∃ n, v = .int k n ∧ (Lit.int k n).wf = true := by
  obtain ⟨m, rfl⟩ := okWide_int ht hv
  obtain ⟨fuel, hf⟩ := h
  obtain ⟨n, h1, -, h2⟩ := DataW.trod_int ht hf
  exact ⟨n, by simpa [Value.cells] using h1, h2⟩
theorem arg_string (ht : P.underlying t = some .string) (hv : Value.okWide P w .any b0 t v) (h : DataW.Trod enc P w base spare held t v d p) (hR : ∀ {fuel : Nat} {cs : List Value}, DataW.trod enc P w base spare held fuel t cs = some (d, p) → ∃ a, StrR w cs a) : ∃ l : List UInt8, v = .string ⟨l.toArray⟩ ∧ l.length ≤ 140737488351232 := by
  obtain ⟨m, rfl⟩ := okWide_string ht hv
  obtain ⟨fuel, hf⟩ := h
  obtain ⟨n, h1, h2⟩ := hR hf
  exact ⟨n, by simpa [Value.cells] using h1, h2⟩
end
/-! ### the argument types -/
theorem opened_str : Opened 9 StrR := opened_string Tryz.underlying9
def I64 := IntR .i64
theorem opened_i64 : Opened 3 I64 := opened_int Tryz.underlying3
def IntsR := SliceR 1 17592186044416 I64
theorem bytesInt : Tryz.prog.bytesOf 3 = 8 := by kernel_rfl
theorem opened_ints : Opened 29 IntsR := opened_slice Tryz.underlying29 (by kernel_rfl) (by omega) (fun n h => by rw [bytesInt] at h; unfold reachBytes at h; omega) opened_i64
theorem IntsR.view {w : World} {v : Value} {l : List Int} (h : IntsR w [v] l) : l.length ≤ maxB ∧ (∀ x ∈ l, -9223372036854775808 ≤ x ∧ x ≤ 9223372036854775807) ∧ SliceAt w v 1 l.length (l.map fun x => .int .i64 x) := by
  obtain ⟨hm, a, cap, hv, hc, hx⟩ := h
  cases hv
  refine ⟨by unfold maxB; omega, fun x hx' => ?_, by simp, a, cap, rfl, hc, fun i hi => ?_⟩
  · obtain ⟨i, hi, rfl⟩ := List.getElem_of_mem hx'
    obtain ⟨b, off, -, cs', -, -, hr⟩ := hx i hi
    exact hr.i64
  · rw [List.length_map] at hi
    obtain ⟨b, off, rfl, cs', hl, hat, hr⟩ := hx i hi
    refine ⟨b, off, rfl, ?_⟩
    have := hat 0 (by omega)
    rw [hr.1] at this
    simpa using this
end Go.Proofs.YtkkfmkhbdoeglaaGreatDoor
