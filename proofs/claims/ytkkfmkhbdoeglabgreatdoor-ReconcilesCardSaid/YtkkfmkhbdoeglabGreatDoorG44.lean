/- A part of what is proved here: lemmas and contracts of single functions. No condition but those that each names. -/
import Derived.Deep.CutBlock
import Derived.Deep.CutRange
import Derived.Laws.IdiomCopy
import Derived.Shelf.Spec.SlicesInsert
import Derived.StillTailTactics
import Derived.Test.YtkkfmkhbdoeglabGreatDoorG12
import Derived.Test.YtkkfmkhbdoeglabGreatDoorG39
import Derived.Test.YtkkfmkhbdoeglabGreatDoorG41
namespace Go.Proofs.YtkkfmkhbdoeglabGreatDoor
open Go.RowKit Go.Shelf
theorem run_copyK {P : Program} (w : World) (dT sT ty elem : TypeId) (k n : Nat) (b o dLen dCap : Nat) (a : Addr) (sLen sCap : Nat) (cs : List Value)
    (hu : P.underlying dT = some (.slice elem)) (hs : (P.info? elem).map (·.size) = some k) (hn : n = Nat.min sLen dLen) (hl : cs.length = n * k)
    (hsrc : ∀ j v, cs[j]? = some v → w.cell? (a.add j) = some v) (hc : ∀ j, j < cs.length → (w.cell? ⟨b, o + j, none⟩).isSome = true) (hf : ∀ j, j < cs.length → w.frozen? ⟨b, o + j, none⟩ = false) (h1 : ∀ v ∈ cs, v.oneCell' = true) :
    (Builtin.copy_ #[dT, sT] ty #[.slice (some ⟨b, o, none⟩) dLen dCap, .slice (some a) sLen sCap]).run P w = .ok (goInt n) (w.setCells b o cs) := by
  have hl' := run_loadCells_list (P := P) w a cs hsrc
  have hst := run_storeCells_cells (P := P) b o cs 0 w (by simpa using hc) (by simpa using hf) h1
  rw [hl] at hl'
  cases hq : P.info? elem with
  | none => simp [hq] at hs
  | some i =>
    have hi : i.size = k := by simpa [hq] using hs
    simp [Builtin.copy_, run_underlying hu, Builtin.lenOf, Builtin.firstCells, sizeOf, typeInfo, hq, hi, ← hn, hl', hst]
/-- cells of a slice of the call's own are set -/
theorem OwnS.setCells {w : World} {base k n g go cap : Nat} {xs : List Value} (h : OwnS w base k (.slice (some ⟨g, go, none⟩) n cap) n xs) (p : Nat) (vs : List Value) (hp : p + vs.length ≤ xs.length) :
    OwnS (w.setCells g (go + p) vs) base k (.slice (some ⟨g, go, none⟩) n cap) n (xs.take p ++ vs ++ xs.drop (p + vs.length)) := by
  obtain ⟨hl, h | ⟨g', go', cap', e, hg, hlt, hn, hm, hc, hf⟩⟩ := h
  · cases h.1
  · cases e
    have hnk : n * k ≤ cap * k := Nat.mul_le_mul_right _ hn
    have hsome : ∀ j, j < vs.length → (w.cell? ⟨g, go + p + j, none⟩).isSome = true := fun j hj => by
      rw [Nat.add_assoc]
      exact (hf (p + j) (by omega)).1
    refine ⟨by simp only [List.length_append, List.length_take, List.length_drop]; omega, .inr ⟨g, go, cap, rfl, hg, by rw [size_setCells]; exact hlt, hn, hm, fun i hi => ?_, fun i hi => ⟨?_, ?_⟩⟩⟩
    · have hll : i < xs.length := by simp only [List.length_append, List.length_take, List.length_drop] at hi; omega
      have hL : (xs.take p).length = p := by rw [List.length_take]; omega
      by_cases h1 : i < p
      · rw [World.cell?_setCells_out g vs (go + p) w ⟨g, go + i, none⟩ (fun _ _ => .inl (by show go + i < go + p; omega)), hc i hll]
        congr 1
        rw [List.getElem_append_left (by simp only [List.length_append]; omega), List.getElem_append_left (by omega), List.getElem_take]
      · by_cases h2 : i < p + vs.length
        · have := World.cell?_setCells_in g vs (go + p) w hsome (i - p) (by omega)
          rw [show go + p + (i - p) = go + i by omega] at this
          rw [this]
          congr 1
          rw [List.getElem_append_left (by simp only [List.length_append]; omega), List.getElem_append_right (by omega)]
          congr 1
          omega
        · rw [World.cell?_setCells_out g vs (go + p) w ⟨g, go + i, none⟩ (fun _ _ => .inr (by show go + p + vs.length ≤ go + i; omega)), hc i hll]
          congr 1
          rw [List.getElem_append_right (by simp only [List.length_append]; omega), List.getElem_drop]
          congr 1
          simp only [List.length_append]
          omega
    · by_cases h2 : p ≤ i ∧ i < p + vs.length
      · have := World.cell?_setCells_in g vs (go + p) w hsome (i - p) (by omega)
        rw [show go + p + (i - p) = go + i by omega] at this
        rw [this]
        rfl
      · rw [World.cell?_setCells_out g vs (go + p) w ⟨g, go + i, none⟩ (fun _ _ => by show go + i < go + p ∨ go + p + vs.length ≤ go + i; omega)]
        exact (hf i hi).1
    · rw [World.frozen?_setCells]
      exact (hf i hi).2
theorem heap_setCells_at {b : Nat} {e : TypeId} : ∀ (vs : List Value) (o : Nat) (w : World), (∃ C fz, w.heap[b]? = some (.cells C e fz)) → ∃ C fz, (w.setCells b o vs).heap[b]? = some (.cells C e fz)
  | [], _, _, h => h
  | v :: vs, o, w, h => by
    rw [World.setCells]
    refine heap_setCells_at vs _ _ ?_
    obtain ⟨C, fz, hC⟩ := h
    refine ⟨C.setIfInBounds o v, fz, ?_⟩
    unfold World.setCell
    simp [hC]
    obtain ⟨h1, h2⟩ := Array.getElem?_eq_some_iff.1 hC
    simp [Array.getElem?_modify, hC]
theorem CellsOf.setCells {w : World} {g go n cap : Nat} {e : TypeId} (h : CellsOf w (.slice (some ⟨g, go, none⟩) n cap) e) (p : Nat) (vs : List Value) : CellsOf (w.setCells g p vs) (.slice (some ⟨g, go, none⟩) n cap) e := fun b hb => by
  cases hb
  exact heap_setCells_at vs p w (h g rfl)
/-- where an entry goes: behind those that are less -/
theorem putS_at {S : List E} (hS : SortedE S) (k : K) (v : List UInt8) (i : Nat) (hlo : ∀ x ∈ S.take i, ltK x.1 k = true) (hhi : ∀ x ∈ S.drop i, ltK k x.1 = true) : putS k v S = S.take i ++ (k, v) :: S.drop i := by
  unfold putS
  have e1 : S.filter (fun x => ltK x.1 k) = S.take i := by
    conv => lhs; rw [← List.take_append_drop i S]
    rw [List.filter_append, List.filter_eq_self.2 hlo, List.filter_eq_nil_iff.2 fun x hx => ?_, List.append_nil]
    rw [ltK_asymm (hhi x hx)]
    decide
  have e2 : S.filter (fun x => ltK k x.1) = S.drop i := by
    conv => lhs; rw [← List.take_append_drop i S]
    rw [List.filter_append, List.filter_eq_self.2 hhi, List.filter_eq_nil_iff.2 fun x hx => ?_, List.nil_append]
    rw [ltK_asymm (hlo x hx)]
    decide
  rw [e1, e2]
/-- an append to a slice of the call's own, of elements of k cells, on a list -/
theorem wpList_append_own {ops : Array Oper} {rest : List Oper} {o : Oper} {a : Act} {Q : Exit → Act → World → Prop} {w : World} (hgd : o.guard = none) (s x : Operand) (t e : TypeId) (k b : Nat) (z : Value)
    (ht : Tryz.prog.underlying t = some (.slice e)) (hinfo : (Tryz.prog.info? e).map (fun i => (i.zero, i.size, i.bytes)) = some (some z, k, b)) (hzs : z.cells.size = k) (hk : 0 < k)
    (ho : o.op = .call { callee := .builtin .append, args := #[s, x], argTypes := #[t, t] })
    (base : Nat) (v : Value) (n : Nat) (xs : List Value) (hv : a.eval s = v) (hown : OwnS w base k v n xs) (hT : CellsOf w v e) (m : Nat) (news : List Value) (hs : SliceAt w (a.eval x) k m news) (h1 : ∀ u ∈ news, u.oneCell' = true)
    (hlen : n + m ≤ 9223372036854775807) (hbytes : (n + m) * b ≤ 140737488355328) (hbase : base ≤ w.heap.size)
    (h : ∀ v' w', OwnS w' base k v' (n + m) (xs ++ news) → w.grownBy w' v.ownBlock → CellsOf w' v' e → (∀ b, v'.ownBlock = some b → v.ownBlock = some b ∨ b = w.heap.size) → wpList Tryz.prog ops Q rest (a.put o.dst v') w') : wpList Tryz.prog ops Q (o :: rest) a w := by
  obtain ⟨i0, hi, hz0, hz1, hz2⟩ := info_parts hinfo
  exact wpList_plain hgd fun K hK => wp_append_own_srcA s x _ _ ho base k e i0 z ht hi hz0 hz1 (by rw [hz1]; exact hzs) (by omega) v n xs hv hown hT m news (SliceAt.src ht hs h1) hlen (by rw [hz2]; exact hbytes) hbase fun v' w' h1 h2 h3 h4 => hK _ _ (h v' w' h1 h2 h3 h4)
theorem mid_own {w : World} {base g go n cap k : Nat} {L : List E} {y0 y1 y2 : Value} (h : OwnS w base 3 (.slice (some ⟨g, go, none⟩) (n + 1) cap) (n + 1) ((entCells L).take (k * 3) ++ [y0, y1, y2] ++ (entCells L).drop (k * 3))) (hn : L.length = n) (hk : k ≤ n) :
    w.cell? ⟨g, go + k * 3, none⟩ = some y0 ∧ w.cell? ⟨g, go + k * 3 + 1, none⟩ = some y1 ∧ w.cell? ⟨g, go + k * 3 + 2, none⟩ = some y2 ∧ w.frozen? ⟨g, go + k * 3, none⟩ = false ∧ w.frozen? ⟨g, go + k * 3 + 1, none⟩ = false ∧ w.frozen? ⟨g, go + k * 3 + 2, none⟩ = false := by
  have hl := entCells_length L
  have hlt : ((entCells L).take (k * 3)).length = k * 3 := by rw [List.length_take]; omega
  obtain ⟨-, h0 | ⟨g', go', cap', e, -, -, hn8, -, hc, hf⟩⟩ := h
  · cases h0.1
  cases e
  have hcap : (n + 1) * 3 ≤ cap * 3 := Nat.mul_le_mul_right _ hn8
  have key : ∀ j (hj : j < [y0, y1, y2].length), w.cell? ⟨g, go + k * 3 + j, none⟩ = some [y0, y1, y2][j] ∧ w.frozen? ⟨g, go + k * 3 + j, none⟩ = false := fun j hj => by
    have hj' : j < 3 := hj
    rw [Nat.add_assoc]
    refine ⟨?_, (hf (k * 3 + j) (by omega)).2⟩
    rw [hc (k * 3 + j) (by simp only [List.length_append, List.length_drop, List.length_cons, List.length_nil]; omega)]
    congr 1
    rw [List.getElem_append_left (by simp only [List.length_append, List.length_cons, List.length_nil]; omega), List.getElem_append_right (by omega)]
    congr 1
    omega
  exact ⟨(key 0 (by simp)).1, (key 1 (by simp)).1, (key 2 (by simp)).1, (key 0 (by simp)).2, (key 1 (by simp)).2, (key 2 (by simp)).2⟩
theorem entOne_at (w : World) : SliceAt (w.alloc (.cells #[.int .i64 0, .string ⟨#[]⟩, .string ⟨#[]⟩] 101)) (.slice (some ⟨w.heap.size, 0, none⟩) 1 1) 3 1 [.int .i64 0, .string ⟨#[]⟩, .string ⟨#[]⟩] := by
  refine ⟨rfl, _, 1, rfl, Nat.le_refl _, fun i hi => ⟨_, 0, rfl, ?_⟩⟩
  rw [cell_new]
  obtain rfl | rfl | rfl : i = 0 ∨ i = 1 ∨ i = 2 := by simp at hi; omega
  · rfl
  · rfl
  · rfl
theorem run_slice_ent (gb go n cap i : Nat) (a : Int) (ha : a = (i : Int)) (hi : i ≤ n) (hc : ¬ cap = i) (w : World) :
    (Instr.slice 23 (.slice (some ⟨gb, go, none⟩) n cap) (some (.int .i64 a)) none none).run Tryz.prog w = .ok (.slice (some ⟨gb, go + i * 3, none⟩) (n - i) (cap - i)) w := by
  subst ha
  have hu : Tryz.prog.underlying 23 = some (.slice (Tryz.prog.elem 23)) := by kernel_rfl
  have hs : (sizeOf (Tryz.prog.elem 23)).run Tryz.prog w = .ok 3 w := by kernel_rfl
  rw [run_slice_l (P := Tryz.prog) (w := w) 23 (some ⟨gb, go, none⟩) n cap hu .i64 (i : Int) (by omega) (by omega), hs]
  simp [Result.andThen, sliced, Addr.add, hc]
theorem run_slice_ent_end (gb go n cap i : Nat) (a : Int) (ha : a = (i : Int)) (hi : i ≤ n) (hc : cap = i) (w : World) :
    (Instr.slice 23 (.slice (some ⟨gb, go, none⟩) n cap) (some (.int .i64 a)) none none).run Tryz.prog w = .ok (.slice (some ⟨gb, go, none⟩) (n - i) (cap - i)) w := by
  subst ha
  have hu : Tryz.prog.underlying 23 = some (.slice (Tryz.prog.elem 23)) := by kernel_rfl
  have hs : (sizeOf (Tryz.prog.elem 23)).run Tryz.prog w = .ok 3 w := by kernel_rfl
  rw [run_slice_l (P := Tryz.prog) (w := w) 23 (some ⟨gb, go, none⟩) n cap hu .i64 (i : Int) (by omega) (by omega), hs]
  simp [Result.andThen, sliced, hc]
/-- room is made in a slice of entries of the call's own: all from place k on goes one place up -/
theorem shift_own {w : World} {base g go n cap k o1 : Nat} {xs : List Value} {z : List Value} (h : OwnS w base 3 (.slice (some ⟨g, go, none⟩) (n + 1) cap) (n + 1) (xs ++ z)) (hx : xs.length = n * 3) (hz : z.length = 3) (hk : k ≤ n) (ho : cap = k + 1 ∨ o1 = go + (k + 1) * 3) (h1 : ∀ u ∈ xs, u.oneCell' = true) (ty : TypeId) :
    ∃ w' ys, (Builtin.copy_ #[23, 23] ty #[.slice (some ⟨g, o1, none⟩) (n - k) (cap - (k + 1)), .slice (some ⟨g, go + k * 3, none⟩) (n + 1 - k) (cap - k)]).run Tryz.prog w = .ok (goInt (n - k : Nat)) w' ∧
      OwnS w' base 3 (.slice (some ⟨g, go, none⟩) (n + 1) cap) (n + 1) (xs.take (k * 3) ++ ys ++ xs.drop (k * 3)) ∧ ys.length = 3 ∧ w.grownBy w' (some g) ∧ w'.heap.size = w.heap.size ∧ ∀ e, CellsOf w (.slice (some ⟨g, go, none⟩) (n + 1) cap) e → CellsOf w' (.slice (some ⟨g, go, none⟩) (n + 1) cap) e := by
  have hh := h
  obtain ⟨hl, h0 | ⟨g', go', cap', e, hg, hlt, hn, hm, hc, hf⟩⟩ := hh
  · cases h0.1
  cases e
  have hsh := OwnS.setCells h ((k + 1) * 3) (xs.drop (k * 3)) (by rw [List.length_append, List.length_drop]; omega)
  have hdl : (xs.drop (k * 3)).length = (n - k) * 3 := by rw [List.length_drop]; omega
  have hrun := run_copyK (P := Tryz.prog) w 23 23 ty 101 3 (n - k) g o1 (n - k) (cap - (k + 1)) ⟨g, go + k * 3, none⟩ (n + 1 - k) (cap - k) (xs.drop (k * 3)) Tryz.underlying23 (by kernel_rfl) (by
      show n - k = min (n + 1 - k) (n - k)
      omega) hdl (fun j v hj => by
      rw [Addr.add_lit]
      obtain ⟨hj1, hj2⟩ := List.getElem?_eq_some_iff.1 hj
      have := hc (k * 3 + j) (by rw [List.length_append]; omega)
      rw [List.getElem_append_left (by omega)] at this
      show w.cell? ⟨g, go + k * 3 + j, none⟩ = some v
      rw [Nat.add_assoc, this, ← hj2, List.getElem_drop]) (fun j hj => by
      rcases ho with ho | ho
      · omega
      · have := (hf ((k + 1) * 3 + j) (by have : (k + 1) * 3 + j < (n + 1) * 3 := by omega
                                          have : (n + 1) * 3 ≤ cap * 3 := Nat.mul_le_mul_right _ hn
                                          omega)).1
        rw [ho, Nat.add_assoc]
        exact this) (fun j hj => by
      rcases ho with ho | ho
      · omega
      · have := (hf ((k + 1) * 3 + j) (by have : (k + 1) * 3 + j < (n + 1) * 3 := by omega
                                          have : (n + 1) * 3 ≤ cap * 3 := Nat.mul_le_mul_right _ hn
                                          omega)).2
        rw [ho, Nat.add_assoc]
        exact this) (fun v hv => h1 v (List.drop_subset _ _ hv))
  have hw : w.setCells g o1 (xs.drop (k * 3)) = w.setCells g (go + (k + 1) * 3) (xs.drop (k * 3)) := by
    rcases ho with ho | ho
    · have : xs.drop (k * 3) = [] := List.eq_nil_of_length_eq_zero (by omega)
      rw [this]
      rfl
    · rw [ho]
  rw [hw] at hrun
  refine ⟨_, ((xs ++ z).drop (k * 3)).take 3, hrun, ?_, by rw [List.length_take, List.length_drop, List.length_append]; omega, grownBy_setCells _ _ _ _, size_setCells _ _ _ _, fun e he => he.setCells _ _⟩
  have e1 : (xs ++ z).drop ((k + 1) * 3 + (xs.drop (k * 3)).length) = [] := List.drop_eq_nil_of_le (by rw [List.length_append]; omega)
  rw [e1, List.append_nil] at hsh
  have e2 : (xs ++ z).take ((k + 1) * 3) = xs.take (k * 3) ++ ((xs ++ z).drop (k * 3)).take 3 := by
    rw [show (k + 1) * 3 = k * 3 + 3 by omega, List.take_add]
    rw [List.take_append_of_le_length (i := k * 3) (by omega)]
  rw [e2] at hsh
  exact hsh
theorem entCells_take (L : List E) (k : Nat) (hk : k ≤ L.length) : entCells (L.take k) = (entCells L).take (k * 3) ∧ entCells (L.drop k) = (entCells L).drop (k * 3) := by
  have e : entCells L = entCells (L.take k) ++ entCells (L.drop k) := by rw [← entCells_append, List.take_append_drop]
  have hl : (entCells (L.take k)).length = k * 3 := by rw [entCells_length, List.length_take, Nat.min_eq_left hk]
  rw [e]
  exact ⟨(List.take_left' hl).symm, (List.drop_left' hl).symm⟩
theorem put_own {w : World} {base g go n cap k : Nat} {L : List E} {x : E} {ys : List Value} (h : OwnS w base 3 (.slice (some ⟨g, go, none⟩) (n + 1) cap) (n + 1) ((entCells L).take (k * 3) ++ ys ++ (entCells L).drop (k * 3))) (hn : L.length = n) (hk : k ≤ n) (hy : ys.length = 3) :
    OwnS (w.setCells g (go + k * 3) [.int .i64 x.1.1, .string ⟨x.1.2.toArray⟩, .string ⟨x.2.toArray⟩]) base 3 (.slice (some ⟨g, go, none⟩) (n + 1) cap) (L.take k ++ x :: L.drop k).length (entCells (L.take k ++ x :: L.drop k)) := by
  have hl := entCells_length L
  have hlt : ((entCells L).take (k * 3)).length = k * 3 := by rw [List.length_take]; omega
  have h2 := h.setCells (k * 3) [.int .i64 x.1.1, .string ⟨x.1.2.toArray⟩, .string ⟨x.2.toArray⟩] (by simp only [List.length_append, List.length_drop, List.length_cons, List.length_nil]; omega)
  have e0 : (L.take k ++ x :: L.drop k).length = n + 1 := by simp; omega
  have e1 : entCells (L.take k ++ x :: L.drop k) = (entCells L).take (k * 3) ++ [.int .i64 x.1.1, .string ⟨x.1.2.toArray⟩, .string ⟨x.2.toArray⟩] ++ (entCells L).drop (k * 3) := by
    rw [entCells_append, (entCells_take L k (by omega)).1, ← (entCells_take L k (by omega)).2, List.append_assoc]
    rfl
  have e2 : ((entCells L).take (k * 3) ++ ys ++ (entCells L).drop (k * 3)).take (k * 3) = (entCells L).take (k * 3) := by
    rw [List.append_assoc]
    exact List.take_left' hlt
  have e3 : ((entCells L).take (k * 3) ++ ys ++ (entCells L).drop (k * 3)).drop (k * 3 + 3) = (entCells L).drop (k * 3) := List.drop_left' (by rw [List.length_append]; omega)
  rw [e0, e1]
  rw [e2] at h2
  have e3' : ((entCells L).take (k * 3) ++ ys ++ (entCells L).drop (k * 3)).drop (k * 3 + [Value.int .i64 x.1.1, .string ⟨x.1.2.toArray⟩, .string ⟨x.2.toArray⟩].length) = (entCells L).drop (k * 3) := e3
  rw [e3'] at h2
  exact h2
theorem drewN_two (w : World) (a b : Nat) : (w.drewN a).drewN b = w.drewN (a + b) := by
  unfold World.drewN
  simp [Nat.add_assoc]
theorem laidE_length (l : List E) : (laidE l).length ≤ l.length := by
  have key : ∀ (l : List E) (S : List E), SortedE S → (l.foldl (fun S x => putS x.1 x.2 S) S).length ≤ S.length + l.length := by
    intro l
    induction l with
    | nil => exact fun S h => Nat.le_refl _
    | cons x l ih =>
        intro S h
        have h1 := ih _ (sorted_put x.1 x.2 h)
        have h2 := putS_length x.1 x.2 S h
        simp only [List.foldl_cons, List.length_cons]
        omega
  have := key l [] SortedE.nil
  simp only [List.length_nil, Nat.zero_add] at this
  exact this
theorem infoEnt : (Tryz.prog.info? 101).map (fun i => (i.zero, i.size, i.bytes)) = some (some (.agg #[.int .i64 0, .string ⟨#[]⟩, .string ⟨#[]⟩]), 3, 40) := by kernel_rfl
set_option maxRecDepth 100000 in
set_option maxHeartbeats 4000000 in
theorem hdump_any (h : Nat) (x : HV) (S : List E) (w : World) (hh : HostIs w h x) (ht : TabAt w x.r S) (hS : S.length ≤ 1000000) :
    Calls Tryz.prog 64 #[.pointer (some ⟨h, 0, none⟩)] w fun e w' => ∃ v, e = .returned v ∧ EntsAt w' v S ∧ Below w.heap.size w w' := by
  obtain ⟨r, hr⟩ : ∃ r, r = x.r := ⟨_, rfl⟩
  have hlt := block_lt hh
  unfold HostIs HV.cells at hh
  have c8 := cell_of_row _ _ 10 _ _ _ hh
  simp only [List.getElem?_toArray, List.getElem?_cons_succ, List.getElem?_cons_zero] at c8
  rw [← hr] at c8 ht
  have hlr := ht.lt
  have HSO := Lib.hid ht.1
  obtain ⟨hso, L, hmap, hp⟩ := ht
  have HP := Lib.hid hp
  have HN := Lib.hid hso.nodup
  clear hso hp hh hr
  go_enter Tryz.func64, Tryz.ntmps64
  go_wp2_with (first | (refine wpList_range_at rfl _ rfl Tryz.underlying123 rfl hmap ?_; intro w1 hrg0 hb1 hs1) | fail)
  try go_frame
  go_loopw [3] (fun v wr => ∃ l : List E, RangeAt wr r w.heap.size L (l.map zS) ∧ OwnS wr (w.heap.size + 1) 3 v (laidE l).length (entCells (laidE l)) ∧ CellsOf wr v 101 ∧ Below w.heap.size w wr) (fun _ wr => wr.rangeLeft r w.heap.size)
  case atStart => exact ⟨[], hrg0, OwnS.nil _ _ _, CellsOf.nil _ _, hb1⟩
  case round =>
    obtain ⟨l, hrg, hown, hty, hbr⟩ := hrel
    go_wp2_with (first | (refine wpList_next_at rfl _ rfl rfl hrg ?_ ?_) | fail)
    · intro hpm
      have HPE := Lib.hid (perm_zS (nodup_zS hrg.sub.2.2) HN.out (hpm.trans HP.out))
      obtain ⟨va, vc, rfl⟩ := hown.shape
      go_wp2
      refine bodyPost_ret (v := .slice va (laidE l).length vc) (by simp [results]) rfl ⟨_, rfl, ?_, hbr⟩
      rw [laid_perm HSO.out HPE.out] at hown ⊢
      exact hown.ents
    · intro kt kb v w2 hx hxn hrg2 hg2 hs2 hen hrq
      obtain ⟨⟨k', vb⟩, hxS, e⟩ := List.mem_map.1 (HP.out.mem_iff.1 hx)
      cases e
      have hrg3 : RangeAt w2 r w.heap.size L ((l ++ [((kt, kb), vb)]).map zS) := by rw [List.map_append]; exact hrg2
      have HR3 := Lib.hid hrg3
      unfold strV at hen
      obtain ⟨va, vc, rfl⟩ := hown.shape
      have hb2 : Below w.heap.size w w2 := hbr.grown hg2 hbr.size (fun j e => by cases e; exact Nat.le_refl _)
      have hown2 : OwnS w2 (w.heap.size + 1) 3 (.slice va (laidE l).length vc) (laidE l).length (entCells (laidE l)) := hown.grown hg2 fun b hb e => by
        cases e
        have := hown.ownBlock_ge _ hb
        omega
      have hty2 := hty.kept hg2 fun b hb e => by
        cases e
        have := hown.ownBlock_ge _ hb
        omega
      have hlen : (laidE l).length ≤ 1000000 := by
        have h1 := laidE_length l
        have h2 : l.length ≤ S.length := length_sub (nodup_zS hrg.sub.2.2) (fun y hy => mem_zS (HP.out.mem_iff.1 (hrg.sub.1 _ (List.mem_map.2 ⟨y, hy, rfl⟩))))
        omega
      have hle := hrg.left
      have HXN := Lib.hid hxn
      have hkn := hrg.sub.2.2
      rw [keys_zS] at hkn
      have HKN := Lib.hid hkn
      have hal : Below w2.heap.size w2 (((w2.alloc (.cells #[.int .i64 kt, .string ⟨kb.toArray⟩] 103)).alloc (.cells #[.string ⟨vb.toArray⟩] 179)).alloc (.cells #[.int .i64 kt, .string ⟨kb.toArray⟩, .string ⟨vb.toArray⟩] 101)) := (((Below.refl _ w2).alloc (Nat.le_refl _) _).alloc (by simp) _).alloc (by simp; omega) _
      have hrow5 := heap_new ((w2.alloc (.cells #[.int .i64 kt, .string ⟨kb.toArray⟩] 103)).alloc (.cells #[.string ⟨vb.toArray⟩] 179)) (.cells #[.int .i64 kt, .string ⟨kb.toArray⟩, .string ⟨vb.toArray⟩] 101)
      rw [World.size_alloc, World.size_alloc] at hrow5
      have HR5 := Lib.hid hrow5
      have HO5 := Lib.hid (hown2.below hal)
      have HVA := Lib.hid hown2.ownBlock_lt
      have HT5 := Lib.hid (hty2.frame fun b _ hlt => hal.block b hlt)
      have HB5 := Lib.hid (hb2.trans (hal.mono hb2.size))
      have HS5 := Lib.hid hal
      have HLE := Lib.hid hle
      have HS2 := Lib.hid hs2
      clear hrg2 hrg3 hx hxS hrg hown hown2 hty hty2 hb2 hbr hal hrow5 hs2 hle hxn hkn
      go_upto_block 2 with fail
      generalize ((w2.alloc (.cells #[.int .i64 kt, .string ⟨kb.toArray⟩] 103)).alloc (.cells #[.string ⟨vb.toArray⟩] 179)).alloc (.cells #[.int .i64 kt, .string ⟨kb.toArray⟩, .string ⟨vb.toArray⟩] 101) = w5 at *
      have e0 : w5.cell? ⟨w2.heap.size + 1 + 1, 0, none⟩ = some (.int .i64 kt) := cell_of_row _ _ 0 _ _ _ HR5.out
      have e1 : w5.cell? ⟨w2.heap.size + 1 + 1, 1, none⟩ = some (.string ⟨kb.toArray⟩) := cell_of_row _ _ 1 _ _ _ HR5.out
      have e2 : w5.cell? ⟨w2.heap.size + 1 + 1, 2, none⟩ = some (.string ⟨vb.toArray⟩) := cell_of_row _ _ 2 _ _ _ HR5.out
      go_cut [7] from 13 to 79 (fun i wx => ∃ k : Nat, k ≤ (laidE l).length ∧ i = .int .i64 (k : Int) ∧ (∀ x ∈ (laidE l).drop k, ltK (kt, kb) x.1 = true) ∧ (∀ x ∈ (laidE l).take k, ltK x.1 (kt, kb) = true) ∧ ∃ q, wx = w5.drewN q)
      case first =>
        go_wp2_with fail
        go_loopw [7] (fun i wq => ∃ k : Nat, k ≤ (laidE l).length ∧ i = .int .i64 (k : Int) ∧ (∀ x ∈ (laidE l).drop k, ltK (kt, kb) x.1 = true) ∧ ∃ q, wq = w5.drewN q) (fun i _ => (intOf i).toNat)
        case atStart => exact ⟨_, Nat.le_refl _, rfl, by simp, 0, rfl⟩
        case round =>
          obtain ⟨k, hk, rfl, hgt, q, rfl⟩ := hrel
          by_cases hk0 : 0 < k
          · obtain ⟨m, rfl⟩ : ∃ m, k = m + 1 := ⟨k - 1, by omega⟩
            have d0 : decide ((0 : Int) < ((m + 1 : Nat) : Int)) = true := by simp
            have d1 : (((m + 1 : Nat) : Int)) - 1 = (m : Int) := by omega
            have d6 : IntKind.i64.wrap (m : Int) = (m : Int) := IntWalk.i64_in _ (by omega)
            have d7 : (m : Int) < (laidE l).length := by omega
            have ho := HO5.out.ents
            obtain ⟨ra, rc, re, -, hxs⟩ := ho.opened
            cases re
            obtain ⟨g, off, rfl, c0, c1, c2⟩ := hxs m (by omega)
            generalize hx0 : (laidE l)[m] = x0 at c0 c1 c2
            obtain ⟨⟨xt, xk⟩, xv⟩ := x0
            clear hxs ho
            have hdm : (laidE l).drop m = ((xt, xk), xv) :: (laidE l).drop (m + 1) := by
              rw [List.drop_eq_getElem_cons (by omega), hx0]
            have htm : (laidE l).take (m + 1) = (laidE l).take m ++ [((xt, xk), xv)] := by
              rw [List.take_succ_eq_append_getElem (by omega), hx0]
            have hsor : SortedE ((laidE l).take (m + 1)) := (laidE_sorted l).take _
            have hall : ltK (xt, xk) (kt, kb) = true → ∀ x ∈ (laidE l).take (m + 1), ltK x.1 (kt, kb) = true := fun h0 x hx => by
              rw [htm] at hx hsor
              rcases List.mem_append.1 hx with hx | hx
              · exact ltK_trans ((List.pairwise_append.1 hsor).2.2 x hx _ (List.mem_singleton.2 rfl)) h0
              · rw [List.mem_singleton.1 hx]
                exact h0
            have HALL := Lib.hid hall
            have HDM := Lib.hid hdm
            have hne : Hid ((xt, xk) ≠ (kt, kb)) := Lib.hid fun e => by
              have h1 : ((xt, xk), xv) ∈ laidE l := by rw [← hx0]; exact List.getElem_mem _
              rw [laidE_mem HKN.out] at h1
              exact HXN.out _ _ _ h1 e
            clear hall htm hsor hdm hx0
            by_cases ht : kt < xt
            · have d2 : decide (kt < xt) = true := decide_eq_true ht
              go_wp2
              go_quiet (fail)
              go_wp2
              refine ⟨⟨m, by omega, rfl, ?_, _, rfl⟩, by simp [intOf]⟩
              rw [HDM.out]
              exact List.forall_mem_cons.2 ⟨by rw [ltK_iff]; exact .inl ht, hgt⟩
            · have d2 : decide (kt < xt) = false := decide_eq_false ht
              by_cases ht2 : kt = xt
              · obtain rfl := ht2
                by_cases hs : kb < xk
                · have d4 : Op.bytesLess xk kb = false := by rw [bytesLess_eq]; exact decide_eq_false (List.not_lt.2 (List.le_of_lt hs))
                  have d5 : (xk == kb) = false := beq_eq_false_iff_ne.2 fun e => List.lt_irrefl kb (by rw [e] at hs; exact hs)
                  have HSS := Lib.hid hs
                  clear hs
                  go_wp2
                  go_quiet (fail)
                  go_wp2
                  refine ⟨⟨m, by omega, rfl, ?_, _, rfl⟩, by simp [intOf]⟩
                  rw [HDM.out]
                  exact List.forall_mem_cons.2 ⟨by rw [ltK_iff]; exact .inr ⟨rfl, HSS.out⟩, hgt⟩
                · have hless : Hid (ltK (kt, xk) (kt, kb) = true) := Lib.hid (by
                    rcases ltK_tri (kt, xk) (kt, kb) with h | h | h
                    · exact h
                    · exact absurd h hne.out
                    · rw [ltK_iff] at h
                      rcases h with h | h
                      · exact absurd h (by show ¬ kt < kt; omega)
                      · exact absurd h.2 hs)
                  have d4 : Op.bytesLess xk kb = true := by
                    rw [bytesLess_eq]
                    refine decide_eq_true ?_
                    have h := hless.out
                    rw [ltK_iff] at h
                    rcases h with h | h
                    · exact absurd h (by show ¬ kt < kt; omega)
                    · exact h.2
                  clear hs
                  go_wp2
                  go_quiet (fail)
                  go_wp2
                  go_meet
                  exact ⟨_, hk, rfl, hgt, HALL.out hless.out, _, by first | rfl | exact drewN_two _ _ _⟩
              · have ht3 : ¬ xt = kt := Ne.symm ht2
                have d3 : decide (xt = kt) = false := decide_eq_false ht3
                have hless : Hid (ltK (xt, xk) (kt, kb) = true) := Lib.hid (by rw [ltK_iff]; exact .inl (by show xt < kt; omega))
                clear ht2
                go_wp2
                go_quiet (fail)
                go_wp2
                go_meet
                exact ⟨_, hk, rfl, hgt, HALL.out hless.out, _, by first | rfl | exact drewN_two _ _ _⟩
          · obtain rfl : k = 0 := by omega
            go_wp2
            go_quiet (fail)
            go_wp2
            go_meet
            exact ⟨0, hk, rfl, hgt, by simp, _, by first | rfl | exact drewN_two _ _ _⟩
      case rest =>
        obtain ⟨k, hk, rfl, hgt, hlo, q, rfl⟩ := hcut
        have hput : Hid (laidE (l ++ [((kt, kb), vb)]) = (laidE l).take k ++ ((kt, kb), vb) :: (laidE l).drop k) := Lib.hid (by
          rw [laidE_snoc]
          exact putS_at (laidE_sorted l) _ _ k hlo hgt)
        have HPUT := hput
        have HQ5 := Lib.hid ((Below.refl w5.heap.size w5).drewN q)
        have hk2 : (k : Int) ≤ (laidE l).length := by omega
        have HOQ := Lib.hid (HO5.out.below HQ5.out)
        have HTQ := Lib.hid (HT5.out.frame (w' := w5.drewN q) fun b _ hlt => HQ5.out.block b hlt)
        have HBQ := Lib.hid (HB5.out.trans (HQ5.out.mono HB5.out.size))
        have HRQ : Hid ((w5.drewN q).heap[w2.heap.size + 1 + 1]? = some (.cells #[.int .i64 kt, .string ⟨kb.toArray⟩, .string ⟨vb.toArray⟩] 101 (0, 0))) := Lib.hid HR5.out
        clear hgt hlo hput e0 e1 e2
        generalize w5.drewN q = w6 at *
        have HAL := fun o => Lib.hid (Below.al (Below.rf w6) o)
        have HONE := Lib.hid (entOne_at w6)
        have hlen2 := Lib.hid hlen
        go_wp2_with (first | (refine wpList_append_own rfl (.tmp 64) (.tmp 66) 23 101 3 40 _ Tryz.underlying23 infoEnt rfl (by omega) rfl (w.heap.size + 1) (.slice va (laidE l).length vc) (laidE l).length (entCells (laidE l)) rfl (by exact HOQ.out.below (HAL _).out) (by exact HTQ.out.frame fun b _ hb => (HAL _).out.block b hb) 1 [.int .i64 0, .string ⟨#[]⟩, .string ⟨#[]⟩] (by exact HONE.out) (by intro u hu; simp at hu; rcases hu with rfl | rfl <;> rfl) (by omega) (by omega) (by have := HBQ.out.size; rw [World.size_alloc]; omega) ?_; intro v7 w7 hown7 hg7 hty7 hb7) | fail)
        obtain ⟨g7, o7, c7, rfl, hn7⟩ : ∃ g7 o7 c7, v7 = .slice (some ⟨g7, o7, none⟩) ((laidE l).length + 1) c7 ∧ (laidE l).length + 1 ≤ c7 := by
          obtain ⟨-, h0 | ⟨g', go', cap', e, hg, hlt, hn, -⟩⟩ := hown7
          · omega
          · exact ⟨g', go', cap', e, hn⟩
        have hsl2 := run_slice_ent g7 o7 ((laidE l).length + 1) c7 k (k : Int) rfl (by omega) (by omega)
        obtain ⟨o1, ho1, hsl1⟩ : ∃ o1, (c7 = k + 1 ∨ o1 = o7 + (k + 1) * 3) ∧ ∀ w : World, (Instr.slice 23 (.slice (some ⟨g7, o7, none⟩) ((laidE l).length + 1) c7) (some (.int .i64 ((k : Int) + 1))) none none).run Tryz.prog w = .ok (.slice (some ⟨g7, o1, none⟩) ((laidE l).length - k) (c7 - (k + 1))) w := by
          by_cases hc : c7 = k + 1
          · exact ⟨o7, .inl hc, fun w => by rw [run_slice_ent_end g7 o7 _ c7 (k + 1) _ (by omega) (by omega) hc, Nat.add_sub_add_right]⟩
          · exact ⟨o7 + (k + 1) * 3, .inr rfl, fun w => by rw [run_slice_ent g7 o7 _ c7 (k + 1) _ (by omega) (by omega) hc, Nat.add_sub_add_right]⟩
        have hkl : k ≤ (laidE l).length := by omega
        obtain ⟨w8, ys, hcp, hown8, hys, hg8, hs8, hty8⟩ := shift_own (w := w7.drew) (n := (laidE l).length) (xs := entCells (laidE l)) (z := [.int .i64 0, .string ⟨#[]⟩, .string ⟨#[]⟩]) hown7 (entCells_length _) rfl hkl ho1 (entCells_one _) 3
        have hw1 : IntKind.i64.wrap ((k : Int) + 1) = (k : Int) + 1 := IntWalk.i64_in _ (by omega)
        have HO7 := Lib.hid hown7
        have HG7 := Lib.hid hg7
        have HT7 := Lib.hid hty7
        have HB7 := Lib.hid hb7
        have HO8 := Lib.hid hown8
        have HG8 := Lib.hid hg8
        have HS8 := Lib.hid hs8
        have HT8 := Lib.hid (hty8 _ hty7)
        have HO1 := Lib.hid ho1
        have HYS := Lib.hid hys
        have HCP := Lib.hid hcp
        clear hown7 hg7 hty7 hb7 hown8 hg8 hs8 hty8 ho1 hys hcp
        go_still_tail 7, (by kernel_rfl)
        change wpList _ _ _ _ _ w7.drew
        refine wpList_copy_runI w7.drew rfl (.tmp 71) (.tmp 74) 23 23 rfl _ _ rfl rfl HCP.out ?_
        obtain ⟨y0, y1, y2, rfl⟩ : ∃ a b c, ys = [a, b, c] := by
          have := HYS.out
          match ys, this with
          | [a, b, c], _ => exact ⟨a, b, c, rfl⟩
        have hge7 : w.heap.size + 1 ≤ g7 := HO7.out.ownBlock_ge g7 rfl
        have hgeA : ∀ j, (Value.slice va (laidE l).length vc).ownBlock = some j → w.heap.size + 1 ≤ j := fun j e => HOQ.out.ownBlock_ge j e
        have hk7 : ∀ j, j ≤ w.heap.size → j < w2.heap.size → w8.heap[j]? = w2.heap[j]? := fun j hj hj2 => by
          have s5 := HS5.out.size
          have s6 := HQ5.out.size
          have t1 : w8.heap[j]? = w7.heap[j]? := HG8.out.block j (by have := HG7.out.size; rw [World.size_alloc] at this; show j < w7.heap.size; omega) fun e => by cases e; omega
          have t2 := HG7.out.block j (by rw [World.size_alloc]; omega) fun e => by have := hgeA j e.symm; omega
          rw [t1, t2, heap_alloc_old _ _ (by omega), HQ5.out.block j (by omega), HS5.out.block j hj2]
        have hrow8 : Hid (w8.heap[w2.heap.size + 1 + 1]? = some (.cells #[.int .i64 kt, .string ⟨kb.toArray⟩, .string ⟨vb.toArray⟩] 101 (0, 0))) := Lib.hid (by
          have s6 := block_lt HRQ.out
          have t1 := HG8.out.block (w2.heap.size + 1 + 1) (by have := HG7.out.size; rw [World.size_alloc] at this; show _ < w7.heap.size; omega) fun e => by
            cases e
            rcases HB7.out (w2.heap.size + 1 + 1) rfl with h | h
            · have h' : w2.heap.size + 1 + 1 < w2.heap.size := HVA.out _ h
              omega
            · rw [World.size_alloc] at h
              omega
          have t2 := HG7.out.block (w2.heap.size + 1 + 1) (by rw [World.size_alloc]; omega) fun e => by have := HVA.out _ e.symm; omega
          rw [t1]
          show w7.heap[_]? = _
          rw [t2]
          exact heap_old _ _ HRQ.out)
        have hB8 : Below w.heap.size w w8 := by
          have h1 := (HBQ.out.alloc (o := (.cells #[.int .i64 0, .string ⟨#[]⟩, .string ⟨#[]⟩] 101)) HBQ.out.size)
          have h2 := h1.grown HG7.out h1.size fun j e => by have := hgeA j e; omega
          exact (Below.drew h2).grown HG8.out h2.size fun j e => by cases e; omega
        have HFIN : Hid (∀ W, W = w8.setCells g7 (o7 + k * 3) [.int .i64 kt, .string ⟨kb.toArray⟩, .string ⟨vb.toArray⟩] → (∃ l' : List E, RangeAt W r w.heap.size L (l'.map zS) ∧ OwnS W (w.heap.size + 1) 3 (.slice (some ⟨g7, o7, none⟩) ((laidE l).length + 1) c7) (laidE l').length (entCells (laidE l')) ∧ CellsOf W (.slice (some ⟨g7, o7, none⟩) ((laidE l).length + 1) c7) 101 ∧ Below w.heap.size w W) ∧ W.rangeLeft r w.heap.size < wr.rangeLeft r w.heap.size) := Lib.hid (by
          rintro W rfl
          have hgs := grownBy_setCells w8 g7 (o7 + k * 3) [.int .i64 kt, .string ⟨kb.toArray⟩, .string ⟨vb.toArray⟩]
          have hkp : ∀ j, j ≤ w.heap.size → j < w2.heap.size → (w8.setCells g7 (o7 + k * 3) [.int .i64 kt, .string ⟨kb.toArray⟩, .string ⟨vb.toArray⟩]).heap[j]? = w2.heap[j]? := fun j hj hj2 => by
            have s5 := HS5.out.size
            have s6 := HQ5.out.size
            have s7 := HG7.out.size
            rw [World.size_alloc] at s7
            have s8 := HG8.out.size
            rw [hgs.block j (by have : w7.drew.heap.size = w7.heap.size := rfl; omega) fun e => by cases e; omega]
            exact hk7 j hj hj2
          have hR := HR3.out.frame (hkp _ (by omega) HR3.out.lt.1) (hkp _ (Nat.le_refl _) HR3.out.lt.2)
          refine ⟨⟨l ++ [((kt, kb), vb)], hR, ?_, HT8.out.setCells _ _, hB8.grown hgs hB8.size fun j e => by cases e; omega⟩, ?_⟩
          · rw [HPUT.out]
            exact put_own (x := ((kt, kb), vb)) HO8.out rfl hkl rfl
          · have hl4 := hR.left
            have hl0 := HLE.out
            simp only [List.length_map, List.length_append, List.length_cons, List.length_nil] at hl4 hl0
            omega)
        have e0 : w8.cell? ⟨w2.heap.size + 1 + 1, 0, none⟩ = some (.int .i64 kt) := cell_of_row _ _ 0 _ _ _ hrow8.out
        have e1 : w8.cell? ⟨w2.heap.size + 1 + 1, 1, none⟩ = some (.string ⟨kb.toArray⟩) := cell_of_row _ _ 1 _ _ _ hrow8.out
        have e2 : w8.cell? ⟨w2.heap.size + 1 + 1, 2, none⟩ = some (.string ⟨vb.toArray⟩) := cell_of_row _ _ 2 _ _ _ hrow8.out
        obtain ⟨f0, f1, f2, z0, z1, z2⟩ := mid_own HO8.out rfl hkl
        have hw2 : IntKind.i64.wrap (k : Int) = (k : Int) := IntWalk.i64_in _ (by omega)
        have hb2 : (k : Int) < (laidE l).length + 1 := by omega
        clear hk7 hB8 hrow8 hge7 hgeA hsl1 hsl2
        go_wp2
        first
          | exact HFIN.out _ rfl
          | (go_roundw
             case rel => exact (HFIN.out _ rfl).1
             case measure => exact (HFIN.out _ rfl).2)
end Go.Proofs.YtkkfmkhbdoeglabGreatDoor
