/- A part of what is proved here: lemmas and contracts of single functions. No condition but those that each names. -/
import Derived.Maps.OwnIn
import Derived.Test.YtkkfmkhbdoeglabGreatDoorG02
import Derived.Test.YtkkfmkhbdoeglabGreatDoorG06
import Derived.Test.YtkkfmkhbdoeglabGreatDoorG08
import Derived.Test.YtkkfmkhbdoeglabGreatDoorG11
namespace Go.Proofs.YtkkfmkhbdoeglabGreatDoor
open Go.RowKit Go.ChangeMaps
/-- an entry with its stamp -/
abbrev Z := K × Value × Nat
def zEnt (z : Z) : MapEntry := ⟨kV z.1, z.2.1, z.2.2⟩
def zKV (z : Z) : K × Value := (z.1, z.2.1)
theorem zip_ents : ∀ (es : List MapEntry) (l : List (K × Value)), es.map (fun e => (e.key, e.val)) = l.map (fun x => (kV x.1, x.2)) → ∃ zs : List Z, es = zs.map zEnt ∧ l = zs.map zKV
  | [], [], _ => ⟨[], rfl, rfl⟩
  | [], _ :: _, h => by simp at h
  | _ :: _, [], h => by simp at h
  | e :: es, x :: l, h => by
    simp only [List.map_cons, List.cons.injEq, Prod.mk.injEq] at h
    obtain ⟨zs, rfl, rfl⟩ := zip_ents es l h.2
    refine ⟨(x.1, x.2, e.born) :: zs, ?_, rfl⟩
    rw [List.map_cons]
    congr 1
    unfold zEnt
    rw [← h.1.1, ← h.1.2]
/-- block q is a walk over the map in block r: its entries are l, of which pre have come; nothing was laid into it since -/
def RangeAt (w : World) (r q : Nat) (l pre : List (K × Value)) : Prop :=
  ∃ (zs ys : List Z) (clock since c0 : Nat), l = zs.map zKV ∧ pre = ys.map zKV ∧ w.heap[r]? = some (.map (zs.map zEnt).toArray clock) ∧ w.heap[q]? = some (.mapIter (some r) since (ys.map (·.2.2)).toArray c0) ∧
    (∀ z ∈ zs, z.2.2 < since) ∧ since ≤ c0 ∧ since ≤ clock ∧ (zs.map (·.2.2)).Nodup ∧ (l.map (·.1)).Nodup ∧ (∀ y ∈ ys, y ∈ zs) ∧ (ys.map (·.2.2)).Nodup
theorem RangeAt.map {w : World} {r q : Nat} {l pre : List (K × Value)} (h : RangeAt w r q l pre) : MapAt w r l := by
  obtain ⟨zs, ys, clock, since, c0, rfl, rfl, hb, hq, hs, h0, hc, hn, hk, hy, hyn⟩ := h
  refine ⟨_, clock, hb, ?_, ?_, ?_, hk⟩
  · simp [zEnt, zKV]
  · intro e he
    simp at he
    obtain ⟨a, b, x, n, hz, rfl⟩ := he
    have := hs _ hz
    simp [zEnt]
    simp at this
    omega
  · simpa [zEnt, Function.comp_def] using hn
theorem RangeAt.frame {w w' : World} {r q : Nat} {l pre : List (K × Value)} (h : RangeAt w r q l pre) (hr : w'.heap[r]? = w.heap[r]?) (hq : w'.heap[q]? = w.heap[q]?) : RangeAt w' r q l pre := by
  obtain ⟨zs, ys, clock, since, c0, h1, h2, hb, hq', r⟩ := h
  exact ⟨zs, ys, clock, since, c0, h1, h2, hr.trans hb, hq.trans hq', r⟩
theorem RangeAt.lt {w : World} {r q : Nat} {l pre : List (K × Value)} (h : RangeAt w r q l pre) : r < w.heap.size ∧ q < w.heap.size := by
  obtain ⟨zs, ys, clock, since, c0, h1, h2, hb, hq', _⟩ := h
  exact ⟨block_lt hb, block_lt hq'⟩
theorem RangeAt.sub {w : World} {r q : Nat} {l pre : List (K × Value)} (h : RangeAt w r q l pre) : (∀ x ∈ pre, x ∈ l) ∧ (l.map (·.1)).Nodup ∧ (pre.map (·.1)).Nodup := by
  obtain ⟨zs, ys, clock, since, c0, rfl, rfl, hb, hq, hs, h0, hc, hn, hk, hy, hyn⟩ := h
  refine ⟨fun x hx => ?_, hk, ?_⟩
  · obtain ⟨y, h1, rfl⟩ := List.mem_map.1 hx
    exact List.mem_map.2 ⟨y, hy y h1, rfl⟩
  · have key : ∀ a ∈ zs, ∀ b ∈ zs, a.1 = b.1 → a = b := by
      clear hs hy hyn hb hq hn
      intro a ha b hb e
      induction zs with
      | nil => cases ha
      | cons z zs ih =>
        simp only [List.map_cons, List.nodup_cons] at hk
        rcases List.mem_cons.1 ha with rfl | ha'
        · rcases List.mem_cons.1 hb with rfl | hb'
          · rfl
          · refine absurd (List.mem_map.2 ⟨zKV b, List.mem_map.2 ⟨b, hb', rfl⟩, ?_⟩) hk.1
            exact e.symm
        · rcases List.mem_cons.1 hb with rfl | hb'
          · refine absurd (List.mem_map.2 ⟨zKV a, List.mem_map.2 ⟨a, ha', rfl⟩, ?_⟩) hk.1
            exact e
          · exact ih hk.2 ha' hb'
    have hyn' : ys.Nodup := by
      have := List.pairwise_map.1 hyn
      exact this.imp (fun h e => h (by rw [e]))
    rw [List.map_map]
    refine List.pairwise_map.2 ?_
    clear hyn hs hk hb hq hn
    induction ys with
    | nil => exact List.Pairwise.nil
    | cons y ys ih =>
      rw [List.nodup_cons] at hyn'
      refine List.Pairwise.cons (fun b hb e => ?_) (ih (fun x hx => hy x (List.mem_cons_of_mem _ hx)) hyn'.2)
      have := key y (hy y (by simp)) b (hy b (List.mem_cons_of_mem _ hb)) e
      exact hyn'.1 (this ▸ hb)
theorem left_nat (zb yb : List Nat) (hz : zb.Nodup) (hy : yb.Nodup) (hs : ∀ y ∈ yb, y ∈ zb) : (zb.filter fun b => !yb.contains b).length + yb.length = zb.length := by
  have hp : (yb ++ zb.filter fun b => !yb.contains b).Perm zb := by
    refine (List.perm_ext_iff_of_nodup ?_ hz).2 fun a => ?_
    · refine List.nodup_append.2 ⟨hy, hz.sublist List.filter_sublist, fun a ha b hb e => ?_⟩
      subst e
      simp at hb
      exact hb.2 ha
    · simp
      constructor
      · rintro (h | h)
        · exact hs a h
        · exact h.1
      · intro h
        by_cases h' : a ∈ yb
        · exact .inl h'
        · exact .inr ⟨h, h'⟩
  have := hp.length_eq
  rw [List.length_append] at this
  omega
theorem leftOf_zs (zs ys : List Z) : (leftOf (zs.map zEnt).toArray (ys.map (·.2.2)).toArray).toList = (zs.filter fun z => !(ys.map (·.2.2)).contains z.2.2).map zEnt := by
  unfold leftOf
  rw [Array.toList_filter, List.filter_map]
  congr 1
  refine List.filter_congr fun z _ => ?_
  simp only [Function.comp, zEnt, List.contains_toArray]
theorem filter_born (zs : List Z) (p : Nat → Bool) : ((zs.filter fun z => p z.2.2).map (·.2.2)) = (zs.map (·.2.2)).filter p := by
  rw [List.filter_map]; rfl
theorem setBlock_off (w : World) (q : Nat) (o : Obj) {k : Nat} (h : k ≠ q) : (setBlock w q o).heap[k]? = w.heap[k]? := by
  simp [setBlock, Ne.symm h]
/-- the measure -/
theorem RangeAt.left {w : World} {r q : Nat} {l pre : List (K × Value)} (h : RangeAt w r q l pre) : w.rangeLeft r q + pre.length = l.length := by
  obtain ⟨zs, ys, clock, since, c0, rfl, rfl, hb, hq, hs, h0, hc, hn, hk, hy, hyn⟩ := h
  unfold World.rangeLeft
  rw [hb, hq]
  simp only
  have e := leftOf_zs zs ys
  have e2 : (leftOf (zs.map zEnt).toArray (ys.map (·.2.2)).toArray).size = ((zs.map (·.2.2)).filter fun b => !(ys.map (·.2.2)).contains b).length := by
    rw [← Array.length_toList, e, List.length_map, ← filter_born, List.length_map]
  rw [e2]
  have := left_nat (zs.map (·.2.2)) (ys.map (·.2.2)) hn hyn (fun b hb => by
    obtain ⟨y, h1, rfl⟩ := List.mem_map.1 hb
    exact List.mem_map.2 ⟨y, hy y h1, rfl⟩)
  simp only [List.length_map] at this ⊢
  exact this
section
open Classical in
theorem RangeAt.perm {w : World} {r q : Nat} {l pre : List (K × Value)} (h : RangeAt w r q l pre) (hl : w.rangeLeft r q = 0) : pre.Perm l := by
  have hlen := h.left
  rw [hl, Nat.zero_add] at hlen
  obtain ⟨h1, h2, h3⟩ := h.sub
  have n1 : pre.Nodup := (List.pairwise_map.1 h3).imp (fun h e => h (by rw [e]))
  have n2 : l.Nodup := (List.pairwise_map.1 h2).imp (fun h e => h (by rw [e]))
  refine (List.perm_ext_iff_of_nodup n1 n2).2 fun a => ⟨h1 a, fun ha => ?_⟩
  refine Classical.byContradiction fun hna => ?_
  have hnd : (a :: pre).Nodup := List.nodup_cons.2 ⟨hna, n1⟩
  have hp : ((a :: pre) ++ l.filter fun b => !(a :: pre).contains b).Perm l := by
    refine (List.perm_ext_iff_of_nodup ?_ n2).2 fun b => ?_
    · refine List.nodup_append.2 ⟨hnd, n2.sublist List.filter_sublist, fun x hx y hy e => ?_⟩
      subst e
      have hy2 := (List.mem_filter.1 hy).2
      rw [List.contains_iff_mem.2 hx] at hy2
      cases hy2
    · rw [List.mem_append, List.mem_filter]
      constructor
      · rintro (h | h)
        · rcases List.mem_cons.1 h with rfl | h
          · exact ha
          · exact h1 b h
        · exact h.1
      · intro h
        by_cases h' : b ∈ a :: pre
        · exact .inl h'
        · exact .inr ⟨h, by
            cases hc : (a :: pre).contains b with
            | true => exact absurd (List.contains_iff_mem.1 hc) h'
            | false => rfl⟩
  have := hp.length_eq
  simp only [List.length_append, List.length_cons] at this
  omega
end
section
variable {w : World} {r q : Nat} {l pre : List (K × Value)} {mt e : TypeId}
theorem MapAt.range (h : MapAt w r l) (ht : Tryz.prog.underlying mt = some (.map 103 e)) :
    ∃ w', (Instr.range mt (.map (some r))).run Tryz.prog w = .ok (.pointer (some ⟨w.heap.size, 0, none⟩)) w' ∧ RangeAt w' r w.heap.size l [] ∧ Below w.heap.size w w' ∧ w'.heap.size = w.heap.size + 1 := by
  obtain ⟨es, clock, hb, hl, hc, hn, hk⟩ := h
  obtain ⟨zs, h1, h2⟩ := zip_ents es.toList l hl
  have hes : es = (zs.map zEnt).toArray := by rw [← h1]
  have hlt := block_lt hb
  refine ⟨w.alloc (.mapIter (some r) clock #[] clock), ?_, ⟨zs, [], clock, clock, clock, h2, rfl, ?_, heap_new w _, ?_, Nat.le_refl _, Nat.le_refl _, ?_, hk, (fun _ h => by cases h), List.nodup_nil⟩, (Below.refl _ w).alloc (Nat.le_refl _) _, by simp⟩
  · simp [Instr.range, run_underlying ht, MapKept.run_getObj_map hb, Result.andThen, newObj, Sem.run]
  · rw [← hes]
    exact heap_old w _ hb
  · intro z hz
    exact hc (zEnt z) (by rw [h1]; exact List.mem_map.2 ⟨z, hz, rfl⟩)
  · rw [h1, List.map_map] at hn
    exact hn
theorem RangeAt.next (h : RangeAt w r q l pre) (ty : TypeId) :
    (w.rangeLeft r q = 0 ∧ (Instr.next (.pointer (some ⟨q, 0, none⟩)) false ty).run Tryz.prog w = .ok (.tuple #[.bool false]) w) ∨
    ∃ (x : K × Value) (w' : World), x ∈ l ∧ x.1 ∉ pre.map (·.1) ∧ (Instr.next (.pointer (some ⟨q, 0, none⟩)) false ty).run Tryz.prog w = .ok (.tuple #[.bool true, kV x.1, x.2]) w' ∧ RangeAt w' r q l (pre ++ [x]) ∧ w.grownBy w' (some q) ∧ w'.heap.size = w.heap.size ∧
      (Instr.entry (.pointer (some ⟨q, 0, none⟩))).run Tryz.prog w' = .ok (.tuple #[kV x.1, x.2]) w' ∧ r ≠ q := by
  have h' := h
  obtain ⟨zs, ys, clock, since, c0, rfl, rfl, hb, hq, hs, h0, hc, hn, hk, hy, hyn⟩ := h
  have hrq : r ≠ q := fun e => by rw [e] at hb; rw [hb] at hq; cases hq
  have hold : ∀ x ∈ ((zs.map zEnt).toArray).toList, x.born < since := by
    intro x hx
    obtain ⟨z, hz, rfl⟩ := List.mem_map.1 (show x ∈ zs.map zEnt from hx)
    exact hs z hz
  rcases run_next_at (P := Tryz.prog) w ty q r since c0 (ys.map (·.2.2)).toArray (zs.map zEnt).toArray clock hq hb hold h0 with ⟨h1, h2⟩ | ⟨e0, he0, w1, hw1, hrun⟩
  · left
    refine ⟨?_, h2⟩
    unfold World.rangeLeft
    rw [hb, hq]
    exact h1
  · right
    rw [leftOf_zs] at he0
    obtain ⟨z, hz, rfl⟩ := List.mem_map.1 he0
    obtain ⟨hzm, hzn⟩ := List.mem_filter.1 hz
    have hzn' : z.2.2 ∉ ys.map (·.2.2) := by simpa using hzn
    have hb1 : w1.heap[r]? = some (.map (zs.map zEnt).toArray clock) := by rcases hw1 with rfl | rfl <;> exact hb
    have hq1 : w1.heap[q]? = some (.mapIter (some r) since (ys.map (·.2.2)).toArray c0) := by rcases hw1 with rfl | rfl <;> exact hq
    have hR : RangeAt (setBlock w1 q (.mapIter (some r) since ((ys.map (·.2.2)).toArray.push z.2.2) clock)) r q (zs.map zKV) (ys.map zKV ++ [zKV z]) := by
      refine ⟨zs, ys ++ [z], clock, since, clock, rfl, by simp, ?_, ?_, hs, hc, hc, hn, hk, ?_, ?_⟩
      · rw [setBlock_off _ _ _ hrq]; exact hb1
      · rw [heap_setBlock_at hq1]; simp
      · intro y hyy
        rcases List.mem_append.1 hyy with h | h
        · exact hy y h
        · rw [List.mem_singleton.1 h]; exact hzm
      · rw [List.map_append]
        refine List.nodup_append.2 ⟨hyn, by simp, fun a ha b hb' e => ?_⟩
        simp at hb'
        exact hzn' (by rw [← hb', ← e]; exact ha)
    have hg : w.grownBy (setBlock w1 q (.mapIter (some r) since ((ys.map (·.2.2)).toArray.push z.2.2) clock)) (some q) := by
      rcases hw1 with rfl | rfl
      · exact ⟨rfl, rfl, rfl, by simp [setBlock], fun k _ hk => setBlock_off _ _ _ (fun e => hk (by rw [e]))⟩
      · exact ⟨rfl, rfl, rfl, by simp [setBlock], fun k _ hk => setBlock_off w.drew _ _ (fun e => hk (by rw [e]))⟩
    refine ⟨zKV z, _, List.mem_map.2 ⟨z, hzm, rfl⟩, ?_, hrun, hR, hg, ?_, ?_, hrq⟩
    · have := hR.sub.2.2
      rw [List.map_append, List.nodup_append] at this
      intro hmem
      exact this.2.2 _ hmem _ (by simp) rfl
    · rcases hw1 with rfl | rfl <;> simp [setBlock]
    · refine run_entry_at _ q r since (ys.map (·.2.2)).toArray (zs.map zEnt).toArray clock (zEnt z) (heap_setBlock_at hq1) ?_ (show zEnt z ∈ zs.map zEnt from List.mem_map.2 ⟨z, hzm, rfl⟩) ?_
      · rw [setBlock_off _ _ _ hrq]; exact hb1
      · simpa [zEnt, Function.comp_def] using hn
variable {ops : Array Oper} {rest : List Oper} {o : Oper} {a : Act} {Q : Exit → Act → World → Prop}
/-- 'range m' -/
theorem wpList_range_at (hg : o.guard = none) (m : Operand) (hop : o.op = Op.range mt m) (ht : Tryz.prog.underlying mt = some (.map 103 e)) (hm : a.eval m = .map (some r)) (h : MapAt w r l)
    (hK : ∀ w', RangeAt w' r w.heap.size l [] → Below w.heap.size w w' → w'.heap.size = w.heap.size + 1 → wpList Tryz.prog ops Q rest (a.put o.dst (.pointer (some ⟨w.heap.size, 0, none⟩))) w') :
    wpList Tryz.prog ops Q (o :: rest) a w := by
  refine wpList_plain hg fun K' hK' => ?_
  obtain ⟨w', hrun, r1, r2, r3⟩ := h.range ht
  unfold Oper.wp
  simp [execOp, hop, hm, hrun, Result.andThen]
  exact hK' _ _ (hK w' r1 r2 r3)
/-- the step -/
theorem wpList_next_at (hg : o.guard = none) (it : Operand) (hop : o.op = Op.next it false) (hit : a.eval it = .pointer (some ⟨q, 0, none⟩)) (h : RangeAt w r q l pre)
    (hDone : pre.Perm l → wpList Tryz.prog ops Q rest (a.put o.dst (.tuple #[.bool false])) w)
    (hMore : ∀ (kt : Int) (kb : List UInt8) (v : Value) (w' : World), ((kt, kb), v) ∈ l → (kt, kb) ∉ pre.map (·.1) → RangeAt w' r q l (pre ++ [((kt, kb), v)]) → w.grownBy w' (some q) → w'.heap.size = w.heap.size →
      (Instr.entry (.pointer (some ⟨q, 0, none⟩))).run Tryz.prog w' = .ok (.tuple #[.agg #[.int .i64 kt, .string ⟨kb.toArray⟩], v]) w' → r ≠ q → wpList Tryz.prog ops Q rest (a.put o.dst (.tuple #[.bool true, .agg #[.int .i64 kt, .string ⟨kb.toArray⟩], v])) w') :
    wpList Tryz.prog ops Q (o :: rest) a w := by
  refine wpList_plain hg fun K' hK' => ?_
  unfold Oper.wp
  rcases h.next o.type with ⟨h0, hrun⟩ | ⟨⟨⟨kt, kb⟩, v⟩, w', hx, hxn, hrun, hR, hgr, hsz, hen, hrq⟩
  · simp [execOp, hop, hit, hrun, Result.andThen]
    exact hK' _ _ (hDone (h.perm h0))
  · simp [execOp, hop, hit, hrun, Result.andThen]
    exact hK' _ _ (hMore kt kb v w' hx hxn hR hgr hsz hen hrq)
variable {F : Fence} {nF : Nat}
theorem wpListIn_range_at (hg : o.guard = none) (m : Operand) (hop : o.op = Op.range mt m) (ht : Tryz.prog.underlying mt = some (.map 103 e)) (hm : a.eval m = .map (some r)) (h : MapAt w r l)
    (hK : ∀ w', RangeAt w' r w.heap.size l [] → Below w.heap.size w w' → w'.heap.size = w.heap.size + 1 → wpListIn F nF Tryz.prog ops Q rest (a.put o.dst (.pointer (some ⟨w.heap.size, 0, none⟩))) w') :
    wpListIn F nF Tryz.prog ops Q (o :: rest) a w := by
  refine wpListIn_plain hg fun K' hK' => ?_
  obtain ⟨w', hrun, r1, r2, r3⟩ := h.range ht
  unfold Oper.wpIn
  refine ⟨by simp [Oper.about, hop], ?_⟩
  rw [Oper.semAt_plain F _ _ (by rw [hop]; intro c hc'; cases hc')]
  simp [execOp, hop, hm, hrun, Result.andThen]
  exact hK' _ _ (hK w' r1 r2 r3)
theorem wpListIn_next_at (hg : o.guard = none) (it : Operand) (hop : o.op = Op.next it false) (hit : a.eval it = .pointer (some ⟨q, 0, none⟩)) (h : RangeAt w r q l pre)
    (hDone : pre.Perm l → wpListIn F nF Tryz.prog ops Q rest (a.put o.dst (.tuple #[.bool false])) w)
    (hMore : ∀ (kt : Int) (kb : List UInt8) (v : Value) (w' : World), ((kt, kb), v) ∈ l → (kt, kb) ∉ pre.map (·.1) → RangeAt w' r q l (pre ++ [((kt, kb), v)]) → w.grownBy w' (some q) → w'.heap.size = w.heap.size →
      (Instr.entry (.pointer (some ⟨q, 0, none⟩))).run Tryz.prog w' = .ok (.tuple #[.agg #[.int .i64 kt, .string ⟨kb.toArray⟩], v]) w' → r ≠ q → wpListIn F nF Tryz.prog ops Q rest (a.put o.dst (.tuple #[.bool true, .agg #[.int .i64 kt, .string ⟨kb.toArray⟩], v])) w') :
    wpListIn F nF Tryz.prog ops Q (o :: rest) a w := by
  refine wpListIn_plain hg fun K' hK' => ?_
  unfold Oper.wpIn
  refine ⟨by simp [Oper.about, hop], ?_⟩
  rw [Oper.semAt_plain F _ _ (by rw [hop]; intro c hc'; cases hc')]
  rcases h.next o.type with ⟨h0, hrun⟩ | ⟨⟨⟨kt, kb⟩, v⟩, w', hx, hxn, hrun, hR, hgr, hsz, hen, hrq⟩
  · simp [execOp, hop, hit, hrun, Result.andThen]
    exact hK' _ _ (hDone (h.perm h0))
  · simp [execOp, hop, hit, hrun, Result.andThen]
    exact hK' _ _ (hMore kt kb v w' hx hxn hR hgr hsz hen hrq)
end
end Go.Proofs.YtkkfmkhbdoeglabGreatDoor
namespace Go.Proofs.YtkkfmkhbdoeglabGreatDoor
/-- an entry: a key of a table, and its value -/
abbrev E := K × List UInt8
/-- the keys' order -/
def ltK (a b : K) : Bool := decide (a.1 < b.1) || (decide (a.1 = b.1) && decide (a.2 < b.2))
theorem ltK_iff (a b : K) : ltK a b = true ↔ a.1 < b.1 ∨ (a.1 = b.1 ∧ a.2 < b.2) := by simp [ltK]
theorem ltK_irrefl (a : K) : ltK a a = false := by
  cases h : ltK a a with
  | false => rfl
  | true =>
    rw [ltK_iff] at h
    rcases h with h | ⟨-, h⟩
    · omega
    · exact absurd h (List.lt_irrefl _)
theorem ltK_trans {a b c : K} (h : ltK a b = true) (k : ltK b c = true) : ltK a c = true := by
  rw [ltK_iff] at *
  rcases h with h | ⟨h1, h2⟩
  · rcases k with k | ⟨k1, k2⟩
    · exact .inl (by omega)
    · exact .inl (by omega)
  · rcases k with k | ⟨k1, k2⟩
    · exact .inl (by omega)
    · exact .inr ⟨by omega, List.lt_trans h2 k2⟩
theorem ltK_asymm {a b : K} (h : ltK a b = true) : ltK b a = false := by
  cases k : ltK b a with
  | false => rfl
  | true => rw [← ltK_irrefl a, ltK_trans h k]
theorem ltK_ne {a b : K} (h : ltK a b = true) : a ≠ b := fun e => by rw [e, ltK_irrefl] at h; cases h
theorem ltK_tri (a b : K) : ltK a b = true ∨ a = b ∨ ltK b a = true := by
  rw [ltK_iff, ltK_iff]
  rcases Int.lt_trichotomy a.1 b.1 with h | h | h
  · exact .inl (.inl h)
  · by_cases h1 : a.2 < b.2
    · exact .inl (.inr ⟨h, h1⟩)
    · by_cases h2 : b.2 < a.2
      · exact .inr (.inr (.inr ⟨h.symm, h2⟩))
      · exact .inr (.inl (Prod.ext h (List.le_antisymm (List.not_lt.1 h2) (List.not_lt.1 h1))))
  · exact .inr (.inr (.inl h))
/-- strictly sorted by keys -/
def SortedE (S : List E) : Prop := S.Pairwise fun x y => ltK x.1 y.1 = true
theorem SortedE.nil : SortedE [] := List.Pairwise.nil
theorem SortedE.keys {S : List E} (h : SortedE S) : (S.map (·.1)).Nodup := List.pairwise_map.2 (h.imp fun h => ltK_ne h)
theorem SortedE.nodup {S : List E} (h : SortedE S) : S.Nodup := List.Pairwise.imp (R := fun x y : E => ltK x.1 y.1 = true) (fun {a b} h (e : a = b) => ltK_ne h (by rw [e])) h
/-- sorted lists with the same entries are one -/
theorem SortedE.ext : ∀ {S T : List E}, SortedE S → SortedE T → (∀ x, x ∈ S ↔ x ∈ T) → S = T
  | [], [], _, _, _ => rfl
  | [], y :: T, _, _, h => by have := (h y).2 (by simp); cases this
  | x :: S, [], _, _, h => by have := (h x).1 (by simp); cases this
  | x :: S, y :: T, hS, hT, h => by
    obtain ⟨hS1, hS2⟩ := List.pairwise_cons.1 hS
    obtain ⟨hT1, hT2⟩ := List.pairwise_cons.1 hT
    have hxy : x = y := by
      rcases List.mem_cons.1 ((h x).1 (by simp)) with e | hx
      · exact e
      · rcases List.mem_cons.1 ((h y).2 (by simp)) with e | hy
        · exact e.symm
        · have := ltK_asymm (hT1 x hx)
          rw [hS1 y hy] at this
          cases this
    subst hxy
    congr 1
    refine SortedE.ext hS2 hT2 fun z => ⟨fun hz => ?_, fun hz => ?_⟩
    · rcases List.mem_cons.1 ((h z).1 (List.mem_cons_of_mem _ hz)) with e | h'
      · exact absurd e.symm (fun e => ltK_ne (hS1 z hz) (by rw [e]))
      · exact h'
    · rcases List.mem_cons.1 ((h z).2 (List.mem_cons_of_mem _ hz)) with e | h'
      · exact absurd e.symm (fun e => ltK_ne (hT1 z hz) (by rw [e]))
      · exact h'
/-- an entry laid in place of that of the same key -/
def putS (k : K) (v : List UInt8) (S : List E) : List E := S.filter (fun x => ltK x.1 k) ++ (k, v) :: S.filter (fun x => ltK k x.1)
def dropS (k : K) (S : List E) : List E := S.filter fun x => !(x.1 == k)
def getS (k : K) (S : List E) : Option (List UInt8) := (S.find? fun x => k == x.1).map (·.2)
theorem sorted_put (k : K) (v : List UInt8) {S : List E} (h : SortedE S) : SortedE (putS k v S) := by
  unfold putS SortedE
  rw [List.pairwise_append]
  refine ⟨h.filter _, List.pairwise_cons.2 ⟨fun y hy => (List.mem_filter.1 hy).2, h.filter _⟩, fun x hx y hy => ?_⟩
  have h1 := (List.mem_filter.1 hx).2
  rcases List.mem_cons.1 hy with rfl | hy
  · exact h1
  · exact ltK_trans h1 (List.mem_filter.1 hy).2
theorem sorted_drop (k : K) {S : List E} (h : SortedE S) : SortedE (dropS k S) := h.filter _
theorem mem_put (k : K) (v : List UInt8) (S : List E) (x : E) : x ∈ putS k v S ↔ x = (k, v) ∨ (x ∈ S ∧ x.1 ≠ k) := by
  unfold putS
  simp only [List.mem_append, List.mem_filter, List.mem_cons]
  constructor
  · rintro (⟨h1, h2⟩ | h | ⟨h1, h2⟩)
    · exact .inr ⟨h1, ltK_ne h2⟩
    · exact .inl h
    · exact .inr ⟨h1, (ltK_ne h2).symm⟩
  · rintro (h | ⟨h1, h2⟩)
    · exact .inr (.inl h)
    · rcases ltK_tri x.1 k with h | h | h
      · exact .inl ⟨h1, h⟩
      · exact absurd h h2
      · exact .inr (.inr ⟨h1, h⟩)
theorem mem_drop (k : K) (S : List E) (x : E) : x ∈ dropS k S ↔ x ∈ S ∧ x.1 ≠ k := by
  unfold dropS
  rw [List.mem_filter]
  simp
theorem find_mem {l : List E} {k : K} {x : E} (h : l.find? (fun x => k == x.1) = some x) : x ∈ l ∧ x.1 = k := by
  refine ⟨List.mem_of_find?_eq_some h, ?_⟩
  have := List.find?_some h
  exact (beq_iff_eq.1 this).symm
theorem get_iff {S : List E} (h : (S.map (·.1)).Nodup) (k : K) (v : List UInt8) : getS k S = some v ↔ (k, v) ∈ S := by
  unfold getS
  constructor
  · intro h'
    obtain ⟨x, hx, rfl⟩ := Option.map_eq_some_iff.1 h'
    obtain ⟨h1, h2⟩ := find_mem hx
    rw [← h2]
    exact h1
  · intro hm
    induction S with
    | nil => cases hm
    | cons y S ih =>
      rw [List.map_cons, List.nodup_cons] at h
      rw [List.find?_cons]
      rcases List.mem_cons.1 hm with rfl | hm
      · simp
      · have : (k == y.1) = false := by
          rw [beq_eq_false_iff_ne]
          exact fun e => h.1 (e ▸ List.mem_map.2 ⟨_, hm, rfl⟩)
        rw [this]
        exact ih h.2 hm
theorem get_none {S : List E} (k : K) : getS k S = none ↔ ∀ x ∈ S, x.1 ≠ k := by
  unfold getS
  rw [Option.map_eq_none_iff, List.find?_eq_none]
  constructor
  · intro h x hx e
    exact h x hx (by rw [beq_iff_eq, e])
  · intro h x hx e
    exact h x hx (beq_iff_eq.1 e).symm
/-- a change -/
def opS (S : List E) (o : OpB) : List E := if o.kind = 1 then putS (o.table, o.key) o.val S else dropS (o.table, o.key) S
def foldS (S : List E) (os : List OpB) : List E := os.foldl opS S
theorem sorted_op {S : List E} (o : OpB) (h : SortedE S) : SortedE (opS S o) := by
  unfold opS
  split
  · exact sorted_put _ _ h
  · exact sorted_drop _ h
theorem sorted_fold : ∀ {S : List E} (os : List OpB), SortedE S → SortedE (foldS S os)
  | _, [], h => h
  | _, o :: os, h => sorted_fold os (sorted_op o h)
theorem foldS_append (S : List E) (os us : List OpB) : foldS S (os ++ us) = foldS (foldS S os) us := List.foldl_append
theorem foldS_take (S : List E) (os : List OpB) (k : Nat) (h : k < os.length) : foldS S (os.take (k + 1)) = opS (foldS S (os.take k)) os[k] := by
  rw [List.take_succ_eq_append_getElem h, foldS_append]
  rfl
/-- how many entries a table has; how many bytes -/
def countS (t : Int) (S : List E) : Nat := S.countP fun x => decide (x.1.1 = t)
def sizeS (S : List E) : Nat := (S.map fun x => 1 + x.1.2.length + x.2.length).sum
end Go.Proofs.YtkkfmkhbdoeglabGreatDoor
namespace Go.Proofs.YtkkfmkhbdoeglabGreatDoor
open Go.RowKit Go.ChangeMaps
/-- a value as it lies in a table's map -/
def strV (s : List UInt8) : Value := .agg #[.string ⟨s.toArray⟩]
def zS (x : E) : K × Value := (x.1, strV x.2)
theorem strV_inj {a b : List UInt8} (h : strV a = strV b) : a = b := by
  unfold strV at h
  simp only [Value.agg.injEq, Array.mk.injEq, List.cons.injEq, Value.string.injEq, ByteArray.mk.injEq, and_true] at h
  exact h
theorem zS_inj {x y : E} (h : zS x = zS y) : x = y := by
  unfold zS at h
  simp only [Prod.mk.injEq] at h
  exact Prod.ext h.1 (strV_inj h.2)
/-- block r is a map that reads as these sorted entries -/
def TabAt (w : World) (r : Nat) (S : List E) : Prop := SortedE S ∧ ∃ L, MapAt w r L ∧ L.Perm (S.map zS)
theorem TabAt.sorted {w : World} {r : Nat} {S : List E} (h : TabAt w r S) : SortedE S := h.1
theorem TabAt.lt {w : World} {r : Nat} {S : List E} (h : TabAt w r S) : r < w.heap.size := h.2.elim fun _ h => h.1.lt
theorem TabAt.old {w w' : World} {r : Nat} {S : List E} (h : TabAt w r S) (hb : w'.heap[r]? = w.heap[r]?) : TabAt w' r S := by
  obtain ⟨hs, L, hm, hp⟩ := h
  exact ⟨hs, L, hm.old hb, hp⟩
theorem TabAt.new (w : World) : TabAt (w.alloc (.map #[] 0)) w.heap.size [] := ⟨SortedE.nil, [], MapAt.new w, List.Perm.refl _⟩
theorem keys_zS (S : List E) : (S.map zS).map (·.1) = S.map (·.1) := by rw [List.map_map]; rfl
theorem atK_iff {k : K} {v : Value} : ∀ {L : List (K × Value)}, (L.map (·.1)).Nodup → (atK k L = some v ↔ (k, v) ∈ L)
  | [], _ => by simp [atK]
  | y :: L, h => by
    rw [List.map_cons, List.nodup_cons] at h
    unfold atK
    rw [List.find?_cons]
    cases hk : (k == y.1) with
    | true =>
      rw [beq_iff_eq] at hk
      subst hk
      simp only [Option.map_some, Option.some.injEq, List.mem_cons]
      constructor
      · rintro rfl; exact .inl rfl
      · rintro (e | hm)
        · rw [← e]
        · exact absurd (List.mem_map.2 ⟨_, hm, rfl⟩) h.1
    | false =>
      rw [beq_eq_false_iff_ne] at hk
      have := @atK_iff k v L h.2
      unfold atK at this
      simp only [this, List.mem_cons]
      constructor
      · exact .inr
      · rintro (e | hm)
        · exact absurd (by rw [← e]) hk
        · exact hm
theorem atK_tab {S : List E} {L : List (K × Value)} (hs : SortedE S) (hn : (L.map (·.1)).Nodup) (hp : L.Perm (S.map zS)) (k : K) : atK k L = (getS k S).map strV := by
  cases hg : getS k S with
  | some v =>
    rw [get_iff hs.keys] at hg
    exact (atK_iff hn).2 (hp.mem_iff.2 (List.mem_map.2 ⟨_, hg, rfl⟩))
  | none =>
    rw [get_none] at hg
    cases ha : atK k L with
    | none => rfl
    | some v =>
      rw [atK_iff hn, hp.mem_iff] at ha
      obtain ⟨x, hx, e⟩ := List.mem_map.1 ha
      exact absurd (congrArg Prod.fst e) (hg x hx)
theorem nodup_inj {l : List K} (h : l.Nodup) {i j : Nat} (hi : i < l.length) (hj : j < l.length) (e : l[i] = l[j]) : i = j :=
  (List.getElem?_inj hi h).1 (by rw [List.getElem?_eq_getElem hi, List.getElem?_eq_getElem hj, e])
theorem putK_mem (k : K) (v : Value) {L : List (K × Value)} (hn : (L.map (·.1)).Nodup) (x : K × Value) : x ∈ putK k v L ↔ x = (k, v) ∨ (x ∈ L ∧ x.1 ≠ k) := by
  unfold putK
  cases hf : findK k L 0 with
  | none =>
    have ha := findK_absent k L 0 hf
    simp only [List.mem_append, List.mem_singleton]
    constructor
    · rintro (h | h)
      · exact .inr ⟨h, ha x h⟩
      · exact .inl h
    · rintro (h | h)
      · exact .inr h
      · exact .inl h.1
  | some y =>
    obtain ⟨j, u⟩ := y
    obtain ⟨-, hj⟩ := findK_get k L 0 j u hf
    rw [Nat.sub_zero] at hj
    obtain ⟨hjl, hje⟩ := List.getElem?_eq_some_iff.1 hj
    simp only
    constructor
    · intro h
      obtain ⟨i, hi, e⟩ := List.getElem_of_mem h
      rw [List.getElem_set] at e
      rw [List.length_set] at hi
      split at e
      · exact .inl e.symm
      · rename_i hne
        refine .inr ⟨e ▸ List.getElem_mem hi, fun hk => hne ?_⟩
        have h1 : (L.map (·.1))[j]'(by simpa using hjl) = k := by simp [hje]
        have h2 : (L.map (·.1))[i]'(by simpa using hi) = k := by simp [e, hk]
        exact nodup_inj hn _ _ (h1.trans h2.symm)
    · rintro (h | ⟨h1, h2⟩)
      · rw [h]
        exact List.mem_of_getElem? (i := j) (by rw [List.getElem?_set_self hjl])
      · obtain ⟨i, hi, rfl⟩ := List.getElem_of_mem h1
        refine List.mem_of_getElem? (i := i) ?_
        rw [List.getElem?_set_ne (fun e => h2 (by subst e; rw [hje])), List.getElem?_eq_getElem hi]
theorem dropK_mem (k : K) {L : List (K × Value)} (hn : (L.map (·.1)).Nodup) (x : K × Value) : x ∈ dropK k L ↔ x ∈ L ∧ x.1 ≠ k := by
  unfold dropK
  cases hf : findK k L 0 with
  | none =>
    have ha := findK_absent k L 0 hf
    exact ⟨fun h => ⟨h, ha x h⟩, fun h => h.1⟩
  | some y =>
    obtain ⟨j, u⟩ := y
    obtain ⟨-, hj⟩ := findK_get k L 0 j u hf
    rw [Nat.sub_zero] at hj
    obtain ⟨hjl, hje⟩ := List.getElem?_eq_some_iff.1 hj
    simp only
    rw [List.mem_eraseIdx_iff_getElem]
    constructor
    · rintro ⟨i, hi, hne, e⟩
      refine ⟨e ▸ List.getElem_mem hi, fun hk => hne ?_⟩
      have h1 : (L.map (·.1))[j]'(by simpa using hjl) = k := by simp [hje]
      have h2 : (L.map (·.1))[i]'(by simpa using hi) = k := by simp [e, hk]
      exact (nodup_inj hn _ _ (h1.trans h2.symm)).symm
    · rintro ⟨h1, h2⟩
      obtain ⟨i, hi, rfl⟩ := List.getElem_of_mem h1
      exact ⟨i, hi, fun e => h2 (by subst e; rw [hje]), rfl⟩
theorem nodup_of_keys {L : List (K × Value)} (h : (L.map (·.1)).Nodup) : L.Nodup := (List.pairwise_map.1 h).imp fun h e => h (by rw [e])
section
open Classical in
theorem perm_of_mem {L M : List (K × Value)} (hl : (L.map (·.1)).Nodup) (hm : (M.map (·.1)).Nodup) (h : ∀ x, x ∈ L ↔ x ∈ M) : L.Perm M :=
  (List.perm_ext_iff_of_nodup (nodup_of_keys hl) (nodup_of_keys hm)).2 h
end
theorem MapAt.keys {w : World} {r : Nat} {L : List (K × Value)} (h : MapAt w r L) : (L.map (·.1)).Nodup := by
  obtain ⟨_, _, _, _, _, _, hk⟩ := h
  exact hk
section
variable {w : World} {r : Nat} {S : List E} {mt e : TypeId}
theorem TabAt.put (h : TabAt w r S) (ht : Tryz.prog.underlying mt = some (.map 103 e)) (k : K) (v : List UInt8) :
    ∃ W1, (∀ n, (Instr.mapUpdate mt (.map (some r)) (kV k) (strV v)).run Tryz.prog (w.drewN n) = .ok () (W1.drewN n)) ∧ TabAt W1 r (putS k v S) ∧ w.grownBy W1 (some r) ∧ W1.heap.size = w.heap.size := by
  obtain ⟨hs, L, hm, hp⟩ := h
  obtain ⟨W1, h1, h2, h3, h4⟩ := hm.update ht k (strV v)
  refine ⟨W1, h1, ⟨sorted_put k v hs, _, h2, perm_of_mem h2.keys (by rw [keys_zS]; exact (sorted_put k v hs).keys) fun x => ?_⟩, h3, h4⟩
  rw [putK_mem k _ hm.keys, hp.mem_iff, List.mem_map, List.mem_map]
  constructor
  · rintro (rfl | ⟨⟨y, hy, rfl⟩, hne⟩)
    · exact ⟨(k, v), (mem_put k v S _).2 (.inl rfl), rfl⟩
    · exact ⟨y, (mem_put k v S _).2 (.inr ⟨hy, hne⟩), rfl⟩
  · rintro ⟨y, hy, rfl⟩
    rcases (mem_put k v S _).1 hy with rfl | ⟨h1, h2⟩
    · exact .inl rfl
    · exact .inr ⟨⟨y, h1, rfl⟩, h2⟩
theorem TabAt.drop (h : TabAt w r S) (ht : Tryz.prog.underlying mt = some (.map 103 e)) (k : K) (t2 ty : TypeId) :
    ∃ W1, (∀ n, (Builtin.delete_ #[mt, t2] ty #[.map (some r), kV k]).run Tryz.prog (w.drewN n) = .ok (.tuple #[]) (W1.drewN n)) ∧ TabAt W1 r (dropS k S) ∧ w.grownBy W1 (some r) ∧ W1.heap.size = w.heap.size := by
  obtain ⟨hs, L, hm, hp⟩ := h
  obtain ⟨W1, h1, h2, h3, h4⟩ := hm.delete ht k t2 ty
  refine ⟨W1, h1, ⟨sorted_drop k hs, _, h2, perm_of_mem h2.keys (by rw [keys_zS]; exact (sorted_drop k hs).keys) fun x => ?_⟩, h3, h4⟩
  rw [dropK_mem k hm.keys, hp.mem_iff, List.mem_map, List.mem_map]
  constructor
  · rintro ⟨⟨y, hy, rfl⟩, hne⟩
    exact ⟨y, (mem_drop k S _).2 ⟨hy, hne⟩, rfl⟩
  · rintro ⟨y, hy, rfl⟩
    obtain ⟨h1, h2⟩ := (mem_drop k S _).1 hy
    exact ⟨⟨y, h1, rfl⟩, h2⟩
theorem TabAt.lookup_ok (h : TabAt w r S) (ht : Tryz.prog.underlying mt = some (.map 103 e)) (hz : (zeroValue e).run Tryz.prog w = .ok (strV []) w) (k : K) :
    (Instr.lookup mt (.map (some r)) (kV k) true).run Tryz.prog w = .ok (.tuple #[strV ((getS k S).getD []), .bool (getS k S).isSome]) w := by
  obtain ⟨hs, L, hm, hp⟩ := h
  rw [hm.lookup_ok ht hz k, atK_tab hs hm.keys hp]
  cases getS k S <;> rfl
theorem TabAt.lookup (h : TabAt w r S) (ht : Tryz.prog.underlying mt = some (.map 103 e)) (hz : (zeroValue e).run Tryz.prog w = .ok (strV []) w) (k : K) :
    (Instr.lookup mt (.map (some r)) (kV k) false).run Tryz.prog w = .ok (strV ((getS k S).getD [])) w := by
  obtain ⟨hs, L, hm, hp⟩ := h
  rw [hm.lookup ht hz k, atK_tab hs hm.keys hp]
  cases getS k S <;> rfl
end
theorem nodup_zS {l : List E} (h : ((l.map zS).map (·.1)).Nodup) : l.Nodup := by
  rw [keys_zS] at h
  exact (List.pairwise_map.1 h).imp (fun h e => h (by rw [e]))
theorem mem_zS {x : E} {l : List E} (h : zS x ∈ l.map zS) : x ∈ l := by
  obtain ⟨y, hy, e⟩ := List.mem_map.1 h
  rw [← zS_inj e]
  exact hy
theorem perm_zS {l S : List E} (hl : l.Nodup) (hS : S.Nodup) (h : (l.map zS).Perm (S.map zS)) : l.Perm S :=
  (List.perm_ext_iff_of_nodup hl hS).2 fun x => ⟨fun hx => mem_zS (h.mem_iff.1 (List.mem_map.2 ⟨x, hx, rfl⟩)), fun hx => mem_zS (h.mem_iff.2 (List.mem_map.2 ⟨x, hx, rfl⟩))⟩
theorem countS_snoc (t : Int) (l : List E) (x : E) : countS t (l ++ [x]) = countS t l + if x.1.1 = t then 1 else 0 := by
  unfold countS
  rw [List.countP_append, List.countP_cons, List.countP_nil]
  simp
theorem countS_perm (t : Int) {l m : List E} (h : l.Perm m) : countS t l = countS t m := h.countP_eq _
theorem length_sub {l m : List E} (hn : l.Nodup) (h : ∀ x ∈ l, x ∈ m) : l.length ≤ m.length := by
  classical
  induction l generalizing m with
  | nil => exact Nat.zero_le _
  | cons x l ih =>
    rw [List.nodup_cons] at hn
    have hp := (List.perm_cons_erase (h x (by simp))).length_eq
    have := ih (m := m.erase x) hn.2 (fun y hy => (List.mem_erase_of_ne (fun e => hn.1 (by rw [← e]; exact hy))).2 (h y (List.mem_cons_of_mem _ hy)))
    simp only [List.length_cons] at hp ⊢
    omega
end Go.Proofs.YtkkfmkhbdoeglabGreatDoor
namespace Go.Proofs.YtkkfmkhbdoeglabGreatDoor
open Go.RowKit
/-- a list of entries as package plain's entries: three cells each -/
def entCells (l : List E) : List Value := l.flatMap fun x => [.int .i64 x.1.1, .string ⟨x.1.2.toArray⟩, .string ⟨x.2.toArray⟩]
theorem entCells_length (l : List E) : (entCells l).length = l.length * 3 := by
  induction l with
  | nil => rfl
  | cons k l ih => simp [entCells] at ih ⊢; omega
theorem entCells_at : ∀ (l : List E) (i : Nat) (h : i < l.length), (entCells l)[i * 3]? = some (.int .i64 l[i].1.1) ∧ (entCells l)[i * 3 + 1]? = some (.string ⟨l[i].1.2.toArray⟩) ∧ (entCells l)[i * 3 + 2]? = some (.string ⟨l[i].2.toArray⟩)
  | k :: l, 0, _ => ⟨rfl, rfl, rfl⟩
  | k :: l, i + 1, h => by
    have ih := entCells_at l i (by simpa using h)
    have e : entCells (k :: l) = .int .i64 k.1.1 :: .string ⟨k.1.2.toArray⟩ :: .string ⟨k.2.toArray⟩ :: entCells l := rfl
    rw [e, show (i + 1) * 3 = i * 3 + 1 + 1 + 1 by omega, show i * 3 + 1 + 1 + 1 + 1 = (i * 3 + 1) + 1 + 1 + 1 by omega, show i * 3 + 1 + 1 + 1 + 2 = (i * 3 + 2) + 1 + 1 + 1 by omega]
    simpa using ih
/-- a slice of package plain's entries -/
def EntsAt (w : World) (v : Value) (l : List E) : Prop := SliceAt w v 3 l.length (entCells l)
theorem EntsAt.opened {w : World} {v : Value} {l : List E} (h : EntsAt w v l) :
    ∃ a cap, v = .slice a l.length cap ∧ l.length ≤ cap ∧ ∀ i (h : i < l.length), ∃ b off, a = some ⟨b, off, none⟩ ∧ w.cell? ⟨b, off + i * 3, none⟩ = some (.int .i64 l[i].1.1) ∧ w.cell? ⟨b, off + i * 3 + 1, none⟩ = some (.string ⟨l[i].1.2.toArray⟩) ∧ w.cell? ⟨b, off + i * 3 + 2, none⟩ = some (.string ⟨l[i].2.toArray⟩) := by
  obtain ⟨_, a, cap, rfl, hc, hx⟩ := h
  refine ⟨a, cap, rfl, hc, fun i hi => ?_⟩
  have hl := entCells_length l
  obtain ⟨h0, h1, h2⟩ := entCells_at l i hi
  obtain ⟨b, off, rfl, c0⟩ := hx (i * 3) (by omega)
  obtain ⟨b1, o1, e1, c1⟩ := hx (i * 3 + 1) (by omega)
  cases e1
  obtain ⟨b2, o2, e2, c2⟩ := hx (i * 3 + 2) (by omega)
  cases e2
  rw [List.getElem?_eq_getElem (by omega)] at h0 h1 h2
  exact ⟨b, off, rfl, c0.trans h0, (by rw [Nat.add_assoc]; exact c1.trans h1), (by rw [Nat.add_assoc]; exact c2.trans h2)⟩
end Go.Proofs.YtkkfmkhbdoeglabGreatDoor
namespace Go.Proofs.YtkkfmkhbdoeglabGreatDoor
open Go.RowKit
theorem entCells_append (l m : List E) : entCells (l ++ m) = entCells l ++ entCells m := by simp [entCells]
theorem entCells_one (l : List E) : ∀ u ∈ entCells l, u.oneCell' = true := by
  intro u hu
  obtain ⟨x, -, hx⟩ := List.mem_flatMap.1 hu
  simp at hx
  rcases hx with rfl | rfl | rfl <;> rfl
theorem EntsAt.below {w w' : World} {v : Value} {l : List E} (h : EntsAt w v l) (hb : Below w.heap.size w w') : EntsAt w' v l := SliceAt.below h hb
theorem OwnS.ents {w : World} {base : Nat} {v : Value} {l : List E} (h : OwnS w base 3 v l.length (entCells l)) : EntsAt w v l := h.sliceAt
end Go.Proofs.YtkkfmkhbdoeglabGreatDoor
namespace Go.Proofs.YtkkfmkhbdoeglabGreatDoor
def keyO (o : OpB) : K := (o.table, o.key)
theorem mem_op (S : List E) (o : OpB) (x : E) : x ∈ opS S o ↔ (o.kind = 1 ∧ x = (keyO o, o.val)) ∨ (x ∈ S ∧ x.1 ≠ keyO o) := by
  unfold opS keyO
  split
  · rename_i h
    rw [mem_put]
    simp [h]
  · rename_i h
    rw [mem_drop]
    simp [h]
theorem two_filters (p q : E → Bool) (h : ∀ x, p x = true → q x = false) : ∀ S : List E, (S.filter p).length + (S.filter q).length ≤ S.length
  | [] => Nat.le_refl _
  | x :: S => by
    have ih := two_filters p q h S
    cases hp : p x with
    | true =>
      rw [List.filter_cons_of_pos hp, List.filter_cons_of_neg (by rw [h x hp]; decide)]
      simp only [List.length_cons]
      omega
    | false =>
      rw [List.filter_cons_of_neg (by rw [hp]; decide)]
      have := List.length_filter_le q [x]
      cases hq : q x with
      | true => rw [List.filter_cons_of_pos hq]; simp only [List.length_cons]; omega
      | false => rw [List.filter_cons_of_neg (by rw [hq]; decide)]; simp only [List.length_cons]; omega
theorem length_op (S : List E) (o : OpB) : (opS S o).length ≤ S.length + 1 := by
  unfold opS
  split
  · unfold putS
    rw [List.length_append, List.length_cons]
    exact Nat.succ_le_succ (two_filters _ _ (fun x h => ltK_asymm h) S)
  · unfold dropS
    exact Nat.le_succ_of_le (List.length_filter_le _ S)
theorem length_fold : ∀ (os : List OpB) {S : List E} (_ : SortedE S), (foldS S os).length ≤ S.length + os.length
  | [], _, _ => Nat.le_refl _
  | o :: os, S, hs => by
    have h1 := length_op S o
    have h2 := length_fold os (sorted_op o hs)
    show (foldS (opS S o) os).length ≤ _
    simp only [List.length_cons]
    omega
end Go.Proofs.YtkkfmkhbdoeglabGreatDoor
