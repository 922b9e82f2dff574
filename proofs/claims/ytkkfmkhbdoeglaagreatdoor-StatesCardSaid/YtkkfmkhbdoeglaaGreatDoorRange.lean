/- A walk over a map whose keys are package api's keys: what has come so far, and the laws of its operations. No condition. -/
import Derived.Test.YtkkfmkhbdoeglaaGreatDoorMap
import Derived.Test.YtkkfmkhbdoeglaaGreatDoorHeap
import Derived.Maps.OwnIn
namespace Go.Proofs.YtkkfmkhbdoeglaaGreatDoor
open Go.RowKit Go.ChangeMaps

/-- an entry with its stamp -/
abbrev Z := K × Value × Nat
def zEnt (z : Z) : MapEntry := ⟨kV z.1, z.2.1, z.2.2⟩
def zKV (z : Z) : K × Value := (z.1, z.2.1)
theorem zip_ents : ∀ (es : List MapEntry) (l : List (K × Value)), es.map (fun e => (e.key, e.val)) = l.map (fun x => (kV x.1, x.2)) → ∃ zs : List Z, es = zs.map zEnt ∧ l = zs.map zKV
  | [], [], _ => ⟨[], rfl, rfl⟩
  | [], _ :: _, h => by simp at h
  | _ :: _, [], h => by simp at h
  | e :: es, x :: l, h => by
    simp only [List.map_cons, List.cons.injEq, Prod.mk.injEq] at h
    obtain ⟨zs, rfl, rfl⟩ := zip_ents es l h.2
    refine ⟨(x.1, x.2, e.born) :: zs, ?_, rfl⟩
    rw [List.map_cons]
    congr 1
    unfold zEnt
    rw [← h.1.1, ← h.1.2]
/-- block q is a walk over the map in block r: its entries are l, of which pre have come; nothing was laid into it since -/
def RangeAt (w : World) (r q : Nat) (l pre : List (K × Value)) : Prop :=
  ∃ (zs ys : List Z) (clock since c0 : Nat), l = zs.map zKV ∧ pre = ys.map zKV ∧ w.heap[r]? = some (.map (zs.map zEnt).toArray clock) ∧ w.heap[q]? = some (.mapIter (some r) since (ys.map (·.2.2)).toArray c0) ∧
    (∀ z ∈ zs, z.2.2 < since) ∧ since ≤ c0 ∧ since ≤ clock ∧ (zs.map (·.2.2)).Nodup ∧ (l.map (·.1)).Nodup ∧ (∀ y ∈ ys, y ∈ zs) ∧ (ys.map (·.2.2)).Nodup
theorem RangeAt.map {w : World} {r q : Nat} {l pre : List (K × Value)} (h : RangeAt w r q l pre) : MapAt w r l := by
  obtain ⟨zs, ys, clock, since, c0, rfl, rfl, hb, hq, hs, h0, hc, hn, hk, hy, hyn⟩ := h
  refine ⟨_, clock, hb, ?_, ?_, ?_, hk⟩
  · simp [zEnt, zKV]
  · intro e he
    simp at he
    obtain ⟨a, b, x, n, hz, rfl⟩ := he
    have := hs _ hz
    simp [zEnt]
    simp at this
    omega
  · simpa [zEnt, Function.comp_def] using hn
theorem RangeAt.frame {w w' : World} {r q : Nat} {l pre : List (K × Value)} (h : RangeAt w r q l pre) (hr : w'.heap[r]? = w.heap[r]?) (hq : w'.heap[q]? = w.heap[q]?) : RangeAt w' r q l pre := by
  obtain ⟨zs, ys, clock, since, c0, h1, h2, hb, hq', r⟩ := h
  exact ⟨zs, ys, clock, since, c0, h1, h2, hr.trans hb, hq.trans hq', r⟩
theorem RangeAt.lt {w : World} {r q : Nat} {l pre : List (K × Value)} (h : RangeAt w r q l pre) : r < w.heap.size ∧ q < w.heap.size := by
  obtain ⟨zs, ys, clock, since, c0, h1, h2, hb, hq', _⟩ := h
  exact ⟨block_lt hb, block_lt hq'⟩
theorem RangeAt.sub {w : World} {r q : Nat} {l pre : List (K × Value)} (h : RangeAt w r q l pre) : (∀ x ∈ pre, x ∈ l) ∧ (l.map (·.1)).Nodup ∧ (pre.map (·.1)).Nodup := by
  obtain ⟨zs, ys, clock, since, c0, rfl, rfl, hb, hq, hs, h0, hc, hn, hk, hy, hyn⟩ := h
  refine ⟨fun x hx => ?_, hk, ?_⟩
  · obtain ⟨y, h1, rfl⟩ := List.mem_map.1 hx
    exact List.mem_map.2 ⟨y, hy y h1, rfl⟩
  · have key : ∀ a ∈ zs, ∀ b ∈ zs, a.1 = b.1 → a = b := by
      clear hs hy hyn hb hq hn
      intro a ha b hb e
      induction zs with
      | nil => cases ha
      | cons z zs ih =>
        simp only [List.map_cons, List.nodup_cons] at hk
        rcases List.mem_cons.1 ha with rfl | ha'
        · rcases List.mem_cons.1 hb with rfl | hb'
          · rfl
          · refine absurd (List.mem_map.2 ⟨zKV b, List.mem_map.2 ⟨b, hb', rfl⟩, ?_⟩) hk.1
            exact e.symm
        · rcases List.mem_cons.1 hb with rfl | hb'
          · refine absurd (List.mem_map.2 ⟨zKV a, List.mem_map.2 ⟨a, ha', rfl⟩, ?_⟩) hk.1
            exact e
          · exact ih hk.2 ha' hb'
    have hyn' : ys.Nodup := by
      have := List.pairwise_map.1 hyn
      exact this.imp (fun h e => h (by rw [e]))
    rw [List.map_map]
    refine List.pairwise_map.2 ?_
    clear hyn hs hk hb hq hn
    induction ys with
    | nil => exact List.Pairwise.nil
    | cons y ys ih =>
      rw [List.nodup_cons] at hyn'
      refine List.Pairwise.cons (fun b hb e => ?_) (ih (fun x hx => hy x (List.mem_cons_of_mem _ hx)) hyn'.2)
      have := key y (hy y (by simp)) b (hy b (List.mem_cons_of_mem _ hb)) e
      exact hyn'.1 (this ▸ hb)
theorem left_nat (zb yb : List Nat) (hz : zb.Nodup) (hy : yb.Nodup) (hs : ∀ y ∈ yb, y ∈ zb) : (zb.filter fun b => !yb.contains b).length + yb.length = zb.length := by
  have hp : (yb ++ zb.filter fun b => !yb.contains b).Perm zb := by
    refine (List.perm_ext_iff_of_nodup ?_ hz).2 fun a => ?_
    · refine List.nodup_append.2 ⟨hy, hz.sublist List.filter_sublist, fun a ha b hb e => ?_⟩
      subst e
      simp at hb
      exact hb.2 ha
    · simp
      constructor
      · rintro (h | h)
        · exact hs a h
        · exact h.1
      · intro h
        by_cases h' : a ∈ yb
        · exact .inl h'
        · exact .inr ⟨h, h'⟩
  have := hp.length_eq
  rw [List.length_append] at this
  omega
theorem leftOf_zs (zs ys : List Z) : (leftOf (zs.map zEnt).toArray (ys.map (·.2.2)).toArray).toList = (zs.filter fun z => !(ys.map (·.2.2)).contains z.2.2).map zEnt := by
  unfold leftOf
  rw [Array.toList_filter, List.filter_map]
  congr 1
  refine List.filter_congr fun z _ => ?_
  simp only [Function.comp, zEnt, List.contains_toArray]
theorem filter_born (zs : List Z) (p : Nat → Bool) : ((zs.filter fun z => p z.2.2).map (·.2.2)) = (zs.map (·.2.2)).filter p := by
  rw [List.filter_map]; rfl
theorem setBlock_off (w : World) (q : Nat) (o : Obj) {k : Nat} (h : k ≠ q) : (setBlock w q o).heap[k]? = w.heap[k]? := by
  simp [setBlock, Ne.symm h]
/-- the measure -/
theorem RangeAt.left {w : World} {r q : Nat} {l pre : List (K × Value)} (h : RangeAt w r q l pre) : w.rangeLeft r q + pre.length = l.length := by
  obtain ⟨zs, ys, clock, since, c0, rfl, rfl, hb, hq, hs, h0, hc, hn, hk, hy, hyn⟩ := h
  unfold World.rangeLeft
  rw [hb, hq]
  simp only
  have e := leftOf_zs zs ys
  have e2 : (leftOf (zs.map zEnt).toArray (ys.map (·.2.2)).toArray).size = ((zs.map (·.2.2)).filter fun b => !(ys.map (·.2.2)).contains b).length := by
    rw [← Array.length_toList, e, List.length_map, ← filter_born, List.length_map]
  rw [e2]
  have := left_nat (zs.map (·.2.2)) (ys.map (·.2.2)) hn hyn (fun b hb => by
    obtain ⟨y, h1, rfl⟩ := List.mem_map.1 hb
    exact List.mem_map.2 ⟨y, hy y h1, rfl⟩)
  simp only [List.length_map] at this ⊢
  exact this
section
open Classical in
theorem RangeAt.perm {w : World} {r q : Nat} {l pre : List (K × Value)} (h : RangeAt w r q l pre) (hl : w.rangeLeft r q = 0) : pre.Perm l := by
  have hlen := h.left
  rw [hl, Nat.zero_add] at hlen
  obtain ⟨h1, h2, h3⟩ := h.sub
  have n1 : pre.Nodup := (List.pairwise_map.1 h3).imp (fun h e => h (by rw [e]))
  have n2 : l.Nodup := (List.pairwise_map.1 h2).imp (fun h e => h (by rw [e]))
  refine (List.perm_ext_iff_of_nodup n1 n2).2 fun a => ⟨h1 a, fun ha => ?_⟩
  refine Classical.byContradiction fun hna => ?_
  have hnd : (a :: pre).Nodup := List.nodup_cons.2 ⟨hna, n1⟩
  have hp : ((a :: pre) ++ l.filter fun b => !(a :: pre).contains b).Perm l := by
    refine (List.perm_ext_iff_of_nodup ?_ n2).2 fun b => ?_
    · refine List.nodup_append.2 ⟨hnd, n2.sublist List.filter_sublist, fun x hx y hy e => ?_⟩
      subst e
      have hy2 := (List.mem_filter.1 hy).2
      rw [List.contains_iff_mem.2 hx] at hy2
      cases hy2
    · rw [List.mem_append, List.mem_filter]
      constructor
      · rintro (h | h)
        · rcases List.mem_cons.1 h with rfl | h
          · exact ha
          · exact h1 b h
        · exact h.1
      · intro h
        by_cases h' : b ∈ a :: pre
        · exact .inl h'
        · exact .inr ⟨h, by
            cases hc : (a :: pre).contains b with
            | true => exact absurd (List.contains_iff_mem.1 hc) h'
            | false => rfl⟩
  have := hp.length_eq
  simp only [List.length_append, List.length_cons] at this
  omega
end
section
variable {w : World} {r q : Nat} {l pre : List (K × Value)} {mt e : TypeId}
theorem MapAt.range (h : MapAt w r l) (ht : Tryz.prog.underlying mt = some (.map 94 e)) :
    ∃ w', (Instr.range mt (.map (some r))).run Tryz.prog w = .ok (.pointer (some ⟨w.heap.size, 0, none⟩)) w' ∧ RangeAt w' r w.heap.size l [] ∧ Below w.heap.size w w' ∧ w'.heap.size = w.heap.size + 1 := by
  obtain ⟨es, clock, hb, hl, hc, hn, hk⟩ := h
  obtain ⟨zs, h1, h2⟩ := zip_ents es.toList l hl
  have hes : es = (zs.map zEnt).toArray := by rw [← h1]
  have hlt := block_lt hb
  refine ⟨w.alloc (.mapIter (some r) clock #[] clock), ?_, ⟨zs, [], clock, clock, clock, h2, rfl, ?_, heap_new w _, ?_, Nat.le_refl _, Nat.le_refl _, ?_, hk, (fun _ h => by cases h), List.nodup_nil⟩, (Below.refl _ w).alloc (Nat.le_refl _) _, by simp⟩
  · simp [Instr.range, run_underlying ht, MapKept.run_getObj_map hb, Result.andThen, newObj, Sem.run]
  · rw [← hes]
    exact heap_old w _ hb
  · intro z hz
    exact hc (zEnt z) (by rw [h1]; exact List.mem_map.2 ⟨z, hz, rfl⟩)
  · rw [h1, List.map_map] at hn
    exact hn
theorem RangeAt.next (h : RangeAt w r q l pre) (ty : TypeId) :
    (w.rangeLeft r q = 0 ∧ (Instr.next (.pointer (some ⟨q, 0, none⟩)) false ty).run Tryz.prog w = .ok (.tuple #[.bool false]) w) ∨
    ∃ (x : K × Value) (w' : World), x ∈ l ∧ x.1 ∉ pre.map (·.1) ∧ (Instr.next (.pointer (some ⟨q, 0, none⟩)) false ty).run Tryz.prog w = .ok (.tuple #[.bool true, kV x.1, x.2]) w' ∧ RangeAt w' r q l (pre ++ [x]) ∧ w.grownBy w' (some q) ∧ w'.heap.size = w.heap.size ∧
      (Instr.entry (.pointer (some ⟨q, 0, none⟩))).run Tryz.prog w' = .ok (.tuple #[kV x.1, x.2]) w' ∧ r ≠ q := by
  have h' := h
  obtain ⟨zs, ys, clock, since, c0, rfl, rfl, hb, hq, hs, h0, hc, hn, hk, hy, hyn⟩ := h
  have hrq : r ≠ q := fun e => by rw [e] at hb; rw [hb] at hq; cases hq
  have hold : ∀ x ∈ ((zs.map zEnt).toArray).toList, x.born < since := by
    intro x hx
    obtain ⟨z, hz, rfl⟩ := List.mem_map.1 (show x ∈ zs.map zEnt from hx)
    exact hs z hz
  rcases run_next_at (P := Tryz.prog) w ty q r since c0 (ys.map (·.2.2)).toArray (zs.map zEnt).toArray clock hq hb hold h0 with ⟨h1, h2⟩ | ⟨e0, he0, w1, hw1, hrun⟩
  · left
    refine ⟨?_, h2⟩
    unfold World.rangeLeft
    rw [hb, hq]
    exact h1
  · right
    rw [leftOf_zs] at he0
    obtain ⟨z, hz, rfl⟩ := List.mem_map.1 he0
    obtain ⟨hzm, hzn⟩ := List.mem_filter.1 hz
    have hzn' : z.2.2 ∉ ys.map (·.2.2) := by simpa using hzn
    have hb1 : w1.heap[r]? = some (.map (zs.map zEnt).toArray clock) := by rcases hw1 with rfl | rfl <;> exact hb
    have hq1 : w1.heap[q]? = some (.mapIter (some r) since (ys.map (·.2.2)).toArray c0) := by rcases hw1 with rfl | rfl <;> exact hq
    have hR : RangeAt (setBlock w1 q (.mapIter (some r) since ((ys.map (·.2.2)).toArray.push z.2.2) clock)) r q (zs.map zKV) (ys.map zKV ++ [zKV z]) := by
      refine ⟨zs, ys ++ [z], clock, since, clock, rfl, by simp, ?_, ?_, hs, hc, hc, hn, hk, ?_, ?_⟩
      · rw [setBlock_off _ _ _ hrq]; exact hb1
      · rw [heap_setBlock_at hq1]; simp
      · intro y hyy
        rcases List.mem_append.1 hyy with h | h
        · exact hy y h
        · rw [List.mem_singleton.1 h]; exact hzm
      · rw [List.map_append]
        refine List.nodup_append.2 ⟨hyn, by simp, fun a ha b hb' e => ?_⟩
        simp at hb'
        exact hzn' (by rw [← hb', ← e]; exact ha)
    have hg : w.grownBy (setBlock w1 q (.mapIter (some r) since ((ys.map (·.2.2)).toArray.push z.2.2) clock)) (some q) := by
      rcases hw1 with rfl | rfl
      · exact ⟨rfl, rfl, rfl, by simp [setBlock], fun k _ hk => setBlock_off _ _ _ (fun e => hk (by rw [e]))⟩
      · exact ⟨rfl, rfl, rfl, by simp [setBlock], fun k _ hk => setBlock_off w.drew _ _ (fun e => hk (by rw [e]))⟩
    refine ⟨zKV z, _, List.mem_map.2 ⟨z, hzm, rfl⟩, ?_, hrun, hR, hg, ?_, ?_, hrq⟩
    · have := hR.sub.2.2
      rw [List.map_append, List.nodup_append] at this
      intro hmem
      exact this.2.2 _ hmem _ (by simp) rfl
    · rcases hw1 with rfl | rfl <;> simp [setBlock]
    · refine run_entry_at _ q r since (ys.map (·.2.2)).toArray (zs.map zEnt).toArray clock (zEnt z) (heap_setBlock_at hq1) ?_ (show zEnt z ∈ zs.map zEnt from List.mem_map.2 ⟨z, hzm, rfl⟩) ?_
      · rw [setBlock_off _ _ _ hrq]; exact hb1
      · simpa [zEnt, Function.comp_def] using hn
variable {ops : Array Oper} {rest : List Oper} {o : Oper} {a : Act} {Q : Exit → Act → World → Prop}
/-- 'range m' -/
theorem wpList_range_at (hg : o.guard = none) (m : Operand) (hop : o.op = Op.range mt m) (ht : Tryz.prog.underlying mt = some (.map 94 e)) (hm : a.eval m = .map (some r)) (h : MapAt w r l)
    (hK : ∀ w', RangeAt w' r w.heap.size l [] → Below w.heap.size w w' → w'.heap.size = w.heap.size + 1 → wpList Tryz.prog ops Q rest (a.put o.dst (.pointer (some ⟨w.heap.size, 0, none⟩))) w') :
    wpList Tryz.prog ops Q (o :: rest) a w := by
  refine wpList_plain hg fun K' hK' => ?_
  obtain ⟨w', hrun, r1, r2, r3⟩ := h.range ht
  unfold Oper.wp
  simp [execOp, hop, hm, hrun, Result.andThen]
  exact hK' _ _ (hK w' r1 r2 r3)
/-- the step -/
theorem wpList_next_at (hg : o.guard = none) (it : Operand) (hop : o.op = Op.next it false) (hit : a.eval it = .pointer (some ⟨q, 0, none⟩)) (h : RangeAt w r q l pre)
    (hDone : pre.Perm l → wpList Tryz.prog ops Q rest (a.put o.dst (.tuple #[.bool false])) w)
    (hMore : ∀ (kt : Int) (kb : List UInt8) (v : Value) (w' : World), ((kt, kb), v) ∈ l → (kt, kb) ∉ pre.map (·.1) → RangeAt w' r q l (pre ++ [((kt, kb), v)]) → w.grownBy w' (some q) → w'.heap.size = w.heap.size →
      (Instr.entry (.pointer (some ⟨q, 0, none⟩))).run Tryz.prog w' = .ok (.tuple #[.agg #[.int .i64 kt, .string ⟨kb.toArray⟩], v]) w' → r ≠ q → wpList Tryz.prog ops Q rest (a.put o.dst (.tuple #[.bool true, .agg #[.int .i64 kt, .string ⟨kb.toArray⟩], v])) w') :
    wpList Tryz.prog ops Q (o :: rest) a w := by
  refine wpList_plain hg fun K' hK' => ?_
  unfold Oper.wp
  rcases h.next o.type with ⟨h0, hrun⟩ | ⟨⟨⟨kt, kb⟩, v⟩, w', hx, hxn, hrun, hR, hgr, hsz, hen, hrq⟩
  · simp [execOp, hop, hit, hrun, Result.andThen]
    exact hK' _ _ (hDone (h.perm h0))
  · simp [execOp, hop, hit, hrun, Result.andThen]
    exact hK' _ _ (hMore kt kb v w' hx hxn hR hgr hsz hen hrq)
variable {F : Fence} {nF : Nat}
theorem wpListIn_range_at (hg : o.guard = none) (m : Operand) (hop : o.op = Op.range mt m) (ht : Tryz.prog.underlying mt = some (.map 94 e)) (hm : a.eval m = .map (some r)) (h : MapAt w r l)
    (hK : ∀ w', RangeAt w' r w.heap.size l [] → Below w.heap.size w w' → w'.heap.size = w.heap.size + 1 → wpListIn F nF Tryz.prog ops Q rest (a.put o.dst (.pointer (some ⟨w.heap.size, 0, none⟩))) w') :
    wpListIn F nF Tryz.prog ops Q (o :: rest) a w := by
  refine wpListIn_plain hg fun K' hK' => ?_
  obtain ⟨w', hrun, r1, r2, r3⟩ := h.range ht
  unfold Oper.wpIn
  refine ⟨by simp [Oper.about, hop], ?_⟩
  rw [Oper.semAt_plain F _ _ (by rw [hop]; intro c hc'; cases hc')]
  simp [execOp, hop, hm, hrun, Result.andThen]
  exact hK' _ _ (hK w' r1 r2 r3)
theorem wpListIn_next_at (hg : o.guard = none) (it : Operand) (hop : o.op = Op.next it false) (hit : a.eval it = .pointer (some ⟨q, 0, none⟩)) (h : RangeAt w r q l pre)
    (hDone : pre.Perm l → wpListIn F nF Tryz.prog ops Q rest (a.put o.dst (.tuple #[.bool false])) w)
    (hMore : ∀ (kt : Int) (kb : List UInt8) (v : Value) (w' : World), ((kt, kb), v) ∈ l → (kt, kb) ∉ pre.map (·.1) → RangeAt w' r q l (pre ++ [((kt, kb), v)]) → w.grownBy w' (some q) → w'.heap.size = w.heap.size →
      (Instr.entry (.pointer (some ⟨q, 0, none⟩))).run Tryz.prog w' = .ok (.tuple #[.agg #[.int .i64 kt, .string ⟨kb.toArray⟩], v]) w' → r ≠ q → wpListIn F nF Tryz.prog ops Q rest (a.put o.dst (.tuple #[.bool true, .agg #[.int .i64 kt, .string ⟨kb.toArray⟩], v])) w') :
    wpListIn F nF Tryz.prog ops Q (o :: rest) a w := by
  refine wpListIn_plain hg fun K' hK' => ?_
  unfold Oper.wpIn
  refine ⟨by simp [Oper.about, hop], ?_⟩
  rw [Oper.semAt_plain F _ _ (by rw [hop]; intro c hc'; cases hc')]
  rcases h.next o.type with ⟨h0, hrun⟩ | ⟨⟨⟨kt, kb⟩, v⟩, w', hx, hxn, hrun, hR, hgr, hsz, hen, hrq⟩
  · simp [execOp, hop, hit, hrun, Result.andThen]
    exact hK' _ _ (hDone (h.perm h0))
  · simp [execOp, hop, hit, hrun, Result.andThen]
    exact hK' _ _ (hMore kt kb v w' hx hxn hR hgr hsz hen hrq)
end
end Go.Proofs.YtkkfmkhbdoeglaaGreatDoor
