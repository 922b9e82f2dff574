/- A part of what is proved here: lemmas and contracts of single functions. No condition but those that each names. -/
import Derived.Test.YtkkfmkhbdoeglabGreatDoorG14
namespace Go.Proofs.YtkkfmkhbdoeglabGreatDoor
open Go.RowKit Go.Shelf Go.Sort
attribute [local go_sem] Oper.semAt_some
theorem keyCells_two : ∀ (l : List K) (i : Nat) (h : i < l.length), (keyCells l)[i * 2]? = some (.int .i64 l[i].1) ∧ (keyCells l)[i * 2 + 1]? = some (.string ⟨l[i].2.toArray⟩)
  | k :: l, 0, _ => ⟨rfl, rfl⟩
  | k :: l, i + 1, h => by
    have ih := keyCells_two l i (by simpa using h)
    have e : keyCells (k :: l) = .int .i64 k.1 :: .string ⟨k.2.toArray⟩ :: keyCells l := rfl
    rw [e, show (i + 1) * 2 = i * 2 + 1 + 1 by omega, show i * 2 + 1 + 1 + 1 = (i * 2 + 1) + 1 + 1 by omega]
    simpa using ih
theorem KeysAt.opened {w : World} {v : Value} {l : List K} (h : KeysAt w v l) :
    ∃ a cap, v = .slice a l.length cap ∧ l.length ≤ cap ∧ ∀ i (h : i < l.length), ∃ b off, a = some ⟨b, off, none⟩ ∧ w.cell? ⟨b, off + i * 2, none⟩ = some (.int .i64 l[i].1) ∧ w.cell? ⟨b, off + i * 2 + 1, none⟩ = some (.string ⟨l[i].2.toArray⟩) := by
  obtain ⟨⟨_, a, cap, rfl, hc, hx⟩, -⟩ := h
  refine ⟨a, cap, rfl, hc, fun i hi => ?_⟩
  have hl := keyCells_length l
  obtain ⟨h0, h1⟩ := keyCells_two l i hi
  obtain ⟨b, off, rfl, c0⟩ := hx (i * 2) (by omega)
  obtain ⟨b1, o1, e1, c1⟩ := hx (i * 2 + 1) (by omega)
  cases e1
  rw [List.getElem?_eq_getElem (by omega)] at h0 h1
  exact ⟨b, off, rfl, c0.trans h0, (by rw [← Nat.add_assoc] at c1; exact c1.trans h1)⟩
/-- what a round of a range over entries keeps: three blocks and all keys -/
structure KeepsE (x y z : Nat) (W W' : World) : Prop where
  size : W.heap.size ≤ W'.heap.size
  three : ∀ k, k = x ∨ k = y ∨ k = z → W'.heap[k]? = W.heap[k]?
  keys : ∀ (k : Nat) (cs : Array Value) (fz : Nat × Nat), W.heap[k]? = some (Obj.cells cs 103 fz) → W'.heap[k]? = some (Obj.cells cs 103 fz)
theorem KeepsE.refl {x y z : Nat} (W : World) : KeepsE x y z W W := ⟨Nat.le_refl _, fun _ _ => rfl, fun _ _ _ h => h⟩
theorem KeepsE.trans {x y z : Nat} {A B C : World} (h : KeepsE x y z A B) (k : KeepsE x y z B C) : KeepsE x y z A C :=
  ⟨Nat.le_trans h.size k.size, fun i hi => (k.three i hi).trans (h.three i hi), fun i cs fz hi => k.keys i cs fz (h.keys i cs fz hi)⟩
theorem KeysAt.kept {w w' : World} {x y z : Nat} {v : Value} {l : List K} (h : KeysAt w v l) (hk : KeepsE x y z w w') : KeysAt w' v l := by
  obtain ⟨h1, h2⟩ := h
  refine ⟨h1.frame fun b hb _ => ?_, fun g hg => ?_⟩
  · obtain ⟨cs, fz, h⟩ := h2 b hb
    rw [h, hk.keys b cs fz h]
  · obtain ⟨cs, fz, h⟩ := h2 g hg
    exact ⟨cs, fz, hk.keys g cs fz h⟩
theorem KeepsE.of_below {x y z : Nat} {W W' : World} (h : Below W.heap.size W W') (hx : x < W.heap.size) (hy : y < W.heap.size) (hz : z < W.heap.size) : KeepsE x y z W W' :=
  ⟨h.size, fun k hk => h.block k (by rcases hk with rfl | rfl | rfl <;> assumption), fun k cs fz hk => (h.block k (block_lt hk)).trans hk⟩
theorem EntAt.kept {w w' : World} {x q off r : Nat} {S : List E} (h : EntAt w q off r S) (hk : KeepsE x q r w w') : EntAt w' q off r S :=
  ⟨(World.cell?_of_block (a := ⟨q, off, none⟩) (hk.three q (.inr (.inl rfl)))).trans h.cell, h.tab.old (hk.three r (.inr (.inr rfl)))⟩
theorem run_value_field (s : ByteArray) (w : World) : (Instr.field 226 (.agg #[.string s]) 0).run Tryz.prog w = .ok (.string s) w := by kernel_rfl
theorem keysFn_any (r : Nat) (w : World) : Calls Tryz.prog 137 #[.map (some r)] w fun e w' =>
    e = .returned (.func (.func 177) #[] #[.pointer (some ⟨w.heap.size, 0, none⟩)]) ∧ w' = w.alloc (.cells #[.map (some r)] 162) := by
  go_enter Tryz.func137, Tryz.ntmps137
  go_wp2
  go_ret
  exact ⟨rfl, rfl⟩
set_option maxRecDepth 100000 in
set_option maxHeartbeats 4000000 in
theorem entries_stopsF {β : Type} (f : β → E) (Y : List β) (n : Nat) (Bm q off r : Nat) (S : List E) (hYS : Y.map f = S) (w : World) (hBm : Bm < w.heap.size) (hm : w.cell? ⟨Bm, 0, none⟩ = some (.pointer (some ⟨q, off, none⟩))) (he : EntAt w q off r S) (hS : S.length ≤ 1000000000) :
    SeqStopsK Fence.wide n Tryz.prog 135 #[.pointer (some ⟨Bm, 0, none⟩)] (fun y : β => #[kV (f y).1, .string ⟨(f y).2.toArray⟩]) (KeepsE Bm q r) (fun xs => xs = Y) (fun pre => pre <+: Y) S.length w := by
  intro l J Jx W hW hJ hJx hY h0
  have hYL : Y.length = S.length := by rw [← hYS, List.length_map]
  have HYS := Lib.hid hYS
  have HYL := Lib.hid hYL
  clear hYS hYL
  have heW := he.below hW
  have hmW : W.cell? ⟨Bm, 0, none⟩ = some (.pointer (some ⟨q, off, none⟩)) := (hW.cell (p := ⟨Bm, 0, none⟩) hBm).trans hm
  have hsW := hW.size
  have hBmW : Bm < W.heap.size := by omega
  have hqW := heW.lt
  have hrW := heW.tab.lt
  have hc := heW.cell
  have HE := Lib.hid heW
  clear he hm heW
  have hK2 : Below W.heap.size W (W.alloc (.cells #[.map (some r)] 162)) := (Below.refl _ W).alloc (Nat.le_refl _) _
  have HSO := Lib.hid (sortedKeys_any W.heap.size r S (W.alloc (.cells #[.map (some r)] 162)) (by simp) (cell_of_row _ _ 0 _ _ _ (heap_new W (.cells #[.map (some r)] 162))) (HE.out.below hK2).tab hS)
  refine callsIn_of_wp Tryz.func135 rfl trivial ?_ rfl
  try simp only [Tryz.ntmps135, List.size_toArray, List.length_cons, List.length_nil, Nat.reduceAdd, Nat.reduceSub, Array.replicate_succ, Array.replicate_zero, List.push_toArray, List.append_toArray, List.nil_append, List.cons_append]
  gi_wp2_with (first
    | (refine ⟨trivial, (fun h => by simp [Fence.wide] at h), (callsIn_wide.2 (keysFn_any r W)).mono ?_⟩; rintro e w0 ⟨rfl, rfl⟩)
    | (refine ⟨trivial, (fun h => by simp [Fence.wide] at h), (callsIn_wide.2 HSO.out).mono ?_⟩; rintro e w1 ⟨v, rfl, hks, hb1⟩; obtain ⟨sa, scap, rfl, -, -⟩ := hks.opened; rw [List.length_map] at *))
  have hb01 : Below W.heap.size W w1 := hK2.trans (hb1.mono (by simp))
  have hs1 := hb01.size
  have hmx : S.length ≤ scap := by obtain ⟨a', c', e, h, -⟩ := hks.opened; obtain ⟨-, -, rfl⟩ := Value.slice.inj e; simpa using h
  have HKS := Lib.hid hks
  have HE1 := Lib.hid (HE.out.below hb01)
  have HJ := Lib.hid hJ
  have HM1 : Hid (w1.cell? ⟨Bm, 0, none⟩ = some (.pointer (some ⟨q, off, none⟩))) := Lib.hid ((hb01.cell (p := ⟨Bm, 0, none⟩) hBmW).trans hmW)
  have hJ1 : J [] w1 := hJ [] W w1 none h0 ⟨hb01.os, hb01.tape, hb01.output, hb01.size, fun k hk _ => hb01.block k hk⟩ (fun r e => by cases e)
  clear hks hc hmW HSO hb1
  gi_loopw [12] (fun i wr => ∃ k : Nat, k ≤ S.length ∧ i = .int .i64 (k : Int) ∧ KeepsE Bm q r w1 wr ∧ J (Y.take k) wr) (fun i _ => S.length - (intOf i).toNat)
  case atStart => exact ⟨0, Nat.zero_le _, rfl, KeepsE.refl _, hJ1⟩
  case round =>
    clear hJ1
    obtain ⟨k, hk, rfl, hke, hJk⟩ := hrel
    have hsr := hke.size
    by_cases hlt : k < S.length
    · have g1 : (k : Int) < S.length := by omega
      obtain ⟨sa', scap', e, -, hx⟩ := (HKS.out.kept hke).opened
      obtain ⟨rfl, -, rfl⟩ := Value.slice.inj e
      obtain ⟨kb, ko, rfl, c0, c1⟩ := hx k (by simpa using hlt)
      obtain ⟨x, hxk⟩ : ∃ x, x = S[k] := ⟨_, rfl⟩
      have hyk : k < Y.length := by rw [HYL.out]; exact hlt
      obtain ⟨y, hy0⟩ : ∃ y, y = Y[k] := ⟨_, rfl⟩
      have hfy : f y = x := by rw [hy0, hxk]; have h1 := HYS.out; subst h1; rw [List.getElem_map]
      rw [List.getElem_map, ← hxk] at c0 c1
      obtain ⟨⟨T, KB⟩, VB⟩ := x
      simp only at c0 c1
      have HEr := Lib.hid (HE1.out.kept hke)
      have hg : getS (T, KB) S = some VB := (get_iff HE1.out.tab.sorted.keys _ _).2 (by rw [hxk]; exact List.getElem_mem hlt)
      have htk : Y.take (k + 1) = Y.take k ++ [y] := by rw [hy0]; exact (List.take_append_getElem hyk).symm
      have HFY := Lib.hid hfy
      have HYK := Lib.hid hyk
      have HTK := Lib.hid htk
      have hmr : wr.cell? ⟨Bm, 0, none⟩ = some (.pointer (some ⟨q, off, none⟩)) := (World.cell?_of_block (a := ⟨Bm, 0, none⟩) (hke.three Bm (.inl rfl))).trans HM1.out
      have hcr := HEr.out.cell
      have hlr := cell_lt hmr
      have hlq := cell_lt hcr
      have hlk := cell_lt c0
      have hal : Below wr.heap.size wr (wr.alloc (.cells #[.int .i64 T, .string ⟨KB.toArray⟩] 103)) := (Below.refl _ wr).alloc (Nat.le_refl _) _
      have HMR := Lib.hid hmr
      have hg0 := hg
      clear hxk htk hg hx hk hy0 hfy hyk
      have HG := Lib.hid hg0
      gi_wp2
      have hnew := heap_new wr (.cells #[.int .i64 T, .string ⟨KB.toArray⟩] 103)
      have hsa : (wr.alloc (.cells #[.int .i64 T, .string ⟨KB.toArray⟩] 103)).heap.size = wr.heap.size + 1 := by simp
      have HJa : Hid (J (Y.take k) (wr.alloc (.cells #[.int .i64 T, .string ⟨KB.toArray⟩] 103))) := Lib.hid (HJ.out _ wr _ none hJk (World.grownBy_alloc wr _ none) (fun r e => by cases e))
      generalize hwa : wr.alloc (.cells #[.int .i64 T, .string ⟨KB.toArray⟩] 103) = wa
      rw [hwa] at hal hnew hsa HJa
      clear hwa c0 c1 hmr hcr
      have HEa := Lib.hid (HEr.out.below hal)
      have hma : wa.cell? ⟨Bm, 0, none⟩ = some (.pointer (some ⟨q, off, none⟩)) := (hal.cell (p := ⟨Bm, 0, none⟩) hlr).trans HMR.out
      have hca := HEa.out.cell
      have hfl := run_value_field ⟨VB.toArray⟩ wa.drew
      have hlook := TabAt.lookup (w := wa.drew) (HEa.out.tab.old rfl) (mt := 162) Tryz.underlying162 (zeroVal _) (T, KB)
      rw [HG.out] at hlook
      simp only [kV, keyV, strV, Option.getD_some] at hlook
      have d0 := cell_of_row _ _ 0 _ _ _ hnew
      have d1 := cell_of_row _ _ 1 _ _ _ hnew
      refine wpIn_region_still_tail 9 (by kernel_rfl) (by kernel_rfl) ?_
      simp only [List.take_succ_cons, List.take_zero, List.drop_succ_cons, List.drop_zero]
      repeat still_step
      refine wpStill_nil ?_
      have hJd : J (Y.take k) wa.drew := HJ.out _ wa _ none HJa.out ⟨rfl, rfl, rfl, Nat.le_refl _, fun _ _ _ => rfl⟩ (fun r e => by cases e)
      obtain ⟨fn, tmps, assign, body, hy, hR⟩ := hY (Y.take k) y wa.drew hJd (by rw [List.length_take]; omega)
      rw [HFY.out] at hy
      simp only [kV, keyV] at hy
      have hka : KeepsE Bm q r w1 wa.drew := hke.trans (KeepsE.trans (KeepsE.of_below hal hlr hlq HEr.out.tab.lt) ⟨Nat.le_refl _, fun _ _ => rfl, fun _ _ _ h => h⟩)
      clear hlook d0 d1 hma hca hfl
      have hsd : wr.heap.size ≤ wa.drew.heap.size := hal.size
      gi_wp2
      refine ⟨(fun h => by simp [Fence.wide] at h), hR.mono ?_⟩
      rintro e W3 (⟨rfl, hJ3, hk3⟩ | ⟨rfl, hJx3⟩)
      · gi_wp2
        have hrel3 : ∃ k' : Nat, k' ≤ S.length ∧ Value.int .i64 ((k : Int) + 1) = .int .i64 (k' : Int) ∧ KeepsE Bm q r w1 W3 ∧ J (Y.take k') W3 := ⟨k + 1, by omega, rfl, hka.trans hk3, by rw [HTK.out]; exact hJ3⟩
        simp only [List.length_map]
        refine ⟨?_, ?_⟩
        · first
            | exact hrel3
            | ((repeat apply Exists.intro); exact ⟨hrel3, rfl⟩)
        · simp [intOf]
          omega
      · gi_wp2
        refine bodyPost_ret (results_none rfl _ _ _) rfl ?_
        exact ⟨⟨_, rfl⟩, .inr ⟨_, (by rw [← HTK.out]; exact List.take_prefix _ _), hJx3⟩⟩
    · obtain rfl : k = S.length := by omega
      have g1 : ¬ (S.length : Int) < S.length := by omega
      gi_wp2
      go_end0
      rw [← HYL.out, List.take_length] at hJk
      exact ⟨⟨_, rfl⟩, .inl hJk⟩
end Go.Proofs.YtkkfmkhbdoeglabGreatDoor
namespace Go.Proofs.YtkkfmkhbdoeglabGreatDoor
open Go.RowKit Go.Shelf Go.Sort
end Go.Proofs.YtkkfmkhbdoeglabGreatDoor
