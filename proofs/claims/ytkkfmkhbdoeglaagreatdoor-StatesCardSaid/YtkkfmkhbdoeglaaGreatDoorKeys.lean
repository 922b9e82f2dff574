/- The contract of maps.Keys over a map that reads as sorted entries: its iterator hands over every key once, in some order. No condition. -/
import Derived.Test.YtkkfmkhbdoeglaaGreatDoorRange
import Derived.Test.YtkkfmkhbdoeglaaGreatDoorTabPlain
import Derived.RangeFuncNested
import Derived.RangeFuncBound
import Derived.RangeFuncCalls
import Derived.RangeFuncLeaves
import Derived.RangeFuncGives
import Derived.RangeFuncMany
import Derived.Shelf.Abstract
import Derived.Shelf.RegionOpen
import Derived.WalkKit
import Derived.OwnWalkIn
import Derived.TacticsInMore
import Derived.LoopNIn
import Derived.LoopIn
import Derived.RangeFuncBox
import Derived.Maps.AppendAt
import Derived.Test.YtkkfmkhbdoeglaaGreatDoorOrder
import Derived.StillTailTactics
namespace Go.Proofs.YtkkfmkhbdoeglaaGreatDoor
open Go.RowKit Go.Shelf
attribute [local go_sem] Oper.semAt_some

theorem RangeAt.of_walks {w w' : World} {r q : Nat} {l pre : List (K × Value)} (h : RangeAt w r q l pre) (hk : KeepsWalks w w') : RangeAt w' r q l pre := by
  obtain ⟨zs, ys, clock, since, c0, h1, h2, hb, hq', rest⟩ := h
  exact ⟨zs, ys, clock, since, c0, h1, h2, hk.same r _ hb rfl, hk.same q _ hq' rfl, rest⟩
theorem RangeAt.iter_walk {w : World} {r q : Nat} {l pre : List (K × Value)} (h : RangeAt w r q l pre) : ∃ o : Obj, w.heap[q]? = some o ∧ o.isWalk = true := by
  obtain ⟨zs, ys, clock, since, c0, h1, h2, hb, hq', rest⟩ := h
  exact ⟨_, hq', rfl⟩
set_option maxRecDepth 100000 in
set_option maxHeartbeats 1000000 in
theorem keys_stops (F : Fence) (n : Nat) (hf : F.fn 131) (hro : F.round = none) (hn : 1 ≤ n) (Bm b : Nat) (S : List E) (w : World) (hBm : Bm < w.heap.size) (hm : w.cell? ⟨Bm, 0, none⟩ = some (.map (some b))) (ht : TabAt w b S) :
    SeqStopsA F n Tryz.prog 131 #[.pointer (some ⟨Bm, 0, none⟩)] (fun k : K => #[kV k]) (fun xs => xs.Perm (S.map (·.1))) (fun _ => True) S.length w := by
  intro l J Jx W hW hJ hJx hY h0
  obtain ⟨-, L, hmap, hp⟩ := ht
  have hmapW : MapAt W b L := hmap.old (hW.block _ hmap.lt)
  have hmW : W.cell? ⟨Bm, 0, none⟩ = some (.map (some b)) := (hW.cell (p := ⟨Bm, 0, none⟩) hBm).trans hm
  have hlen : L.length = S.length := by rw [hp.length_eq, List.length_map]
  have hperm : (L.map (·.1)).Perm (S.map (·.1)) := by
    have := hp.map (·.1)
    rw [keys_zS] at this
    exact this
  refine callsIn_of_wp Tryz.func131 rfl hf ?_ hro
  try simp only [Tryz.ntmps131, List.size_toArray, List.length_cons, List.length_nil, Nat.reduceAdd, Nat.reduceSub, Array.replicate_succ, Array.replicate_zero, List.push_toArray, List.append_toArray, List.nil_append, List.cons_append]
  gi_wp2_with (first
    | (gi_at_range; refine wpListIn_range_at rfl _ rfl Tryz.underlying107 rfl hmapW ?_; intro w0 hrg0 hb0 hs0)
    | gi_in)
  try go_frame
  gi_loopw [3] (fun _ wr => ∃ pre, RangeAt wr b W.heap.size L pre ∧ J (pre.map (·.1)) wr) (fun _ wr => wr.rangeLeft b W.heap.size)
  case atStart =>
    exact ⟨[], hrg0, hJ [] W w0 none h0 ⟨hb0.os, hb0.tape, hb0.output, hb0.size, fun k hk _ => hb0.block k hk⟩ (fun r e => by cases e)⟩
  case round =>
    obtain ⟨pre, hrg, hJs⟩ := hrel
    gi_wp2_with (first
      | (gi_at_next; refine wpListIn_next_at rfl _ rfl rfl hrg ?_ ?_)
      | gi_in)
    · intro hpm
      gi_wp2
      go_end0
      exact ⟨⟨_, rfl⟩, .inl ⟨_, (hpm.map _).trans hperm, hJs⟩⟩
    · intro kt kb v w2 hx hxn hrg2 hg2 hs2 hen hrq
      have hJ2 : J (pre.map (·.1)) w2 := hJ _ wr w2 (some W.heap.size) hJs hg2 (fun r e => by cases e; exact ⟨Nat.le_refl _, hrg.iter_walk⟩)
      have hln : (pre.map (·.1)).length < S.length := by
        have h1 := hrg2.left
        rw [List.length_map]
        simp at h1
        omega
      have hJ2' : J (pre.map (·.1)) (w2.alloc (.cells #[.int .i64 kt, .string ⟨kb.toArray⟩] 94)) := hJ _ w2 _ none hJ2 (World.grownBy_alloc w2 _ none) (fun r e => by cases e)
      have hrg2' := hrg2.of_walks (KeepsWalks.alloc w2 (.cells #[.int .i64 kt, .string ⟨kb.toArray⟩] 94))
      obtain ⟨fn, tmps, assign, body, hy, hR⟩ := hY (pre.map (·.1)) (kt, kb) (w2.alloc (.cells #[.int .i64 kt, .string ⟨kb.toArray⟩] 94)) hJ2' hln
      have hle := hrg.left
      have hle2 := hrg2.left
      simp only [List.length_append, List.length_cons, List.length_nil] at hle2
      clear hs2
      unfold kV keyV at hy
      gi_wp2
      refine hR.mono ?_
      rintro e W3 (⟨rfl, hJ3, hk3⟩ | ⟨rfl, hJx3⟩)
      · gi_wp2
        have hrg3 := hrg2'.of_walks hk3
        go_roundw
        case rel => exact ⟨_, hrg3, by rw [List.map_append]; exact hJ3⟩
        case measure =>
          have := hrg3.left
          simp only [List.length_append, List.length_cons, List.length_nil] at this
          omega
      · gi_wp2
        refine bodyPost_ret (results_none rfl _ _ _) rfl ?_
        exact ⟨⟨_, rfl⟩, .inr ⟨_, trivial, hJx3⟩⟩
end Go.Proofs.YtkkfmkhbdoeglaaGreatDoor

/- The contracts of slices.AppendSeq and slices.Collect over keys. No condition. -/
namespace Go.Proofs.YtkkfmkhbdoeglaaGreatDoor
open Go.RowKit Go.Shelf
attribute [local go_sem] Oper.semAt_some

def keyCells (l : List K) : List Value := l.flatMap fun k => [.int .i64 k.1, .string ⟨k.2.toArray⟩]
theorem keyCells_snoc (l : List K) (k : K) : keyCells (l ++ [k]) = keyCells l ++ [.int .i64 k.1, .string ⟨k.2.toArray⟩] := by
  simp [keyCells]
theorem infoKey : (Tryz.prog.info? 94).map (fun i => (i.zero, i.size, i.bytes)) = some (some (.agg #[.int .i64 0, .string ⟨#[]⟩]), 2, 24) := by kernel_rfl
theorem cell_two_new (w : World) (x y : Value) (t : TypeId) : ∀ j u, [x, y][j]? = some u → (w.alloc (.cells #[x, y] t)).cell? ((⟨w.heap.size, 0, none⟩ : Addr).add j) = some u := by
  intro j u hj
  have := cell_of_row (w.alloc (.cells #[x, y] t)) w.heap.size j _ _ _ (heap_new w (.cells #[x, y] t))
  match j, hj with
  | 0, hj => simp at hj; subst hj; simp [Addr.add, this]
  | 1, hj => simp at hj; subst hj; simp [Addr.add, this]
  | j + 2, hj => simp at hj
set_option maxRecDepth 100000 in
set_option maxHeartbeats 4000000 in
theorem appendSeq_any (F : Fence) (n : Nat) (hf : F.fn 151) (hro : F.round = none) (hn : 3 ≤ n) (gf : Nat) (lb : Array Value) (hgf : F.fn gf) (eg : ∀ args w, (callFunc gf args).run Tryz.prog w = .ok (.enter gf args) w)
    (Sx Sp : List K → Prop) (N : Nat) (hN : N ≤ 1000000000) (w : World) (hseq : SeqStopsA F (n - 1) Tryz.prog gf lb (fun k : K => #[kV k]) Sx Sp N w) (_hSx : ∀ xs, Sx xs → xs.length ≤ N) :
    CallsIn F n Tryz.prog 151 #[.slice none 0 0, .func (.func gf) #[] lb] w fun e W' => ∃ v xs, e = .returned v ∧ Sx xs ∧ W'.ownsRow w.heap.size 94 2 v xs.length (keyCells xs) ∧ Below w.heap.size w W' := by
  have h1 : 1 ≤ n := by omega
  obtain ⟨i0, hi, hz0, hz1, hz2⟩ := info_parts infoKey
  refine callsIn_of_wp_marks Tryz.func151 rfl hf ?_ hro
  try simp only [Tryz.ntmps151, List.size_toArray, List.length_cons, List.length_nil, Nat.reduceAdd, Nat.reduceSub, Array.replicate_succ, Array.replicate_zero, List.push_toArray, List.append_toArray, List.nil_append, List.cons_append]
  gi_wp2
  have bS := Boxed.new w 174 (.slice none 0 0)
  have hB0 : Below w.heap.size w (w.alloc (.cells #[.slice none 0 0] 174)) := (Below.refl _ w).alloc (Nat.le_refl _) _
  have hsz : (w.alloc (.cells #[.slice none 0 0] 174)).heap.size = w.heap.size + 1 := by simp
  obtain ⟨W0, hW0⟩ : ∃ W0, w.alloc (.cells #[.slice none 0 0] 174) = W0 := ⟨_, rfl⟩
  rw [hW0] at bS hB0 hsz ⊢
  clear hW0
  refine wpIn_rangeFunc_ownH hro h1 (gf := gf) (lb := lb) rfl hgf eg hseq walksK_t walksK_b hB0 (fun _ => rfl)
    (fun pre W => (∃ v, Boxed W w.heap.size 174 v ∧ W.ownsRow w.heap.size 94 2 v pre.length (keyCells pre) ∧ True) ∧ Below w.heap.size w W)
    (fun _ _ _ => False)
    (OwnFrom.and (Own.from (holdsRow_own w.heap.size w.heap.size 174 94 2 (fun pre : List K => pre.length) keyCells (fun _ _ => True)) _) (ownFrom_below (Nat.le_refl _) (by omega)))
    (fun _ _ _ _ _ hs _ _ => hs)
    ⟨⟨_, bS, World.ownsRow_nil _ _ _ _, trivial⟩, hB0⟩
    (fun x a' W => ∃ Bx, w.heap.size < Bx ∧ W.heap[Bx]? = some (.cells #[.int .i64 x.1, .string ⟨x.2.toArray⟩] 94 (0, 0)) ∧ a' = { tmps := #[.slice none 0 0, .func (.func gf) #[] lb, .pointer (some ⟨w.heap.size, 0, none⟩), undef, .slice none 0 0, .pointer (some ⟨Bx, 0, none⟩), .func (.func gf) #[] lb, .agg #[.int .i64 x.1, .string ⟨x.2.toArray⟩], undef, undef, undef, undef, undef], defers := [] })
    (fun x a' _ X Y row hs hg hr => by
      obtain ⟨Bx, h1, h2, h3⟩ := hs
      exact ⟨Bx, h1, (hg.block Bx (block_lt h2) (fun e => by obtain ⟨-, o, ho, hc⟩ := hr Bx e.symm; rw [h2] at ho; cases ho; cases hc)).trans h2, h3⟩)
    ?assign ?body ?done ?stop
  case assign =>
    rintro l pre x W K ⟨⟨v1, bS1, hr1, -⟩, hB1⟩ hK
    unfold kV keyV
    gi_wp2
    exact hK _ _ ((KeepsOthers.alloc _ _).from _) (KeepsWalks.alloc _ _) ⟨⟨v1, bS1.alloc _, hr1.alloc _, trivial⟩, hB1.alloc hB1.size _⟩ ⟨W.heap.size, bS1.lt, heap_new W _, rfl⟩
  case body =>
    rintro l pre ⟨kt, kb⟩ a' W hl ⟨r, hr⟩ ⟨⟨v, hv, hrow, -⟩, hB⟩ ⟨Bx, hBx, bX, rfl⟩ hlt
    have hc := hv.cell
    have x0 := cell_of_row _ _ 0 _ _ _ bX
    have x1 := cell_of_row _ _ 1 _ _ _ bX
    have hsW := hB.size
    have hmx : maxLen = 9223372036854775807 := rfl
    gi_wp2_with (gi_at_builtin; refine wpListIn_append_own _ rfl _ _ 174 rfl w.heap.size 94 i0 (.agg #[.int .i64 0, .string ⟨#[]⟩]) 2 24 Tryz.underlying174 hi hz0 hz1 hz2 rfl (by decide) _ _ _ rfl (hrow.alloc _) ⟨W.heap.size, 0, none⟩ 1 1 [.int .i64 kt, .string ⟨kb.toArray⟩] rfl rfl (cell_two_new _ _ _ _) (by simp [Value.oneCell']) (by omega) (by omega) (by simp; omega) ?_; intro v' w1 hown' hgrow _; obtain ⟨g', cap', rfl⟩ := ownsRow_succ hown'; obtain ⟨hv1, hv2, hr2, hk2, hb2⟩ := hv.appended (by decide) hrow hB.size (Nat.le_refl _) hown' hgrow; have hc1 := hv1.cell; have hf1 := hv1.frozen)
    exact ⟨hk2.from _, ⟨hk2.size, fun k o h hw => hk2.same k o h (Obj.not_cells_of_walk hw)⟩, ⟨_, hv2, by rw [keyCells_snoc]; simpa using hr2⟩, hB.trans hb2⟩
  case done =>
    rintro D ys W hD hS ⟨⟨v, hv, hrow, -⟩, hB⟩ hK
    have hc := hv.cell
    gi_wp2
    refine ⟨by simp, .inl ⟨_, _, rfl, run_takeDeferred hK, ?_⟩⟩
    exact ⟨_, results_tmp rfl _ _ _, v, ys, rfl, hS, ownsRow_putObj hrow _ hK rfl, hB.trans (belowK_b (w := w) (Nat.le_refl _) W D _ _ (by omega) hK rfl rfl)⟩
  case stop =>
    rintro D c pre W _ _ h _
    exact h.elim
end Go.Proofs.YtkkfmkhbdoeglaaGreatDoor

/- The contracts of slices.SortFunc at keys and of slices.SortedFunc over a map's keys: sorted keys. No condition. -/
namespace Go.Proofs.YtkkfmkhbdoeglaaGreatDoor
open Go.RowKit Go.Shelf Go.Sort
attribute [local go_sem] Oper.semAt_some

def encK (k : K) : List Value := [.int .i64 k.1, .string ⟨k.2.toArray⟩]
theorem cmpK_lt (a b : K) : ltOf cmpK a b = ltK a b := by
  unfold ltOf ltK
  unfold cmpK cmpI cmpL
  rcases Int.lt_trichotomy a.1 b.1 with h | h | h
  · simp [h]
  · have h1 : ¬ a.1 < b.1 := by omega
    have h2 : ¬ b.1 < a.1 := by omega
    by_cases h3 : a.2 < b.2
    · simp [h, h3]
    · by_cases h4 : b.2 < a.2
      · simp [h, h3, h4]
      · simp [h, h3, h4]
  · have h1 : ¬ a.1 < b.1 := by omega
    have h2 : ¬ a.1 = b.1 := by omega
    simp [h, h1, h2]
theorem cmpK_swo : SWO (ltOf cmpK) where
  irrefl x := by rw [cmpK_lt]; exact ltK_irrefl x
  trans x y z h1 h2 := by rw [cmpK_lt] at *; exact ltK_trans h1 h2
  ntrans x y z h1 h2 := by
    rw [cmpK_lt] at *
    cases h : ltK x z with
    | false => rfl
    | true =>
      rcases ltK_tri y x with e | e | e
      · rw [ltK_trans e h] at h2; cases h2
      · subst e; rw [h] at h2; cases h2
      · rw [e] at h1; cases h1
theorem cmpK_part (x y : K) (h1 : ltOf cmpK x y = false) (h2 : ltOf cmpK y x = false) : x = y := by
  rw [cmpK_lt] at *
  rcases ltK_tri x y with e | e | e
  · rw [e] at h1; cases h1
  · exact e
  · rw [e] at h2; cases h2
theorem keyCells_length (l : List K) : (keyCells l).length = l.length * 2 := by
  induction l with
  | nil => rfl
  | cons k l ih => simp [keyCells] at ih ⊢; omega
theorem keyCells_at : ∀ (l : List K) (t : Nat), t < l.length * 2 → (keyCells l)[t]? = some ((encK l.toArray[t / 2]!)[t % 2]!)
  | [], t, h => by simp at h
  | k :: l, 0, _ => by simp [keyCells, encK]
  | k :: l, 1, _ => by simp [keyCells, encK]
  | k :: l, t + 2, h => by
    have ih := keyCells_at l t (by simp at h; omega)
    have e : keyCells (k :: l) = .int .i64 k.1 :: .string ⟨k.2.toArray⟩ :: keyCells l := rfl
    rw [e, show (t + 2) / 2 = t / 2 + 1 by omega, show (t + 2) % 2 = t % 2 by omega]
    simp only [List.getElem?_cons_succ, ih]
    simp
theorem flatK_at (l : List K) (t : Nat) (h : t < l.length * 2) : (keyCells l)[t]? = some (flatK encK 2 l.toArray)[t]! := by
  rw [keyCells_at l t h, get_flatK encK 2 l.toArray t (by simpa using h)]
theorem sortWorld_other {α : Type} [Inhabited α] (enc : α → List Value) (k : Nat) (w : World) (blk off m : Nat) (d : Array α) (os : Array Obj) {i : Nat} (h1 : i < w.heap.size) (h2 : i ≠ blk) : (sortWorldK enc k w blk off m d os).heap[i]? = w.heap[i]? := by
  unfold sortWorldK putRowK putRow mapBlock grow Sort.ahead
  simp only
  rw [Array.getElem?_append_left (by simpa using h1)]
  simp [Array.getElem?_modify, Ne.symm h2]
theorem sortWorld_below {α : Type} [Inhabited α] (enc : α → List Value) (k : Nat) (w : World) (blk off m base : Nat) (d : Array α) (os : Array Obj) (h : base ≤ blk) (hb : base ≤ w.heap.size) : Below base w (sortWorldK enc k w blk off m d os) :=
  ⟨rfl, rfl, rfl, size_sortWorldK_c enc k w blk off m d os, fun i hi => sortWorld_other enc k w blk off m d os (by omega) (by omega)⟩
theorem sortWorld_same {α : Type} [Inhabited α] (enc : α → List Value) (k : Nat) (w : World) (blk off m : Nat) (d : Array α) (os : Array Obj) {cs : Array Value} {t : TypeId} {fz : Nat × Nat} (h : w.heap[blk]? = some (.cells cs t fz)) : ∃ cs', (sortWorldK enc k w blk off m d os).heap[blk]? = some (.cells cs' t fz) := by
  have h1 := block_lt h
  refine ⟨putCells id off (flatK enc k d) cs, ?_⟩
  unfold sortWorldK putRowK putRow mapBlock grow Sort.ahead
  simp only
  rw [Array.getElem?_append_left (by simpa using h1)]
  simp [Array.getElem?_modify, h, onCells]
/-- a slice of keys: those of S, in their order -/
def KeysAt (w : World) (v : Value) (l : List K) : Prop := SliceAt w v 2 l.length (keyCells l) ∧ ∀ g, v.ownBlock = some g → ∃ cs fz, w.heap[g]? = some (.cells cs 94 fz)
def sortK (l : List K) : List K := l.mergeSort fun x y => !(ltOf cmpK) y x
theorem sortK_perm (l : List K) : (sortK l).Perm l := List.mergeSort_perm _ _
theorem sortK_eq {l : List K} {S : List E} (hs : SortedE S) (hp : l.Perm (S.map (·.1))) : sortK l = S.map (·.1) := by
  have h1 : (sortK l).Pairwise fun x y => (!(ltOf cmpK) y x) = true := by
    refine List.pairwise_mergeSort (fun a b c h1 h2 => ?_) (fun a b => ?_) l
    · simp only [Bool.not_eq_true'] at *
      exact cmpK_swo.ntrans _ _ _ h2 h1
    · rw [cmpK_lt, cmpK_lt]
      cases h : ltK a b with
      | true => rw [ltK_asymm h]; rfl
      | false => simp
  have h2 : (S.map (·.1)).Pairwise fun x y => (!(ltOf cmpK) y x) = true := by
    refine List.pairwise_map.2 (List.Pairwise.imp (fun {a b} h => ?_) hs)
    rw [cmpK_lt, ltK_asymm h]
    rfl
  refine List.Perm.eq_of_pairwise (fun a b _ _ ha hb => ?_) h1 h2 ((sortK_perm l).trans hp)
  simp only [Bool.not_eq_true'] at ha hb
  exact cmpK_part a b hb ha
set_option maxRecDepth 100000 in
theorem sortKeys_any (xs : List K) (v : Value) (base : Nat) (w : World) (hr : w.ownsRow base 94 2 v xs.length (keyCells xs)) (hbase : base ≤ w.heap.size) (hx : xs.length ≤ 1000000000) :
    Calls Tryz.prog 130 #[v, .func (.func 93) #[] #[]] w fun e w' => e = .returned (.tuple #[]) ∧ KeysAt w' v (sortK xs) ∧ Below base w w' := by
  obtain ⟨hl, ⟨rfl, h0⟩ | ⟨g, cap, cur, rfl, hg, hgb, hn, hc, hcs, htk⟩⟩ := hr
  · obtain rfl : xs = [] := List.eq_nil_of_length_eq_zero h0
    have h := AnyF.slices_SortFunc_none sortF none 0 (.func (.func 93) #[] #[]) w
    refine Calls.mono (P := Tryz.prog) h ?_
    rintro e w' ⟨rfl, rfl⟩
    exact ⟨rfl, ⟨by have := SliceAt.nil w' none 2 0; simpa [sortK, keyCells] using this, fun g hg => by simp [Value.ownBlock] at hg⟩, Below.refl _ _⟩
  · have hglt := block_lt hgb
    have hH : HoldsK encK 2 w g 0 xs.toArray := by
      intro j hj
      have hj' : j < xs.length * 2 := by simpa using hj
      have hk := flatK_at xs j hj'
      have : cur.toList[j]? = some (flatK encK 2 xs.toArray)[j]! := by
        rw [← hk, ← htk, List.getElem?_take_of_lt hj']
      rw [Nat.zero_add]
      exact ⟨by rw [cell_of_row w g j cur _ _ hgb, ← Array.getElem?_toList, this]; rfl, frozen_of_row w g j _ _ hgb⟩
    have eg : ∀ args w, (callFunc 93 args).run Tryz.prog w = .ok (.enter 93 args) w := enters_of Tryz.func93 (by kernel_rfl) rfl
    have hcmp : CmpLays Tryz.prog 93 #[] encK 2 cmpK g 0 xs.toArray.size w := by
      intro m os dk hdk x y
      exact order_any x y _
    have h := AnyQ.slices_SortFunc_total sortF 2 Tryz.isAgg94 Tryz.sizeOf94 encK (fun _ => rfl) (fun x v hv => by simp [encK] at hv; rcases hv with rfl | rfl <;> rfl) cmpK cmpK_swo 93 #[] g 0 cap xs.toArray w eg hcmp hH hglt (by simp; omega) cmpK_part
    rw [show xs.toArray.size = xs.length by simp] at h
    refine Calls.mono (P := Tryz.prog) h ?_
    rintro e w' ⟨rfl, q, os, rfl⟩
    have hpl := (sortK_perm xs).length_eq
    have hk2 := holdsK_sortWorldK_c encK 2 w g 0 xs.toArray (sortK xs).toArray q os hH hglt (by simpa using hpl)
    refine ⟨rfl, ⟨⟨by rw [keyCells_length], _, cap, by rw [hpl], by omega, fun i hi => ⟨g, 0, rfl, ?_⟩⟩, fun g' hg' => by cases hg'; obtain ⟨cs, h⟩ := sortWorld_same encK 2 w g 0 q (sortK xs).toArray os hgb; exact ⟨cs, _, h⟩⟩, sortWorld_below encK 2 w g 0 q base _ os hg hbase⟩
    rw [keyCells_length] at hi
    have h3 := (hk2 i (by simpa using hi)).1
    have h4 := flatK_at (sortK xs) i hi
    refine h3.trans ?_
    rw [List.getElem?_eq_getElem (by rw [keyCells_length]; exact hi)] at h4
    exact h4.symm
set_option maxRecDepth 100000 in
theorem collect_any (gf : Nat) (lb : Array Value) (eg : ∀ args w, (callFunc gf args).run Tryz.prog w = .ok (.enter gf args) w)
    (Sx Sp : List K → Prop) (N : Nat) (hN : N ≤ 1000000000) (w : World) (hseq : ∀ n, 1 ≤ n → SeqStopsA Fence.wide n Tryz.prog gf lb (fun k : K => #[kV k]) Sx Sp N w) (hSx : ∀ xs, Sx xs → xs.length ≤ N) :
    Calls Tryz.prog 129 #[.func (.func gf) #[] lb] w fun e W' => ∃ v xs, e = .returned v ∧ Sx xs ∧ W'.ownsRow w.heap.size 94 2 v xs.length (keyCells xs) ∧ Below w.heap.size w W' := by
  have HA := Lib.hid (callsIn_wide.1 (appendSeq_any Fence.wide 3 trivial rfl (Nat.le_refl _) gf lb trivial eg Sx Sp N hN w (hseq 2 (by omega)) hSx))
  clear hseq hSx eg
  go_enter Tryz.func129, Tryz.ntmps129
  go_wp2_with fail
  refine HA.out.mono ?_
  rintro e w1 ⟨v, xs, rfl, hS, hr, hb⟩
  have HR := Lib.hid hr
  have HS := Lib.hid hS
  clear hr hS
  go_wp2
  go_ret
  exact ⟨v, xs, rfl, HS.out, HR.out, hb⟩
set_option maxRecDepth 100000 in
theorem sortedKeys_any (Bm b : Nat) (S : List E) (w : World) (hBm : Bm < w.heap.size) (hm : w.cell? ⟨Bm, 0, none⟩ = some (.map (some b))) (ht : TabAt w b S) (hS : S.length ≤ 1000000000) :
    Calls Tryz.prog 91 #[.func (.func 131) #[] #[.pointer (some ⟨Bm, 0, none⟩)], .func (.func 93) #[] #[]] w fun e w' =>
      ∃ v, e = .returned v ∧ KeysAt w' v (S.map (·.1)) ∧ Below w.heap.size w w' := by
  have HC := Lib.hid (collect_any 131 #[.pointer (some ⟨Bm, 0, none⟩)] (enters_of Tryz.func131 (by kernel_rfl) rfl)
    (fun xs => xs.Perm (S.map (·.1))) (fun _ => True) S.length hS w (fun n hn => keys_stops Fence.wide n trivial rfl hn Bm b S w hBm hm ht) (fun xs h => by rw [h.length_eq, List.length_map]; exact Nat.le_refl _))
  have HSO := Lib.hid ht.sorted
  clear ht hm
  go_enter Tryz.func91, Tryz.ntmps91
  go_wp2_with fail
  refine HC.out.mono ?_
  rintro e w1 ⟨v, xs, rfl, hp, hr, hb⟩
  have hln : xs.length = S.length := by rw [hp.length_eq, List.length_map]
  have hsk := sortK_eq HSO.out hp
  have hsz := hb.size
  have HSR := Lib.hid (sortKeys_any xs v w.heap.size w1 hr hsz (by omega))
  rw [hsk] at HSR
  clear hr hp hln hsk
  go_wp2_with fail
  refine HSR.out.mono ?_
  rintro e w2 ⟨rfl, hsl, hb2⟩
  have HSL := Lib.hid hsl
  clear hsl
  go_wp2
  go_ret
  exact ⟨v, rfl, HSL.out, hb.trans hb2⟩
end Go.Proofs.YtkkfmkhbdoeglaaGreatDoor

/- A region that draws the order of its first operations, which only read, and then goes on one by one: the law inside the wide fence. No program. No condition. -/
namespace Go.Proofs.YtkkfmkhbdoeglaaGreatDoor
open Go.RowKit
section
variable {P : Program} {ops : Array Oper} {md : Region.Mode} {w : World} {nF : Nat}
theorem wpOpIn_of_stOp {F : Fence} (hd : F.depth = none) (hfn : ∀ f, F.fn f) (hc : ∀ f args w R, Calls P f args w R → CallsIn F (nF - 1) P f args w R) (hS : ∀ (i : Nat) o, ops[i]? = some o → ∀ a : Act, o.semAt F.round a.eval = execOp a.eval o)
    {i : Nat} {a : Act} {K : Act → Prop} {K' : Act → World → Prop} {Q' : Exit → Act → World → Prop} (h : ∀ a, K a → K' a w) (hh : stOp P ops w i K a) : wpOpIn F nF P ops Q' i K' a w := by
  unfold stOp at hh
  unfold wpOpIn
  split
  · exact h _ (by simpa [*] using hh)
  · rename_i o ho
    simp only [ho] at hh
    split
    · rename_i hw
      simp only [hw, if_true] at hh
      unfold Oper.still at hh
      unfold Oper.wpIn
      refine ⟨fun f _ => hfn f, ?_⟩
      rw [hS i o ho a]
      generalize (execOp a.eval o).run P w = r at hh
      cases r with
      | ok x w' =>
        cases x <;> simp only [Oper.stillUpon] at hh <;> simp only [Oper.uponIn]
        case enter f args =>
          obtain ⟨rfl, v, hcl, hn⟩ := hh
          refine ⟨fun h => by simp [hd] at h, hc _ _ _ _ (hcl.mono fun e w'' ⟨he, hw⟩ => ?_)⟩
          subst he
          subst hw
          exact h _ hn
        all_goals (obtain ⟨rfl, h2⟩ := hh; exact h _ h2)
      | halt x w' => simp only [Oper.stillUpon] at hh
    · rename_i hw
      simp only [hw] at hh
      exact ⟨fun f _ => hfn f, h _ hh⟩
theorem wpAnyIn_of_head {F : Fence} (hd : F.depth = none) (hfn : ∀ f, F.fn f) (hc : ∀ f args w R, Calls P f args w R → CallsIn F (nF - 1) P f args w R) (hS : ∀ (i : Nat) o, ops[i]? = some o → ∀ a : Act, o.semAt F.round a.eval = execOp a.eval o)
    {n g : Nat} {L : Array Bool → Act → Prop} {Q' : Exit → Act → World → Prop} (hL : ∀ listed a, L listed a → wpAnyIn F nF P md ops Q' g listed a w) :
    ∀ (f : Nat) (listed : Array Bool) (a : Act), wpAnyL P md ops w n L f listed a → wpAnyIn F nF P md ops Q' (f + g) listed a w
  | 0, listed, a, h => by rw [Nat.zero_add]; exact hL _ _ h
  | f + 1, listed, a, h => by
    rw [show f + 1 + g = (f + g) + 1 by omega]
    exact ⟨fun h0 => absurd h0 h.1, fun i hi => wpOpIn_of_stOp hd hfn hc hS (fun a' h' => wpAnyIn_of_head hd hfn hc hS hL f _ a' h') (h.2 i hi).2⟩
theorem wpAnyIn_of_seq {F : Fence} {Q' : Exit → Act → World → Prop} : ∀ (l : List Oper) (k : Nat) (listed : Array Bool) (a : Act) (w : World), (∀ j, l[j]? = ops[k + j]?) →
    Region.seqB md ops l.length k listed = true → wpListIn F nF P ops Q' l a w → wpAnyIn F nF P md ops Q' l.length listed a w
  | [], _, _, _, _, _, hB, h => ⟨by simpa [Region.seqB] using hB, h⟩
  | o :: l, k, listed, a, w, hl, hB, h => by
    have h0 : ops[k]? = some o := by simpa using (hl 0).symm
    simp only [List.length_cons, Region.seqB, Bool.and_eq_true, decide_eq_true_eq] at hB
    refine ⟨fun h1 => (by rw [hB.1] at h1; cases h1), fun i hi => ?_⟩
    rw [hB.1] at hi
    have hik : i = k := by simpa using hi
    subst hik
    have hw : wpOpIn F nF P ops Q' i (wpListIn F nF P ops Q' l) a w := by unfold wpOpIn; simp only [h0]; exact h
    exact wpOpIn_mono (fun a' w' h' => wpAnyIn_of_seq l (i + 1) _ a' w' (fun j => by have := hl (j + 1); simpa [Nat.add_assoc, Nat.add_comm 1 j] using this) hB.2 h') hw
theorem wpIn_region_still_tailF {F : Fence} (hd : F.depth = none) (hfn : ∀ f, F.fn f) (hc : ∀ f args w R, Calls P f args w R → CallsIn F (nF - 1) P f args w R)
    {id : Nat} {Q : Exit → Act → World → Prop} {a : Act} {w : World} {l : List Oper} (n : Nat) (hm : P.follows .mixedOrders = true) (hS : ∀ (i : Nat) o, l.toArray[i]? = some o → ∀ a : Act, o.semAt F.round a.eval = execOp a.eval o) (hB : Region.lexTailB .any l.toArray n = true)
    (h : wpStill P l.toArray { w with drawn := w.drawn + 1 } (fun a' => wpListIn F nF P l.toArray Q (l.drop n) a' { w with drawn := w.drawn + 1 }) (l.take n) a) : (Code.region id l.toArray true).wpIn F nF P Q a w := by
  simp only [Region.lexTailB, Bool.and_eq_true, decide_eq_true_eq] at hB
  obtain ⟨⟨⟨⟨hsel, hn⟩, hs⟩, hcc⟩, hlex⟩ := hB
  have hn' : n < l.length := by simpa using hn
  have htl : (l.take n).length = n := by simp; omega
  have hdl : (l.drop n).length = l.toArray.size - n := by simp
  have inv0 : HeadInv .any l.toArray n (Array.replicate l.toArray.size false) :=
    ⟨by simp, fun j oj _ hl => (by rw [getD_replicate_false] at hl; cases hl), fun t _ ht => getD_in (by simpa using ht) (getD_replicate_false _ _)⟩
  have H := wpAnyL_lex (md := .any) (g := l.toArray.size - n) hsel hs hcc hn (l.take n) 0 _ a (fun j hj => by
    have hj' : j < n := by rw [htl] at hj; exact hj
    simp [hj']) (by simpa using htl) inv0 (by rw [htl]; exact hlex) h
  refine wpIn_region_any hm ?_
  have := wpAnyIn_of_head (nF := nF) (Q' := Q) (g := l.toArray.size - n) hd hfn hc hS (fun listed a' hL => by
    have := wpAnyIn_of_seq (nF := nF) (md := .any) (F := F) (Q' := Q) (l.drop n) n listed a' { w with drawn := w.drawn + 1 } (fun j => by simp [List.getElem?_drop]) (by rw [hdl]; exact hL.1) hL.2
    rwa [hdl] at this) _ _ _ H
  rw [htl, show n + (l.toArray.size - n) = l.toArray.size by omega] at this
  exact this
theorem wpIn_region_still_tail {id : Nat} {Q : Exit → Act → World → Prop} {a : Act} {w : World} {l : List Oper} (n : Nat) (hm : P.follows .mixedOrders = true) (hB : Region.lexTailB .any l.toArray n = true)
    (h : wpStill P l.toArray { w with drawn := w.drawn + 1 } (fun a' => wpListIn Fence.wide nF P l.toArray Q (l.drop n) a' { w with drawn := w.drawn + 1 }) (l.take n) a) : (Code.region id l.toArray true).wpIn Fence.wide nF P Q a w :=
  wpIn_region_still_tailF rfl (fun _ => trivial) (fun _ _ _ _ h => callsIn_wide.2 h) n hm (fun _ _ _ _ => rfl) hB h
/-- no operation of a region is a defer statement -/
def noDefer (l : List Oper) : Bool := l.all fun o => match o.op with
  | .defer _ => false
  | _ => true
/-- the same in a round -/
theorem wpIn_region_still_tailR {id r : Nat} {Q : Exit → Act → World → Prop} {a : Act} {w : World} {l : List Oper} (n : Nat) (hm : P.follows .mixedOrders = true) (hD : noDefer l = true) (hB : Region.lexTailB .any l.toArray n = true)
    (h : wpStill P l.toArray { w with drawn := w.drawn + 1 } (fun a' => wpListIn (Fence.wide.inRound r) nF P l.toArray Q (l.drop n) a' { w with drawn := w.drawn + 1 }) (l.take n) a) : (Code.region id l.toArray true).wpIn (Fence.wide.inRound r) nF P Q a w :=
  wpIn_region_still_tailF rfl (fun _ => trivial) (fun _ _ _ _ h => CallsIn.inRound r (callsIn_wide.2 h)) n hm (fun i o ho a => Oper.semAt_eq _ _ o (fun c hc => by
    have h1 : o ∈ l := by
      rw [List.getElem?_toArray] at ho
      exact List.mem_of_getElem? ho
    have h2 := List.all_eq_true.1 hD o h1
    rw [hc] at h2
    cases h2)) hB h
end
end Go.Proofs.YtkkfmkhbdoeglaaGreatDoor
