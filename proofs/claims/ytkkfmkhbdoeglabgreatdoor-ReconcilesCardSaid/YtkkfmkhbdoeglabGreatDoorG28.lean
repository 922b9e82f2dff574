/- A part of what is proved here: lemmas and contracts of single functions. No condition but those that each names. -/
import Derived.Test.YtkkfmkhbdoeglabGreatDoorG10
import Derived.Test.YtkkfmkhbdoeglabGreatDoorG12
import Derived.Test.YtkkfmkhbdoeglabGreatDoorG21
import Derived.Test.YtkkfmkhbdoeglabGreatDoorG27
namespace Go.Proofs.YtkkfmkhbdoeglabGreatDoor
open Go.RowKit
theorem filter_snoc' (q : E → Bool) (p : List E) (x : E) : (p ++ [x]).filter q = p.filter q ++ (if q x then [x] else []) := by
  rw [List.filter_append, List.filter_cons]
  cases q x <;> rfl
theorem countS_take (t : Int) (l : List E) (k : Nat) (h : k < l.length) : countS t (l.take (k + 1)) = countS t (l.take k) + if l[k].1.1 = t then 1 else 0 := by
  unfold countS
  rw [List.take_succ_eq_append_getElem h, List.countP_append, List.countP_cons, List.countP_nil]
  simp
theorem refCount_any (v : Value) (l : List E) (t : Int) (w : World) (h : EntsAt w v l) (hl : l.length ≤ 1000000000) :
    Calls Tryz.prog 56 #[v, .int .i64 t] w fun e w' => e = .returned (.int .i64 (countS t l : Nat)) ∧ Below w.heap.size w w' := by
  obtain ⟨a, cap, rfl, -, hx⟩ := h.opened
  have HX := Lib.hid hx
  clear hx h
  go_enter Tryz.func56, Tryz.ntmps56
  go_wp2
  go_loopw [5, 6] (fun n i wr => ∃ k : Nat, k ≤ l.length ∧ n = .int .i64 (countS t (l.take k) : Nat) ∧ i = .int .i64 k ∧ ∃ q, wr = w.drewN q) (fun _ i _ => l.length - (intOf i).toNat)
  case atStart => exact ⟨0, Nat.zero_le _, rfl, rfl, 0, rfl⟩
  case round =>
    obtain ⟨k, hk, rfl, rfl, q, rfl⟩ := hrel
    by_cases hlt : k < l.length
    · have hlt' : (k : Int) < l.length := by omega
      obtain ⟨b1, o1, rfl, c0, c1, c2⟩ := HX.out k hlt
      have HC := Lib.hid (countS_take t l k hlt)
      have hc : countS t (l.take k) ≤ k := by
        have := List.countP_le_length (p := fun x : E => decide (x.1.1 = t)) (l := l.take k)
        rw [List.length_take] at this
        unfold countS
        omega
      by_cases ht : l[k].1.1 = t
      · have HC2 : Hid (countS t (l.take (k + 1)) = countS t (l.take k) + 1) := Lib.hid (by rw [HC.out, if_pos ht])
        go_wp2
        exact ⟨⟨k + 1, by omega, by rw [HC2.out]; rfl, rfl, _, rfl⟩, by simp [intOf]; omega⟩
      · have HC2 : Hid (countS t (l.take (k + 1)) = countS t (l.take k)) := Lib.hid (by rw [HC.out, if_neg ht]; rfl)
        go_wp2
        exact ⟨⟨k + 1, by omega, by rw [HC2.out], rfl, _, rfl⟩, by simp [intOf]; omega⟩
    · obtain rfl : k = l.length := by omega
      have hge : ¬ (l.length : Int) < l.length := by omega
      rw [List.take_length]
      go_wp2
      go_ret
      exact ⟨rfl, (Below.refl _ w).drewN q⟩
theorem find_at {l : List E} {p : E → Bool} {k : Nat} (h : k < l.length) (hn : ∀ x ∈ l.take k, p x = false) (hk : p l[k] = true) : l.find? p = some l[k] := by
  have e : l = l.take k ++ l[k] :: l.drop (k + 1) := by rw [← List.drop_eq_getElem_cons h, List.take_append_drop]
  have h1 : (l.take k).find? p = none := List.find?_eq_none.2 (fun x hx => by rw [hn x hx]; decide)
  have h2 : (l[k] :: l.drop (k + 1)).find? p = some l[k] := by rw [List.find?_cons, hk]
  generalize l[k] = y at *
  rw [e, List.find?_append, h1, h2]
  rfl
theorem none_next {l : List E} {p : E → Bool} {k : Nat} (h : k < l.length) (hn : ∀ x ∈ l.take k, p x = false) (hk : p l[k] = false) : ∀ x ∈ l.take (k + 1), p x = false := by
  intro x hx
  rw [List.take_succ_eq_append_getElem h, List.mem_append] at hx
  rcases hx with hx | hx
  · exact hn x hx
  · rw [List.mem_singleton] at hx
    rw [hx]
    exact hk
set_option maxRecDepth 100000 in
set_option maxHeartbeats 1000000 in
theorem lawSameEntries_true (sv tv : Value) (l : List E) (w : World) (h1 : EntsAt w sv l) (h2 : EntsAt w tv l) (hl : l.length ≤ 1000000000) :
    Calls Tryz.prog 19 #[sv, tv] w fun e w' => e = .returned (.bool true) ∧ Below w.heap.size w w' := by
  obtain ⟨a, cap, rfl, -, hx⟩ := h1.opened
  obtain ⟨b, cap2, rfl, -, hy⟩ := h2.opened
  have HX := Lib.hid hx
  have HY := Lib.hid hy
  clear hx hy h1 h2
  go_enter Tryz.func19, Tryz.ntmps19
  go_wp2
  go_loopw [5] (fun i wr => ∃ k : Nat, k ≤ l.length ∧ i = .int .i64 k ∧ ∃ q, wr = w.drewN q) (fun i _ => l.length - (intOf i).toNat)
  case atStart => exact ⟨0, Nat.zero_le _, rfl, 0, rfl⟩
  case round =>
    obtain ⟨k, hk, rfl, q, rfl⟩ := hrel
    by_cases hlt : k < l.length
    · have hlt' : (k : Int) < l.length := by omega
      obtain ⟨b1, o1, rfl, c0, c1, c2⟩ := HX.out k hlt
      obtain ⟨b2, o2, rfl, d0, d1, d2⟩ := HY.out k hlt
      generalize l[k] = o at *
      obtain ⟨⟨T, KB⟩, VB⟩ := o
      go_wp2
      go_quiet (fail)
      go_wp2
      exact ⟨⟨k + 1, by omega, by go_num, _, rfl⟩, by simp [intOf]; omega⟩
    · obtain rfl : k = l.length := by omega
      have hge : ¬ (l.length : Int) < l.length := by omega
      go_wp2
      go_ret
      exact ⟨rfl, (Below.refl _ w).drewN q⟩
end Go.Proofs.YtkkfmkhbdoeglabGreatDoor
namespace Go.Proofs.YtkkfmkhbdoeglabGreatDoor
open Go.RowKit
set_option maxRecDepth 100000 in
set_option maxHeartbeats 1000000 in
theorem count_any (q off r : Nat) (S : List E) (t : Int) (w : World) (he : EntAt w q off r S) (hl : S.length ≤ 1000000000) :
    Calls Tryz.prog 147 #[.pointer (some ⟨q, off, none⟩), .int .i64 t] w fun e w' => e = .returned (.int .i64 (countS t S : Nat)) ∧ Below w.heap.size w w' := by
  have hc := he.cell
  obtain ⟨hso, L, hmap, hp⟩ := he.tab
  have HP := Lib.hid hp
  have HN := Lib.hid hso.nodup
  clear he hso hp
  go_enter Tryz.func147, Tryz.ntmps147
  go_wp2_with (first | (refine wpList_range_at rfl _ rfl Tryz.underlying162 rfl hmap ?_; intro w0 hrg0 hb0 hs0) | fail)
  try go_frame
  go_loopw [5] (fun n wr => ∃ l : List E, RangeAt wr r w.heap.size L (l.map zS) ∧ n = .int .i64 (countS t l : Nat) ∧ Below w.heap.size w wr) (fun _ wr => wr.rangeLeft r w.heap.size)
  case atStart => exact ⟨[], hrg0, rfl, hb0⟩
  case round =>
    obtain ⟨l, hrg, rfl, hbr⟩ := hrel
    go_wp2_with (first | (refine wpList_next_at rfl _ rfl rfl hrg ?_ ?_) | fail)
    · intro hpm
      have HPE := Lib.hid (countS_perm t (perm_zS (nodup_zS hrg.sub.2.2) HN.out (hpm.trans HP.out)))
      go_wp2
      go_ret
      exact ⟨by rw [HPE.out]; rfl, hbr⟩
    · intro kt kb v w2 hx hxn hrg2 hg2 hs2 hen hrq
      obtain ⟨⟨k', vb⟩, hxS, e⟩ := List.mem_map.1 (HP.out.mem_iff.1 hx)
      cases e
      have hrg3 : RangeAt w2 r w.heap.size L ((l ++ [((kt, kb), vb)]).map zS) := by rw [List.map_append]; exact hrg2
      have hnd := nodup_zS hrg3.sub.2.2
      have hcl : countS t l ≤ 1000000000 := by
        have h1 : countS t l ≤ l.length := List.countP_le_length
        have h2 : l.length ≤ S.length := length_sub (nodup_zS hrg.sub.2.2) (fun y hy => mem_zS (HP.out.mem_iff.1 (hrg.sub.1 _ (List.mem_map.2 ⟨y, hy, rfl⟩))))
        omega
      have HSN := Lib.hid (countS_snoc t l ((kt, kb), vb))
      have HR3 := Lib.hid hrg3
      have hsw := hbr.size
      have hb2 : Below w.heap.size w w2 := hbr.grown hg2 hbr.size (fun j e => by cases e; exact Nat.le_refl _)
      have HRG := Lib.hid hrg
      clear hrg2 hrg3 hx hxn hxS hrg hnd
      unfold strV at hen
      by_cases ht : kt = t
      · subst ht
        have HS2 : Hid (countS kt (l ++ [((kt, kb), vb)]) = countS kt l + 1) := Lib.hid (by rw [HSN.out, if_pos rfl])
        go_wp2
        have hal : Below w2.heap.size w2 (w2.alloc (.cells #[.int .i64 kt, .string ⟨kb.toArray⟩] 103)) := (Below.refl _ w2).alloc (Nat.le_refl _) _
        have hR4 := HR3.out.frame (hal.block _ HR3.out.lt.1) (hal.block _ HR3.out.lt.2)
        have hl4 := hR4.left
        have hl0 := HRG.out.left
        simp only [List.length_map, List.length_append, List.length_cons, List.length_nil] at hl4 hl0
        exact ⟨⟨_, hR4, by rw [HS2.out]; rfl, hb2.trans (hal.mono hb2.size)⟩, by omega⟩
      · have HS2 : Hid (countS t (l ++ [((kt, kb), vb)]) = countS t l) := Lib.hid (by rw [HSN.out, if_neg ht]; rfl)
        go_wp2
        have hal : Below w2.heap.size w2 (w2.alloc (.cells #[.int .i64 kt, .string ⟨kb.toArray⟩] 103)) := (Below.refl _ w2).alloc (Nat.le_refl _) _
        have hR4 := HR3.out.frame (hal.block _ HR3.out.lt.1) (hal.block _ HR3.out.lt.2)
        have hl4 := hR4.left
        have hl0 := HRG.out.left
        simp only [List.length_map, List.length_append, List.length_cons, List.length_nil] at hl4 hl0
        exact ⟨⟨_, hR4, by rw [HS2.out], hb2.trans (hal.mono hb2.size)⟩, by omega⟩
end Go.Proofs.YtkkfmkhbdoeglabGreatDoor
namespace Go.Proofs.YtkkfmkhbdoeglabGreatDoor
open Go.RowKit
def onlyR (l : List E) : List E := l.filter fun x => x.1.1 == 1
theorem getS_only (k : List UInt8) (l : List E) : getS (1, k) (onlyR l) = getS (1, k) l := by
  unfold getS onlyR
  rw [List.find?_filter]
  congr 2
  funext x
  cases h : ((1, k) == x.1) with
  | true =>
    have e : (1, k) = x.1 := beq_iff_eq.1 h
    rw [← e]; rfl
  | false => simp
theorem routeN_only (A : Nat) (l : List E) : ∀ n, routeN A (onlyR l) n = routeN A l n
  | 0 => getS_only _ _
  | n + 1 => by
    unfold routeN
    rw [getS_only, routeN_only A l n]
theorem put_last {S : List E} {k : K} {v : List UInt8} (h : ∀ x ∈ S, ltK x.1 k = true) : putS k v S = S ++ [(k, v)] := by
  unfold putS
  rw [List.filter_eq_self.2 h, List.filter_eq_nil_iff.2 (fun x hx => by rw [ltK_asymm (h x hx)]; decide)]
theorem LongInv.next {A : Nat} {l : List E} {k : Nat} {best : Int} {value : List UInt8} {a b c d e : UInt8} {v : List UInt8} (hs : SortedE l) (hk : k < l.length) (hx : l[k] = ((1, [a, b, c, d, e]), v)) (h : LongInv A (onlyR (l.take k)) best value) (hA : A < 4294967296) (h32 : e.toNat ≤ 32) (hkey : [a, b, c, d, e] = keyA (be32 a b c d) e.toNat) (_hN : be32 a b c d < 4294967296) :
    LongInv A (onlyR (l.take (k + 1))) (if cutN A e.toNat = be32 a b c d ∧ best < e.toNat then (e.toNat : Int) else best) (if cutN A e.toNat = be32 a b c d ∧ best < e.toNat then v else value) := by
  have hlt : ∀ x ∈ onlyR (l.take k), ltK x.1 l[k].1 = true := by
    intro x hx
    have ht : l.take (k + 1) = l.take k ++ [l[k]] := List.take_succ_eq_append_getElem hk
    have hs' : SortedE (l.take k ++ [l[k]]) := by rw [← ht]; exact hs.sublist (List.take_sublist _ _)
    exact (List.pairwise_append.1 hs').2.2 x (List.mem_filter.1 hx).1 _ (by simp)
  have e1 : onlyR (l.take (k + 1)) = onlyR (l.take k) ++ [l[k]] := by
    unfold onlyR
    rw [List.take_succ_eq_append_getElem hk, filter_snoc', hx]
    rfl
  rw [e1]
  rw [hx] at hlt ⊢
  have h2 := h.step (v := v) hA h32 _hN (fun x hx' e => by
    have := hlt x hx'
    rw [e, ← hkey] at this
    exact ltK_ne this rfl)
  rw [← hkey, put_last hlt] at h2
  exact h2
/-- behind k rounds of Route -/
def RRouteRel (w : World) (A : Nat) (l : List E) (bv vv i : Value) (wr : World) : Prop :=
  ∃ k, k ≤ l.length ∧ i = .int .i64 (k : Int) ∧ ∃ (best : Int) (value : List UInt8), bv = .int .i64 best ∧ vv = .string ⟨value.toArray⟩ ∧ LongInv A (onlyR (l.take k)) best value ∧ ∃ q, wr = w.drewN q
theorem LongInv.bounds {A : Nat} {S : List E} {best : Int} {value : List UInt8} (h : LongInv A S best value) : -1 ≤ best ∧ best ≤ 32 ∧ (best < 0 → value = []) := by
  obtain ⟨-, -, ⟨rfl, rfl, -⟩ | ⟨b, rfl, hb, -⟩⟩ := h
  · exact ⟨by omega, by omega, fun _ => rfl⟩
  · exact ⟨by omega, by omega, fun h => by omega⟩
theorem RRouteRel.done {A : Nat} {l : List E} {best : Int} {value : List UInt8} (h : LongInv A (onlyR l) best value) (hA : A < 4294967296) : routeV (routeN A l 32) = .tuple #[.string ⟨value.toArray⟩, .bool (decide (0 ≤ best))] := by
  have hb := h.bounds
  rw [← routeN_only, routeN_spec h hA 32 (by omega) (Nat.le_refl _)]
  by_cases h0 : best < 0
  · rw [if_pos h0, hb.2.2 h0, decide_eq_false (by omega)]
    rfl
  · rw [if_neg h0, decide_eq_true (by omega)]
    rfl
end Go.Proofs.YtkkfmkhbdoeglabGreatDoor
