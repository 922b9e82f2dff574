/- A part of what is proved here: lemmas and contracts of single functions. No condition but those that each names. -/
import Derived.Test.YtkkfmkhbdoeglabGreatDoorG21
import Derived.Test.YtkkfmkhbdoeglabGreatDoorG34
namespace Go.Proofs.YtkkfmkhbdoeglabGreatDoor
open Go.RowKit
/-- the cells of a host -/
structure HV where
  held : Value
  seen : Value
  late : Value
  left : Int
  fail : Int
  dead : Bool
  writes : Int
  r0 : Int
  r1 : Int
  r2 : Int
  r : Nat
  log : Value
def HV.cells (x : HV) : Array Value := #[x.held, x.seen, x.late, .int .i64 x.left, .int .i64 x.fail, .bool x.dead, .int .i64 x.writes, .int .i64 x.r0, .int .i64 x.r1, .int .i64 x.r2, .map (some x.r), x.log]
def HostIs (w : World) (h : Nat) (x : HV) : Prop := w.heap[h]? = some (.cells x.cells 125)
def HV.stop (x : HV) : HV := { x with left := if 0 < x.left then x.left - 1 else x.left, dead := x.dead || decide (x.left = 0) }
def HV.room (x : HV) : Nat → Int
  | 0 => x.r0
  | 1 => x.r1
  | _ => x.r2
theorem HostIs.old {w w' : World} {h : Nat} {x : HV} (hh : HostIs w h x) (hb : w'.heap[h]? = w.heap[h]?) : HostIs w' h x := hb.trans hh
theorem HostIs.lt {w : World} {h : Nat} {x : HV} (hh : HostIs w h x) : h < w.heap.size := block_lt hh
def strsV (l : List (List UInt8)) : List Value := l.map fun s => .string ⟨s.toArray⟩
theorem strsV_append (l m : List (List UInt8)) : strsV (l ++ m) = strsV l ++ strsV m := List.map_append
theorem strsV_length (l : List (List UInt8)) : (strsV l).length = l.length := List.length_map _
/-- block h is a host that as a datapath is d; what of its own memory turns lies from base on -/
structure DpAt (w : World) (base h : Nat) (x : HV) (d : DpS) : Prop where
  row : HostIs w h x
  left : x.left = d.left
  dead : x.dead = d.dead
  room : x.room = d.room
  tab : TabAt w x.r d.S
  own : OwnS w base 1 x.log d.log.length (strsV d.log)
  ltyp : CellsOf w x.log 9
  lo : base ≤ h ∧ base ≤ x.r
  lb : -1 ≤ d.left ∧ d.left ≤ 9223372036854775807
set_option maxRecDepth 100000 in
set_option maxHeartbeats 1000000 in
theorem stopped_any (h : Nat) (x : HV) (w : World) (hh : HostIs w h x) (lo : -1 ≤ x.left) (hi : x.left ≤ 9223372036854775807) :
    Calls Tryz.prog 101 #[.pointer (some ⟨h, 0, none⟩)] w fun e w' => e = .returned (.bool x.stop.dead) ∧ HostIs w' h x.stop ∧ w'.heap.size = w.heap.size ∧ Ext (fun i => i = h) w w' := by
  obtain ⟨a0, a1, a2, n, fl, b, wr, r0, r1, r2, r, lv⟩ := x
  unfold HV.stop
  unfold HostIs HV.cells at hh
  simp only at lo hi hh ⊢
  have HH := Lib.hid hh
  have c3 := cell_of_row _ _ 3 _ _ _ hh
  have c5 := cell_of_row _ _ 5 _ _ _ hh
  have f3 := frozen_of_row _ _ 3 _ _ hh
  have f5 := frozen_of_row _ _ 5 _ _ hh
  have hlt := block_lt hh
  have K1 : ∀ v : Value, Hid ((w.setCell ⟨h, 5, none⟩ v).heap[h]? = some (.cells #[a0, a1, a2, .int .i64 n, .int .i64 fl, v, .int .i64 wr, .int .i64 r0, .int .i64 r1, .int .i64 r2, .map (some r), lv] 125) ∧ (w.setCell ⟨h, 5, none⟩ v).heap.size = w.heap.size ∧ Ext (fun i => i = h) w (w.setCell ⟨h, 5, none⟩ v)) :=
    fun v => Lib.hid ⟨heap_setCell _ _ 5 v hh, size_setCell _ _ _, (Ext.refl _ w).setCell _ _ (.inl rfl)⟩
  have K2 : ∀ v u : Value, Hid (((w.setCell ⟨h, 5, none⟩ v).setCell ⟨h, 3, none⟩ u).heap[h]? = some (.cells #[a0, a1, a2, u, .int .i64 fl, v, .int .i64 wr, .int .i64 r0, .int .i64 r1, .int .i64 r2, .map (some r), lv] 125) ∧ ((w.setCell ⟨h, 5, none⟩ v).setCell ⟨h, 3, none⟩ u).heap.size = w.heap.size ∧ Ext (fun i => i = h) w ((w.setCell ⟨h, 5, none⟩ v).setCell ⟨h, 3, none⟩ u)) :=
    fun v u => Lib.hid ⟨heap_setCell _ _ 3 u (K1 v).out.1, (size_setCell _ _ _).trans (K1 v).out.2.1, (K1 v).out.2.2.setCell _ _ (.inl rfl)⟩
  clear hh
  go_enter Tryz.func101, Tryz.ntmps101
  cases b with
  | true =>
    rcases Int.lt_trichotomy n 0 with hn | hn | hn
    · rw [if_neg (by omega)]
      go_wp2
      go_ret
      obtain ⟨k1, k2, k3⟩ := (K1 (.bool true)).out
      exact ⟨rfl, k1, k2, k3⟩
    · subst hn
      go_wp2
      go_ret
      obtain ⟨k1, k2, k3⟩ := (K1 (.bool true)).out
      exact ⟨rfl, k1, k2, k3⟩
    · rw [if_pos hn]
      go_wp2
      go_ret
      obtain ⟨k1, k2, k3⟩ := (K2 (.bool true) (.int .i64 (n - 1))).out
      exact ⟨rfl, k1, k2, k3⟩
  | false =>
    rcases Int.lt_trichotomy n 0 with hn | hn | hn
    · have e : decide (n = 0) = false := by simp; omega
      have e' : (n == 0) = false := by simp; omega
      rw [if_neg (by omega), e]
      go_wp2
      go_ret
      obtain ⟨k1, k2, k3⟩ := (K1 (.bool false)).out
      exact ⟨rfl, k1, k2, k3⟩
    · subst hn
      go_wp2
      go_ret
      obtain ⟨k1, k2, k3⟩ := (K1 (.bool true)).out
      exact ⟨rfl, k1, k2, k3⟩
    · have e : decide (n = 0) = false := by simp; omega
      have e' : (n == 0) = false := by simp; omega
      rw [if_pos hn, e]
      go_wp2
      go_ret
      obtain ⟨k1, k2, k3⟩ := (K2 (.bool false) (.int .i64 (n - 1))).out
      exact ⟨rfl, k1, k2, k3⟩
set_option maxRecDepth 100000 in
set_option maxHeartbeats 1000000 in
theorem room_any (h : Nat) (x : HV) (t : Int) (w : World) (hh : HostIs w h x) :
    Calls Tryz.prog 103 #[.agg #[.pointer (some ⟨h, 0, none⟩)], .int .i64 t] w fun e w' => e = .returned (.int .i64 (if 0 ≤ t ∧ t < 3 then x.room t.toNat else 0)) ∧ Below w.heap.size w w' := by
  have hb0 : Below w.heap.size w (w.alloc (.cells #[.pointer (some ⟨h, 0, none⟩)] 116)) := (Below.refl _ w).alloc (Nat.le_refl _) _
  have R0 := heap_new w (.cells #[.pointer (some ⟨h, 0, none⟩)] 116)
  have rc := cell_of_row _ _ 0 _ _ _ R0
  have hlt := block_lt hh
  have H0 := hh.old (hb0.block h hlt)
  unfold HostIs HV.cells at H0
  have c7 := cell_of_row _ _ 7 _ _ _ H0
  have c8 := cell_of_row _ _ 8 _ _ _ H0
  have c9 := cell_of_row _ _ 9 _ _ _ H0
  have HB := Lib.hid hb0
  clear hh H0 R0 hb0
  go_enter Tryz.func103, Tryz.ntmps103
  by_cases h0 : t < 0
  · rw [if_neg (by omega)]
    go_wp2
    go_ret
    exact ⟨rfl, HB.out⟩
  · by_cases h3 : 3 ≤ t
    · rw [if_neg (by omega)]
      go_wp2
      go_ret
      exact ⟨rfl, HB.out⟩
    · rw [if_pos (by omega)]
      obtain rfl | rfl | rfl : t = 0 ∨ t = 1 ∨ t = 2 := by omega
      · go_wp2
        go_ret
        exact ⟨rfl, HB.out⟩
      · go_wp2
        go_ret
        exact ⟨rfl, HB.out⟩
      · go_wp2
        go_ret
        exact ⟨rfl, HB.out⟩
set_option maxRecDepth 100000 in
set_option maxHeartbeats 1000000 in
theorem countDp_any (h : Nat) (x : HV) (S : List E) (t : Int) (w : World) (hh : HostIs w h x) (ht : TabAt w x.r S) (hl : S.length ≤ 1000000000) :
    Calls Tryz.prog 102 #[.agg #[.pointer (some ⟨h, 0, none⟩)], .int .i64 t] w fun e w' => e = .returned (.int .i64 (countS t S : Nat)) ∧ Below w.heap.size w w' := by
  obtain ⟨r, hr⟩ : ∃ r, r = x.r := ⟨_, rfl⟩
  have hb0 : Below w.heap.size w (w.alloc (.cells #[.pointer (some ⟨h, 0, none⟩)] 116)) := (Below.refl _ w).alloc (Nat.le_refl _) _
  have R0 := heap_new w (.cells #[.pointer (some ⟨h, 0, none⟩)] 116)
  have rc := cell_of_row _ _ 0 _ _ _ R0
  have hlt := block_lt hh
  have H0 := hh.old (hb0.block h hlt)
  unfold HostIs HV.cells at H0
  have c10 := cell_of_row _ _ 10 _ _ _ H0
  simp only [List.getElem?_toArray, List.getElem?_cons_succ, List.getElem?_cons_zero] at c10
  rw [← hr] at c10 ht
  have hlr := ht.lt
  obtain ⟨hso, L, hmap, hp⟩ := ht.old (hb0.block r ht.lt)
  have HP := Lib.hid hp
  have HN := Lib.hid hso.nodup
  have hs0 : (w.alloc (.cells #[.pointer (some ⟨h, 0, none⟩)] 116)).heap.size = w.heap.size + 1 := by simp
  clear hso hp ht hh H0 R0 hr
  go_enter Tryz.func102, Tryz.ntmps102
  go_wp2_with (first | (refine wpList_range_at rfl _ rfl Tryz.underlying123 rfl hmap ?_; intro w1 hrg0 hb1 hs1) | fail)
  rw [hs0] at hrg0 ⊢
  try go_frame
  go_loopw [5] (fun n wr => ∃ l : List E, RangeAt wr r (w.heap.size + 1) L (l.map zS) ∧ n = .int .i64 (countS t l : Nat) ∧ Below w.heap.size w wr) (fun _ wr => wr.rangeLeft r (w.heap.size + 1))
  case atStart => exact ⟨[], hrg0, rfl, hb0.trans (hb1.mono (by omega))⟩
  case round =>
    obtain ⟨l, hrg, rfl, hbr⟩ := hrel
    go_wp2_with (first | (refine wpList_next_at rfl _ rfl rfl hrg ?_ ?_) | fail)
    · intro hpm
      have HPE := Lib.hid (countS_perm t (perm_zS (nodup_zS hrg.sub.2.2) HN.out (hpm.trans HP.out)))
      go_wp2
      go_ret
      exact ⟨by rw [HPE.out]; rfl, hbr⟩
    · intro kt kb v w2 hx hxn hrg2 hg2 hs2 hen hrq
      obtain ⟨⟨k', vb⟩, hxS, e⟩ := List.mem_map.1 (HP.out.mem_iff.1 hx)
      cases e
      have hrg3 : RangeAt w2 r (w.heap.size + 1) L ((l ++ [((kt, kb), vb)]).map zS) := by rw [List.map_append]; exact hrg2
      have hcl : countS t l ≤ 1000000000 := by
        have h1 : countS t l ≤ l.length := List.countP_le_length
        have h2 : l.length ≤ S.length := length_sub (nodup_zS hrg.sub.2.2) (fun y hy => mem_zS (HP.out.mem_iff.1 (hrg.sub.1 _ (List.mem_map.2 ⟨y, hy, rfl⟩))))
        omega
      have HSN := Lib.hid (countS_snoc t l ((kt, kb), vb))
      have HR3 := Lib.hid hrg3
      have hsw := hbr.size
      have hb2 : Below w.heap.size w w2 := hbr.grown hg2 hbr.size (fun j e => by cases e; exact Nat.le_succ _)
      have HRG := Lib.hid hrg
      clear hrg2 hrg3 hx hxn hxS hrg
      unfold strV at hen
      by_cases ht : kt = t
      · subst ht
        have HS2 : Hid (countS kt (l ++ [((kt, kb), vb)]) = countS kt l + 1) := Lib.hid (by rw [HSN.out, if_pos rfl])
        go_wp2
        have hal : Below w2.heap.size w2 (w2.alloc (.cells #[.int .i64 kt, .string ⟨kb.toArray⟩] 103)) := (Below.refl _ w2).alloc (Nat.le_refl _) _
        have hR4 := HR3.out.frame (hal.block _ HR3.out.lt.1) (hal.block _ HR3.out.lt.2)
        have hl4 := hR4.left
        have hl0 := HRG.out.left
        simp only [List.length_map, List.length_append, List.length_cons, List.length_nil] at hl4 hl0
        exact ⟨⟨_, hR4, by rw [HS2.out]; rfl, hb2.trans (hal.mono hb2.size)⟩, by omega⟩
      · have HS2 : Hid (countS t (l ++ [((kt, kb), vb)]) = countS t l) := Lib.hid (by rw [HSN.out, if_neg ht]; rfl)
        go_wp2
        have hal : Below w2.heap.size w2 (w2.alloc (.cells #[.int .i64 kt, .string ⟨kb.toArray⟩] 103)) := (Below.refl _ w2).alloc (Nat.le_refl _) _
        have hR4 := HR3.out.frame (hal.block _ HR3.out.lt.1) (hal.block _ HR3.out.lt.2)
        have hl4 := hR4.left
        have hl0 := HRG.out.left
        simp only [List.length_map, List.length_append, List.length_cons, List.length_nil] at hl4 hl0
        exact ⟨⟨_, hR4, by rw [HS2.out], hb2.trans (hal.mono hb2.size)⟩, by omega⟩
end Go.Proofs.YtkkfmkhbdoeglabGreatDoor
