/- A part of what is proved here: lemmas and contracts of single functions. No condition but those that each names. -/
import Derived.Test.YtkkfmkhbdoeglabGreatDoorG15
import Derived.Test.YtkkfmkhbdoeglabGreatDoorG22
import Derived.Test.YtkkfmkhbdoeglabGreatDoorG26
import Derived.Test.YtkkfmkhbdoeglabGreatDoorG28
import Derived.Test.YtkkfmkhbdoeglabGreatDoorG33
import Derived.Test.YtkkfmkhbdoeglabGreatDoorG34
import Derived.Test.YtkkfmkhbdoeglabGreatDoorG35
import Derived.Test.YtkkfmkhbdoeglabGreatDoorG36
import Derived.Test.YtkkfmkhbdoeglabGreatDoorG37
namespace Go.Proofs.YtkkfmkhbdoeglabGreatDoor
open Go.RowKit Go.Shelf
attribute [local go_sem] Oper.semAt_some
/-- what a round of a range over a map keeps: the map, and all walks over maps -/
structure KeepsD (r : Nat) (W W' : World) : Prop where
  size : W.heap.size ≤ W'.heap.size
  map : W'.heap[r]? = W.heap[r]?
  iters : ∀ (k : Nat) (m : Option Nat) (a : Nat) (b : Array Nat) (c : Nat), W.heap[k]? = some (.mapIter m a b c) → W'.heap[k]? = some (.mapIter m a b c)
theorem KeepsD.refl {r : Nat} (W : World) : KeepsD r W W := ⟨Nat.le_refl _, rfl, fun _ _ _ _ _ h => h⟩
theorem KeepsD.trans {r : Nat} {A B C : World} (h : KeepsD r A B) (k : KeepsD r B C) : KeepsD r A C := ⟨Nat.le_trans h.size k.size, k.map.trans h.map, fun i m a b c hi => k.iters i m a b c (h.iters i m a b c hi)⟩
theorem KeepsD.of_below {r : Nat} {W W' : World} (h : Below W.heap.size W W') (hr : r < W.heap.size) : KeepsD r W W' := ⟨h.size, h.block r hr, fun k m a b c hk => (h.block k (block_lt hk)).trans hk⟩
theorem KeepsD.of_grown {r j : Nat} {W W' : World} (h : W.grownBy W' (some j)) (hr : r < W.heap.size) (hj : j ≠ r) (hi : ∀ m a b c, W.heap[j]? ≠ some (.mapIter m a b c)) : KeepsD r W W' :=
  ⟨h.size, h.block r hr (fun e => hj (by cases e; rfl)), fun k m a b c hk => (h.block k (block_lt hk) (fun e => by cases e; exact hi m a b c hk)).trans hk⟩
theorem RangeAt.of_keepsD {w w' : World} {r q : Nat} {l pre : List (K × Value)} (h : RangeAt w r q l pre) (hk : KeepsD r w w') : RangeAt w' r q l pre := by
  obtain ⟨zs, ys, clock, since, c0, h1, h2, hb, hq', rest⟩ := h
  exact ⟨zs, ys, clock, since, c0, h1, h2, hk.map.trans hb, hk.iters q _ _ _ _ hq', rest⟩
theorem dumpFn_any (h : Nat) (w : World) : Calls Tryz.prog 243 #[.agg #[.pointer (some ⟨h, 0, none⟩)]] w fun e w' =>
    e = .returned (.func (.func 244) #[] #[.pointer (some ⟨w.heap.size, 0, none⟩)]) ∧ w' = w.alloc (.cells #[.pointer (some ⟨h, 0, none⟩)] 116) := by
  go_enter Tryz.func243, Tryz.ntmps243
  go_wp2
  go_ret
  exact ⟨rfl, rfl⟩
set_option maxRecDepth 100000 in
set_option maxHeartbeats 1000000 in
theorem dump_stops (n : Nat) (hn : 1 ≤ n) (Bm h : Nat) (x : HV) (S : List E) (w : World) (hBm : Bm < w.heap.size) (hm : w.cell? ⟨Bm, 0, none⟩ = some (.pointer (some ⟨h, 0, none⟩))) (hh : HostIs w h x) (ht : TabAt w x.r S) :
    SeqStopsK Fence.wide n Tryz.prog 244 #[.pointer (some ⟨Bm, 0, none⟩)] (fun x : E => #[kV x.1, .string ⟨x.2.toArray⟩]) (KeepsD x.r) (fun xs => xs.Perm S) (fun _ => True) S.length w := by
  intro l J Jx W hW hJ hJx hY h0
  obtain ⟨r, hr⟩ : ∃ r, r = x.r := ⟨_, rfl⟩
  rw [← hr] at hY
  have hHW := hh.old (hW.block _ hh.lt)
  unfold HostIs HV.cells at hHW
  have c10 := cell_of_row _ _ 10 _ _ _ hHW
  simp only [List.getElem?_toArray, List.getElem?_cons_succ, List.getElem?_cons_zero] at c10
  rw [← hr] at c10 ht
  obtain ⟨hso, L, hmap, hp⟩ := ht
  have hmapW : MapAt W r L := hmap.old (hW.block _ hmap.lt)
  have hmW : W.cell? ⟨Bm, 0, none⟩ = some (.pointer (some ⟨h, 0, none⟩)) := (hW.cell (p := ⟨Bm, 0, none⟩) hBm).trans hm
  have hlen : L.length = S.length := by rw [hp.length_eq, List.length_map]
  have HP := Lib.hid hp
  have HN := Lib.hid hso.nodup
  have hlt := block_lt hHW
  clear hh hHW hr hm hso hp
  refine callsIn_of_wp Tryz.func244 rfl trivial ?_ rfl
  try simp only [Tryz.ntmps244, List.size_toArray, List.length_cons, List.length_nil, Nat.reduceAdd, Nat.reduceSub, Array.replicate_succ, Array.replicate_zero, List.push_toArray, List.append_toArray, List.nil_append, List.cons_append]
  gi_wp2_with (first
    | (gi_at_range; refine wpListIn_range_at rfl _ rfl Tryz.underlying123 rfl hmapW ?_; intro w0 hrg0 hb0 hs0)
    | gi_in)
  try go_frame
  gi_loopw [3, 4] (fun _ _ wr => ∃ pre : List E, RangeAt wr r W.heap.size L (pre.map zS) ∧ J pre wr) (fun _ _ wr => wr.rangeLeft r W.heap.size)
  case atStart =>
    exact ⟨[], hrg0, hJ [] W w0 none h0 ⟨hb0.os, hb0.tape, hb0.output, hb0.size, fun k hk _ => hb0.block k hk⟩ (fun r e => by cases e)⟩
  case round =>
    obtain ⟨pre, hrg, hJs⟩ := hrel
    gi_wp2_with (first
      | (gi_at_next; refine wpListIn_next_at rfl _ rfl rfl hrg ?_ ?_)
      | gi_in)
    · intro hpm
      have HPE := Lib.hid (perm_zS (nodup_zS hrg.sub.2.2) HN.out (hpm.trans HP.out))
      gi_wp2
      go_end0
      exact ⟨⟨_, rfl⟩, .inl ⟨_, HPE.out, hJs⟩⟩
    · intro kt kb v w2 hx hxn hrg2 hg2 hs2 hen hrq
      obtain ⟨⟨k', vb⟩, hxS, e⟩ := List.mem_map.1 (HP.out.mem_iff.1 hx)
      cases e
      have hJ2 : J pre w2 := hJ _ wr w2 (some W.heap.size) hJs hg2 (fun r e => by cases e; exact ⟨Nat.le_refl _, hrg.iter_walk⟩)
      have hln : pre.length < S.length := by
        have h1 := hrg2.left
        simp at h1
        omega
      have hJ2' : J pre ((w2.alloc (.cells #[.int .i64 kt, .string ⟨kb.toArray⟩] 103)).alloc (.cells #[.string ⟨vb.toArray⟩] 179)) := hJ _ _ _ none (hJ _ w2 _ none hJ2 (World.grownBy_alloc w2 _ none) (fun r e => by cases e)) (World.grownBy_alloc _ _ none) (fun r e => by cases e)
      have hrg2' := (hrg2.of_walks (KeepsWalks.alloc w2 (.cells #[.int .i64 kt, .string ⟨kb.toArray⟩] 103))).of_walks (KeepsWalks.alloc _ (.cells #[.string ⟨vb.toArray⟩] 179))
      obtain ⟨fn, tmps, assign, body, hy, hR⟩ := hY pre ((kt, kb), vb) ((w2.alloc (.cells #[.int .i64 kt, .string ⟨kb.toArray⟩] 103)).alloc (.cells #[.string ⟨vb.toArray⟩] 179)) hJ2' hln
      have hle := hrg.left
      have hle2 := hrg2.left
      simp only [List.length_append, List.length_cons, List.length_nil] at hle2
      clear hs2 hx hxS
      unfold kV keyV at hy
      unfold strV at hen
      unfold strV
      have HRG := Lib.hid hrg2'
      clear hrg2'
      gi_wp2
      refine hR.mono ?_
      rintro e W3 (⟨rfl, hJ3, hk3⟩ | ⟨rfl, hJx3⟩)
      · gi_wp2
        have hrg3 : RangeAt W3 r W.heap.size L ((pre ++ [((kt, kb), vb)]).map zS) := by
          rw [List.map_append]
          exact HRG.out.of_keepsD hk3
        go_roundw
        case rel => exact ⟨_, hrg3, hJ3⟩
        case measure =>
          have := hrg3.left
          simp only [List.map_append, List.map_cons, List.map_nil, List.length_append, List.length_cons, List.length_nil] at this
          omega
      · gi_wp2
        refine bodyPost_ret (results_none rfl _ _ _) rfl ?_
        exact ⟨⟨_, rfl⟩, .inr ⟨_, trivial, hJx3⟩⟩
end Go.Proofs.YtkkfmkhbdoeglabGreatDoor
namespace Go.Proofs.YtkkfmkhbdoeglabGreatDoor
/-- an agent: its version, its entries, the frames that wait, why it takes nothing any more (kind, place), the state that comes in pieces (to which version, of how many, those that have come) -/
structure AgA where
  V : Nat
  T : List E
  out : List (List UInt8)
  deg : Option (Nat × Nat)
  com : Option (Nat × Nat × List (List UInt8))
inductive Taking where
  | delta (v : Nat) (os : List OpB)
  | state (v : Nat) (T : List E)
def AgA.put (a : AgA) (k : UInt8) (body : List UInt8) : AgA := if a.out.length < 6 then { a with out := a.out ++ [sealB k body] } else a
def AgA.stands (a : AgA) : AgA := a.put 16 (be8 a.V)
def AgA.acks (a : AgA) : AgA := a.put 17 (be8 a.V)
def AgA.fails (a : AgA) (k : Nat) : AgA := a.put 18 [UInt8.ofNat k]
def AgA.gotN (a : AgA) : Nat := match a.com with
  | some (_, _, got) => got.length
  | none => 0
def AgA.wants (a : AgA) : AgA := a.put 19 [UInt8.ofNat a.gotN]
def AgA.bad (a : AgA) (k : Nat) : AgA := (a.fails k).stands
def AgA.stops (a : AgA) (f : Nat × Nat) : AgA := { a with deg := some f }.fails f.1
def AgA.next (a : AgA) : AgA × Option (List UInt8) := match a.out with
  | [] => (a, none)
  | s :: l => ({ a with out := l }, some s)
def AgA.delta (a : AgA) (body : List UInt8) : AgA × Option Taking := match decB body with
  | .inr f => (a.bad f.1, none)
  | .inl (v, os) => if v ≤ a.V then (a.acks, none) else if a.V + 1 < v then (a.stands, none) else (a, some (.delta v os))
def AgA.begins (a : AgA) (body : List UInt8) : AgA :=
  if body.length < 9 then a.bad 1 else if 9 < body.length then a.bad 2
  else if isVersionB (numB (body.take 8)) = false then a.bad 4
  else if (body.getD 8 0).toNat < 1 ∨ 16 < (body.getD 8 0).toNat then a.bad 5
  else if numB (body.take 8) ≤ a.V then a.acks
  else { a with com := some (numB (body.take 8), (body.getD 8 0).toNat, []) }.wants
/-- all of a state has come -/
def AgA.arrived (a : AgA) (tv : Nat) (bytes : List UInt8) : AgA × Option Taking := match decAllB bytes with
  | .inr f => (a.bad f.1, none)
  | .inl (v, T) => if v ≠ tv then (a.bad 4, none) else if v ≤ a.V then (a.acks, none) else (a, some (.state v T))
def AgA.piece (a : AgA) (body : List UInt8) : AgA × Option Taking :=
  if body.length < 2 then (a.bad 1, none) else if 65 < body.length then (a.bad 2, none)
  else match a.com with
  | none => (a.stands, none)
  | some (tv, of, got) =>
    if (body.getD 0 0).toNat ≠ got.length then (a.wants, none)
    else if got.length + 1 < of then ({ a with com := some (tv, of, got ++ [body.drop 1]) }.wants, none)
    else { a with com := none }.arrived tv (got ++ [body.drop 1]).flatten
def AgA.taken (a : AgA) (frame : List UInt8) : AgA × Option Taking :=
  if a.deg.isSome then (a.fails 13, none) else match unsealB frame with
  | .inr f => (a.bad f.1, none)
  | .inl (k, body) =>
    if k = 1 then a.delta body
    else if k = 2 then (if body = [] then a.stands else a.bad 2, none)
    else if k = 3 then (a.begins body, none)
    else if k = 4 then a.piece body
    else (a.bad 6, none)
/-- the first table of which there are more entries than there is room -/
def overS (S : List E) (room : Nat → Int) : Option Nat :=
  if room 0 < countS 0 S then some 0 else if room 1 < countS 1 S then some 1 else if room 2 < countS 2 S then some 2 else none
def Taking.V : Taking → Nat
  | .delta v _ => v
  | .state v _ => v
def Taking.T (tk : Taking) (S : List E) : List E := match tk with
  | .delta _ os => foldS S os
  | .state _ T => T
/-- why it may not be taken in -/
def limitB (S : List E) (room : Nat → Int) (n : Nat) : Option (Nat × Nat) := match overS S room with
  | some t => some (10, t)
  | none => if 16 * (n - 8) < sizeS S then some (11, 0) else none
def AgA.takes (a : AgA) (tk : Taking) (room : Nat → Int) (n : Nat) : AgA := match limitB (tk.T a.T) room n with
  | some f => a.stops f
  | none => { a with V := tk.V, T := tk.T a.T }.acks
def AgA.done (a : AgA) (tk : Taking) (room : Nat → Int) (n : Nat) : List (List UInt8) := match limitB (tk.T a.T) room n with
  | some _ => []
  | none => (opsB a.T (tk.T a.T)).map textOf
end Go.Proofs.YtkkfmkhbdoeglabGreatDoor
namespace Go.Proofs.YtkkfmkhbdoeglabGreatDoor
open Go.RowKit Go.Shelf
/-- a datapath as an interface value -/
def dpV (h : Nat) : Value := .iface 116 (.agg #[.pointer (some ⟨h, 0, none⟩)])
theorem nil_room (h : Nat) (w : World) : (nilAhead 470 116 (.agg #[.pointer (some ⟨h, 0, none⟩)]) "Room").run Tryz.prog w = .ok (some false) w := by kernel_rfl
theorem method_room (h : Nat) (w : World) : (method 470 116 (.agg #[.pointer (some ⟨h, 0, none⟩)]) "Room").run Tryz.prog w = .ok (103, .agg #[.pointer (some ⟨h, 0, none⟩)]) w := by kernel_rfl
/-- what over tells -/
def overI (S : List E) (room : Nat → Int) : Int := match overS S room with
  | some t => (t : Int)
  | none => -1
theorem overI_at {S : List E} {room : Nat → Int} {k : Nat} (h3 : k < 3) (hle : ∀ t : Nat, t < k → (countS (t : Int) S : Int) ≤ room t) (hlt : room k < (countS (k : Int) S : Int)) : overI S room = (k : Int) := by
  unfold overI overS
  obtain rfl | rfl | rfl : k = 0 ∨ k = 1 ∨ k = 2 := by omega
  · have h : room 0 < (countS 0 S : Int) := hlt
    rw [if_pos h]
  · have h0 : (countS 0 S : Int) ≤ room 0 := hle 0 (by omega)
    have h : room 1 < (countS 1 S : Int) := hlt
    rw [if_neg (Int.not_lt.2 h0), if_pos h]
  · have h0 : (countS 0 S : Int) ≤ room 0 := hle 0 (by omega)
    have h1 : (countS 1 S : Int) ≤ room 1 := hle 1 (by omega)
    have h : room 2 < (countS 2 S : Int) := hlt
    rw [if_neg (Int.not_lt.2 h0), if_neg (Int.not_lt.2 h1), if_pos h]
theorem overI_none {S : List E} {room : Nat → Int} (hle : ∀ t : Nat, t < 3 → (countS (t : Int) S : Int) ≤ room t) : overI S room = -1 := by
  have h0 : (countS 0 S : Int) ≤ room 0 := hle 0 (by omega)
  have h1 : (countS 1 S : Int) ≤ room 1 := hle 1 (by omega)
  have h2 : (countS 2 S : Int) ≤ room 2 := hle 2 (by omega)
  unfold overI overS
  rw [if_neg (Int.not_lt.2 h0), if_neg (Int.not_lt.2 h1), if_neg (Int.not_lt.2 h2)]
theorem _root_.Go.RowKit.Below.tn' {w a b : World} (h : Below w.heap.size w a) (k : Below a.heap.size a b) : Below w.heap.size w b := h.trans (k.mono h.size)
theorem EntAt.kept' {w w' : World} {q off r : Nat} {S : List E} (h : EntAt w q off r S) (hb : Below w.heap.size w w') : EntAt w' q off r S := h.below hb
set_option maxRecDepth 100000 in
set_option maxHeartbeats 1000000 in
theorem over_any (q off r h : Nat) (x : HV) (S : List E) (w : World) (he : EntAt w q off r S) (hh : HostIs w h x) (hl : S.length ≤ 1000000000) :
    Calls Tryz.prog 106 #[.pointer (some ⟨q, off, none⟩), dpV h] w fun e w' => e = .returned (.int .i64 (overI S x.room)) ∧ Below w.heap.size w w' := by
  have HE := Lib.hid he
  have HH := Lib.hid hh
  clear he hh
  have hn := nil_room h
  have hm := method_room h
  unfold dpV
  go_enter Tryz.func106, Tryz.ntmps106
  go_wp2
  go_loopw [6] (fun i wr => ∃ k : Nat, k ≤ 3 ∧ i = .int .i64 k ∧ (∀ t, t < k → (countS t S : Int) ≤ x.room t) ∧ Below w.heap.size w wr) (fun i _ => 3 - (intOf i).toNat)
  case atStart => exact ⟨0, by omega, rfl, (fun t ht => by omega), Below.refl _ _⟩
  case round =>
    obtain ⟨k, hk, rfl, hle, hb⟩ := hrel
    by_cases h3 : k < 3
    · have h3' : (k : Int) < 3 := by omega
      have HLE := Lib.hid hle
      clear hle
      have hRV : x.room k = if 0 ≤ (k : Int) ∧ (k : Int) < 3 then x.room (k : Int).toNat else 0 := by rw [if_pos ⟨by omega, h3'⟩]; rfl
      have HRV := Lib.hid hRV
      obtain ⟨rv, hrv⟩ : ∃ rv, rv = x.room k := ⟨_, rfl⟩
      obtain ⟨cv, hcv⟩ : ∃ cv, cv = countS (k : Int) S := ⟨_, rfl⟩
      have HR := Lib.hid hrv
      have HC := Lib.hid hcv
      clear hRV hrv hcv
      go_wp2_with fail
      refine (count_any q off r S (k : Int) wr (HE.out.kept' hb) hl).mono ?_
      rintro e w1 ⟨rfl, hb1⟩
      rw [← HC.out]
      go_wp2_with fail
      refine (room_any h x (k : Int) w1 (HH.out.old ((hb.tn' hb1).block h HH.out.lt))).mono ?_
      rintro e w2 ⟨rfl, hb2⟩
      rw [← HRV.out, ← HR.out]
      have hB2 : Below w.heap.size w w2 := (hb.tn' hb1).trans (hb2.mono (hb.tn' hb1).size)
      clear hb1 hb2
      by_cases hlt : rv < (cv : Int)
      · go_wp2
        go_ret
        refine ⟨?_, hB2⟩
        have e : overI S x.room = (k : Int) := by
          rw [HR.out, HC.out] at hlt
          exact overI_at h3 HLE.out hlt
        rw [e]
        rfl
      · go_wp2
        go_roundw
        case rel =>
          refine ⟨k + 1, by omega, by go_num, fun t ht => ?_, hB2⟩
          by_cases e : t = k
          · subst e
            rw [HR.out, HC.out] at hlt
            first | exact hlt | exact Int.not_lt.1 hlt
          · exact HLE.out t (by omega)
        case measure => simp [intOf]; omega
    · obtain rfl : k = 3 := by omega
      have e : overI S x.room = -1 := overI_none hle
      have HEE := Lib.hid e
      clear e hle
      go_wp2
      go_ret
      exact ⟨by rw [HEE.out]; rfl, hb⟩
end Go.Proofs.YtkkfmkhbdoeglabGreatDoor
namespace Go.Proofs.YtkkfmkhbdoeglabGreatDoor
open Go.RowKit
theorem refHeld_any (v : Value) (l : List E) (y : E) (w : World) (h : EntsAt w v l) (hl : l.length ≤ 1000000000) :
    Calls Tryz.prog 57 #[v, entV y] w fun e w' => e = .returned (.bool (getS y.1 l).isSome) ∧ Below w.heap.size w w' := by
  obtain ⟨a, cap, rfl, -, -⟩ := h.opened
  have hb1 : Below w.heap.size w (w.alloc (.cells #[.int .i64 y.1.1, .string ⟨y.1.2.toArray⟩, .string ⟨y.2.toArray⟩] 108)) := (Below.refl _ w).alloc (Nat.le_refl _) _
  have HE1 := Lib.hid (h.below hb1)
  have B1 := Lib.hid (heap_new w (.cells #[.int .i64 y.1.1, .string ⟨y.1.2.toArray⟩, .string ⟨y.2.toArray⟩] 108))
  have HB := Lib.hid hb1
  obtain ⟨⟨U, KC⟩, VC⟩ := y
  unfold entV
  clear h hb1
  go_enter Tryz.func57, Tryz.ntmps57
  go_wp2
  generalize hw1 : w.alloc (.cells #[.int .i64 U, .string ⟨KC.toArray⟩, .string ⟨VC.toArray⟩] 108) = w1 at *
  clear hw1
  go_loopw [5] (fun i wr => ∃ k : Nat, k ≤ l.length ∧ i = .int .i64 k ∧ (∀ x ∈ l.take k, ((U, KC) == x.1) = false) ∧ ∃ q, wr = w1.drewN q) (fun i _ => l.length - (intOf i).toNat)
  case atStart => exact ⟨0, Nat.zero_le _, rfl, (fun x hx => by cases hx), 0, rfl⟩
  case round =>
    obtain ⟨k, hk, rfl, hn, q, rfl⟩ := hrel
    have HN := Lib.hid hn
    clear hn
    have b0 := B1.out
    have u0 := cell_of_row _ _ 0 _ _ _ b0
    have u1 := cell_of_row _ _ 1 _ _ _ b0
    have lu := block_lt b0
    by_cases hlt : k < l.length
    · have hlt' : (k : Int) < l.length := by omega
      obtain ⟨a', cap', he, -, hx⟩ := HE1.out.opened
      cases he
      obtain ⟨b1, o1, rfl, c0, c1, c2⟩ := hx k hlt
      have HF := Lib.hid (fun hk => find_at (p := fun x : E => (U, KC) == x.1) hlt HN.out hk)
      have HG := Lib.hid (fun hk => none_next (p := fun x : E => (U, KC) == x.1) hlt HN.out hk)
      clear hx
      generalize hlk : l[k] = x at *
      obtain ⟨⟨T, KB⟩, VB⟩ := x
      simp only at c0 c1 c2
      clear hlk c2 b0
      by_cases hT : T = U
      · cases hq : (KB == KC) with
        | true =>
          have e : KB = KC := beq_iff_eq.1 hq
          have HV : Hid ((getS (U, KC) l).isSome = true) := Lib.hid (by unfold getS; rw [HF.out (by rw [hT, e]; exact beq_self_eq_true _)]; rfl)
          clear e
          go_wp2
          go_quiet (fail)
          go_wp2
          go_ret
          exact ⟨by rw [HV.out]; rfl, by first | exact HB.out.drewN _ | exact (HB.out.drewN _).drewN _⟩
        | false =>
          have HP : Hid (∀ x ∈ l.take (k + 1), ((U, KC) == x.1) = false) := Lib.hid (HG.out (by rw [beq_eq_false_iff_ne] at hq ⊢; intro e; exact hq (Prod.mk.inj e).2.symm))
          go_wp2
          go_quiet (fail)
          go_wp2
          exact ⟨⟨k + 1, by omega, rfl, HP.out, _, rfl⟩, by simp [intOf]; omega⟩
      · have HP : Hid (∀ x ∈ l.take (k + 1), ((U, KC) == x.1) = false) := Lib.hid (HG.out (by rw [beq_eq_false_iff_ne]; intro e; exact hT (Prod.mk.inj e).1.symm))
        go_wp2
        go_quiet (fail)
        go_wp2
        exact ⟨⟨k + 1, by omega, rfl, HP.out, _, rfl⟩, by simp [intOf]; omega⟩
    · obtain rfl : k = l.length := by omega
      have hge : ¬ (l.length : Int) < l.length := by omega
      have HV : Hid ((getS (U, KC) l).isSome = false) := Lib.hid (by
        have h0 := HN.out
        rw [List.take_length] at h0
        have : l.find? (fun x : E => (U, KC) == x.1) = none := List.find?_eq_none.2 (fun x hx => by rw [h0 x hx]; decide)
        unfold getS
        rw [this]
        rfl)
      go_wp2
      go_ret
      exact ⟨by rw [HV.out]; rfl, by first | exact HB.out.drewN _ | exact (HB.out.drewN _).drewN _⟩
theorem eql_rentry (x y : E) (w : World) : (binOp .eql 108 (entV x) (entV y)).run Tryz.prog w = .ok (.bool (x == y)) w := by
  have h1 : ∀ x : E, (part 3 #[Value.int .i64 x.1.1, .string ⟨x.1.2.toArray⟩, .string ⟨x.2.toArray⟩] 0).run Tryz.prog w = .ok (.int .i64 x.1.1) w := fun x => run_part_plain w (by kernel_rfl) rfl
  have h2 : ∀ x : E, (part 9 #[Value.int .i64 x.1.1, .string ⟨x.1.2.toArray⟩, .string ⟨x.2.toArray⟩] 1).run Tryz.prog w = .ok (.string ⟨x.1.2.toArray⟩) w := fun x => run_part_plain w (by kernel_rfl) rfl
  have h3 : ∀ x : E, (part 9 #[Value.int .i64 x.1.1, .string ⟨x.1.2.toArray⟩, .string ⟨x.2.toArray⟩] 2).run Tryz.prog w = .ok (.string ⟨x.2.toArray⟩) w := fun x => run_part_plain w (by kernel_rfl) rfl
  have ht : Tryz.prog.underlying 108 = some (.struct (Tryz.prog.fieldsOf 108)) := by kernel_rfl
  have hp : Tryz.prog.stoodInHeld 108 = false := by kernel_rfl
  have hf := TypeDesc.struct.inj (Option.some.inj (ht.symm.trans Tryz.underlying108))
  have k1 : ∀ m (x y : Int), (Op.equalIn (m + 1) 3 (.int .i64 x) (.int .i64 y)).run Tryz.prog w = .ok (x == y) w := fun m x y => by simp [Op.equalIn, run_underlying Tryz.underlying3]
  have k2 : ∀ m (x y : ByteArray), (Op.equalIn (m + 1) 9 (.string x) (.string y)).run Tryz.prog w = .ok (x == y) w := fun m x y => by simp [Op.equalIn, run_underlying Tryz.underlying9]
  have hbb : ∀ b d : List UInt8, ((⟨b.toArray⟩ : ByteArray) == ⟨d.toArray⟩) = (b == d) := fun b d => by
    cases hbd : (b == d) with
    | true => rw [beq_iff_eq] at hbd; subst hbd; exact (MapKept.bytes_beq _ _).2 rfl
    | false =>
      rw [beq_eq_false_iff_ne] at hbd
      cases hx : ((⟨b.toArray⟩ : ByteArray) == ⟨d.toArray⟩) with
      | false => rfl
      | true =>
        have := (MapKept.bytes_beq _ _).1 hx
        simp at this
        exact absurd this hbd
  have hd : ∀ n, (Op.equalIn (n + 2) 108 (entV x) (entV y)).run Tryz.prog w = .ok (x == y) w := by
    intro n
    unfold entV
    rw [run_equalIn_agg w (n + 1) 108 _ _ ht hp, hf]
    simp only [Op.eqFields]
    rw [if_pos (by decide), if_pos (by decide), if_pos (by decide)]
    simp only [Sem.run_bind, h1 x, h1 y, k1, Result.andThen_ok]
    obtain ⟨⟨a, c⟩, d⟩ := x
    obtain ⟨⟨a', c'⟩, d'⟩ := y
    show _ = Result.ok (((a == a') && (c == c')) && (d == d')) w
    cases hac : (a == a') with
    | false => simp
    | true =>
      have e2 := h2 ((a, c), d)
      have e2' := h2 ((a', c'), d')
      have e3 := h3 ((a, c), d)
      have e3' := h3 ((a', c'), d')
      simp only at e2 e2' e3 e3'
      simp only [Bool.not_true, Bool.false_eq_true, if_false, Sem.run_bind, e2, e2', k2, Result.andThen_ok, hbb, Bool.true_and]
      cases (c == c') with
      | false => simp
      | true =>
        simp only [Bool.not_true, Bool.false_eq_true, if_false, Sem.run_bind, e3, e3', k2, Result.andThen_ok, hbb, Bool.true_and]
        cases (d == d') <;> simp
  have hh := hd 9998
  unfold entV at hh ⊢
  simp only [binOp]
  simp [Op.equal, Op.maxDepth, hh]
theorem refHas_any (v : Value) (l : List E) (y : E) (w : World) (h : EntsAt w v l) (hl : l.length ≤ 1000000000) :
    Calls Tryz.prog 58 #[v, entV y] w fun e w' => e = .returned (.bool (decide (y ∈ l))) ∧ Below w.heap.size w w' := by
  obtain ⟨a, cap, rfl, -, -⟩ := h.opened
  have hb1 : Below w.heap.size w (w.alloc (.cells #[.int .i64 y.1.1, .string ⟨y.1.2.toArray⟩, .string ⟨y.2.toArray⟩] 108)) := (Below.refl _ w).alloc (Nat.le_refl _) _
  have HE1 := Lib.hid (h.below hb1)
  have B1 := Lib.hid (heap_new w (.cells #[.int .i64 y.1.1, .string ⟨y.1.2.toArray⟩, .string ⟨y.2.toArray⟩] 108))
  have HB := Lib.hid hb1
  have HEQ := fun (x : E) w => eql_rentry x y w
  obtain ⟨⟨U, KC⟩, VC⟩ := y
  unfold entV at *
  clear h hb1
  go_enter Tryz.func58, Tryz.ntmps58
  go_wp2
  generalize hw1 : w.alloc (.cells #[.int .i64 U, .string ⟨KC.toArray⟩, .string ⟨VC.toArray⟩] 108) = w1 at *
  clear hw1
  go_loopw [5] (fun i wr => ∃ k : Nat, k ≤ l.length ∧ i = .int .i64 k ∧ ((U, KC), VC) ∉ l.take k ∧ ∃ q, wr = w1.drewN q) (fun i _ => l.length - (intOf i).toNat)
  case atStart => exact ⟨0, Nat.zero_le _, rfl, List.not_mem_nil, 0, rfl⟩
  case round =>
    obtain ⟨k, hk, rfl, hn, q, rfl⟩ := hrel
    have HN := Lib.hid hn
    clear hn
    have b0 := B1.out
    have u0 := cell_of_row _ _ 0 _ _ _ b0
    have u1 := cell_of_row _ _ 1 _ _ _ b0
    have u2 := cell_of_row _ _ 2 _ _ _ b0
    have lu := block_lt b0
    by_cases hlt : k < l.length
    · have hlt' : (k : Int) < l.length := by omega
      obtain ⟨a', cap', he, -, hx⟩ := HE1.out.opened
      cases he
      obtain ⟨b1, o1, rfl, c0, c1, c2⟩ := hx k hlt
      have HM := Lib.hid (List.getElem_mem hlt)
      have HT := Lib.hid (List.take_succ_eq_append_getElem hlt)
      clear hx
      generalize hlk : l[k] = x at *
      have HQ := fun w => HEQ x w
      obtain ⟨⟨T, KB⟩, VB⟩ := x
      simp only at c0 c1 c2 HQ
      clear hlk b0 HEQ
      cases hq : (((T, KB), VB) == ((U, KC), VC)) with
      | true =>
        rw [hq] at HQ
        have HV : Hid (decide (((U, KC), VC) ∈ l) = true) := Lib.hid (decide_eq_true (by rw [← beq_iff_eq.1 hq]; exact HM.out))
        clear hq
        go_wp2
        go_quiet (fail)
        go_wp2
        go_ret
        exact ⟨by rw [HV.out]; rfl, by first | exact HB.out.drewN _ | exact (HB.out.drewN _).drewN _⟩
      | false =>
        rw [hq] at HQ
        have HP : Hid (((U, KC), VC) ∉ l.take (k + 1)) := Lib.hid (by
          rw [HT.out, List.mem_append, List.mem_singleton]
          rw [beq_eq_false_iff_ne] at hq
          exact fun e => e.elim HN.out fun e => hq e.symm)
        clear hq
        go_wp2
        go_quiet (fail)
        go_wp2
        exact ⟨⟨k + 1, by omega, rfl, HP.out, _, rfl⟩, by simp [intOf]; omega⟩
    · obtain rfl : k = l.length := by omega
      have hge : ¬ (l.length : Int) < l.length := by omega
      have HV : Hid (decide (((U, KC), VC) ∈ l) = false) := Lib.hid (decide_eq_false (by have := HN.out; rwa [List.take_length] at this))
      go_wp2
      go_ret
      exact ⟨by rw [HV.out]; rfl, by first | exact HB.out.drewN _ | exact (HB.out.drewN _).drewN _⟩
theorem sameTexts_true (sv tv : Value) (l : List (List UInt8)) (w : World) (h1 : SliceAt w sv 1 l.length (strsV l)) (h2 : SliceAt w tv 1 l.length (strsV l)) (hl : l.length ≤ 1000000000000) :
    Calls Tryz.prog 20 #[sv, tv] w fun e w' => e = .returned (.bool true) ∧ Below w.heap.size w w' := by
  obtain ⟨-, a, cap, rfl, -, hx⟩ := h1
  obtain ⟨-, b, cap2, rfl, -, hy⟩ := h2
  have HX := Lib.hid hx
  have HY := Lib.hid hy
  clear hx hy
  go_enter Tryz.func20, Tryz.ntmps20
  go_wp2
  go_loopw [5] (fun i wr => ∃ k : Nat, k ≤ l.length ∧ i = .int .i64 k ∧ ∃ q, wr = w.drewN q) (fun i _ => l.length - (intOf i).toNat)
  case atStart => exact ⟨0, Nat.zero_le _, rfl, 0, rfl⟩
  case round =>
    obtain ⟨k, hk, rfl, q, rfl⟩ := hrel
    by_cases hlt : k < l.length
    · have hlt' : (k : Int) < l.length := by omega
      obtain ⟨b1, o1, rfl, c0⟩ := HX.out k (by rw [strsV_length]; exact hlt)
      obtain ⟨b2, o2, rfl, d0⟩ := HY.out k (by rw [strsV_length]; exact hlt)
      have hg : (strsV l)[k]'(by rw [strsV_length]; exact hlt) = .string ⟨l[k].toArray⟩ := by simp [strsV]
      rw [hg] at c0 d0
      clear hg
      generalize l[k] = s at *
      have hss : (s == s) = true := beq_self_eq_true s
      go_wp2
      go_quiet (fail)
      go_wp2
      exact ⟨⟨k + 1, by omega, by go_num, _, rfl⟩, by simp [intOf]; omega⟩
    · obtain rfl : k = l.length := by omega
      have hge : ¬ (l.length : Int) < l.length := by omega
      go_wp2
      go_ret
      exact ⟨rfl, (Below.refl _ w).drewN q⟩
theorem refOver_any (v rv : Value) (l : List E) (r0 r1 r2 : Int) (room : Nat → Int) (w : World) (h : EntsAt w v l) (hl : l.length ≤ 1000000000) (hr : SliceAt w rv 1 3 [.int .i64 r0, .int .i64 r1, .int .i64 r2]) (e0 : room 0 = r0) (e1 : room 1 = r1) (e2 : room 2 = r2) :
    Calls Tryz.prog 16 #[v, rv] w fun e w' => e = .returned (.int .i64 (overI l room)) ∧ Below w.heap.size w w' := by
  obtain ⟨-, ra, rcap, rfl, hrc, hrx⟩ := hr
  have HR := Lib.hid hrx
  have HE := Lib.hid h
  clear hrx h
  go_enter Tryz.func16, Tryz.ntmps16
  go_wp2
  go_loopw [5] (fun i wr => ∃ k : Nat, k ≤ 3 ∧ i = .int .i64 k ∧ (∀ t : Nat, t < k → (countS (t : Int) l : Int) ≤ room t) ∧ Below w.heap.size w wr) (fun i _ => 3 - (intOf i).toNat)
  case atStart => exact ⟨0, Nat.zero_le _, rfl, (fun t ht => by omega), Below.refl _ _⟩
  case round =>
    obtain ⟨k, hk, rfl, hle, hbr⟩ := hrel
    have HLE := Lib.hid hle
    have HB := Lib.hid hbr
    have HC := Lib.hid (fun W (hW : Below w.heap.size w W) => refCount_any v l (k : Int) W (HE.out.below hW) hl)
    by_cases hlt : k < 3
    · have hlt' : (k : Int) < 3 := by omega
      have hroom : ∃ b o, ra = some ⟨b, o, none⟩ ∧ w.cell? ⟨b, o + k, none⟩ = some (.int .i64 (room k)) := by
        obtain ⟨b, o, e, c⟩ := HR.out k (by simp; omega)
        refine ⟨b, o, e, c.trans ?_⟩
        match k, hlt with
        | 0, _ => rw [e0]; rfl
        | 1, _ => rw [e1]; rfl
        | 2, _ => rw [e2]; rfl
      obtain ⟨b, o, rfl, c0⟩ := hroom
      have d0 := (hbr.cell (p := ⟨b, o + k, none⟩) (cell_lt c0)).trans c0
      have hlb : b < wr.heap.size := Nat.lt_of_lt_of_le (cell_lt c0) hbr.size
      obtain ⟨va, vcap, rfl, -, -⟩ := HE.out.opened
      have HNX : Hid (∀ t : Nat, t < k + 1 → ¬ (room k < (countS (k : Int) l : Int)) → (countS (t : Int) l : Int) ≤ room t) := Lib.hid (fun t ht hn => by
        by_cases h : t < k
        · exact HLE.out t h
        · obtain rfl : t = k := by omega
          omega)
      have HIV : Hid (room k < (countS (k : Int) l : Int) → overI l room = (k : Int)) := Lib.hid (fun h => overI_at hlt HLE.out h)
      generalize room k = rm at *
      generalize countS (k : Int) l = cn at *
      clear hle hbr c0
      go_upto_region 4 with fail
      go_region_held3 (fun w' => w'.cell? ⟨b, o + k, none⟩ = some (.int .i64 rm))
        (first | exact d0 | exact (HBb.out.cell (p := ⟨b, o + k, none⟩) hlb).trans d0)
        (first | (go_at_call 56; refine (HC.out _ (by first | exact HB.out | exact HB.out.drew)).mono ?_; rintro e w2 ⟨rfl, hb2⟩; have HBb : Hid (Below wr.heap.size wr w2) := Lib.hid (by first | exact hb2 | exact (Below.rf wr).drew.tn hb2); clear hb2))
      all_goals
        by_cases hgt : rm < (cn : Int)
        · go_wp2
          go_ret
          exact ⟨by rw [HIV.out hgt]; rfl, HB.out.tn HBb.out⟩
        · go_wp2
          go_roundw
          case rel => exact ⟨k + 1, by omega, by go_num, (fun t ht => HNX.out t ht (by omega)), HB.out.tn HBb.out⟩
          case measure => simp [intOf]; omega
    · obtain rfl : k = 3 := by omega
      have HIV : Hid (overI l room = -1) := Lib.hid (overI_none HLE.out)
      go_wp2
      go_ret
      exact ⟨by rw [HIV.out]; rfl, HB.out⟩
end Go.Proofs.YtkkfmkhbdoeglabGreatDoor
