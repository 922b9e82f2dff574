/- A part of what is proved here: lemmas and contracts of single functions. No condition but those that each names. -/
import Derived.BigRegion
import Derived.Laws.CopyOwn
import Derived.RegionTactic
import Derived.Test.YtkkfmkhbdoeglabGreatDoorG08
import Derived.Test.YtkkfmkhbdoeglabGreatDoorG34
import Derived.Test.YtkkfmkhbdoeglabGreatDoorG36
import Derived.Test.YtkkfmkhbdoeglabGreatDoorG38
import Derived.Test.YtkkfmkhbdoeglabGreatDoorG40
namespace Go.Proofs.YtkkfmkhbdoeglabGreatDoor
/-- the sectors that are late, as they are written: of these the ones that are chosen take hold -/
def applySel {α : Type} (sel : Nat → Bool) : Nat → List (α × Nat) → List α → List α
  | _, [], d => d
  | k, (p, n) :: l, d => applySel sel (k + 1) l (if sel k then d.set n p else d)
theorem applySel_get {α : Type} (sel : Nat → Bool) : ∀ (k : Nat) (qs : List α) (at' : Nat) (d : List α), at' + qs.length ≤ d.length → ∀ j, (applySel sel k (qs.zipIdx at') d)[j]? = if at' ≤ j ∧ j < at' + qs.length ∧ sel (k + (j - at')) = true then qs[j - at']? else d[j]?
  | k, [], at', d, _, j => by
    rw [if_neg (by simp; omega)]
    rfl
  | k, q :: qs, at', d, h, j => by
    rw [List.zipIdx_cons]
    unfold applySel
    rw [List.length_cons] at h
    rw [applySel_get sel (k + 1) qs (at' + 1) _ (by split <;> (try rw [List.length_set]) <;> omega) j]
    by_cases hj : j = at'
    · subst hj
      rw [if_neg (by omega), Nat.sub_self, Nat.add_zero]
      by_cases hs : sel k = true
      · rw [if_pos hs, if_pos ⟨Nat.le_refl _, by rw [List.length_cons]; omega, hs⟩, List.getElem?_set_self (by omega)]
        rfl
      · rw [if_neg hs, if_neg (fun h => hs h.2.2)]
    · have hset : (if sel k = true then d.set at' q else d)[j]? = d[j]? := by
        split
        · rw [List.getElem?_set_ne (by omega)]
        · rfl
      rw [hset]
      by_cases hlt : j < at'
      · rw [if_neg (by omega), if_neg (by omega)]
      · obtain ⟨m, rfl⟩ : ∃ m, j = at' + 1 + m := ⟨j - (at' + 1), by omega⟩
        rw [show at' + 1 + m - (at' + 1) = m by omega, show at' + 1 + m - at' = m + 1 by omega, show k + 1 + m = k + (m + 1) by omega, List.getElem?_cons_succ, List.length_cons]
        have hiff : (at' + 1 ≤ at' + 1 + m ∧ at' + 1 + m < at' + 1 + qs.length ∧ sel (k + (m + 1)) = true) ↔ (at' ≤ at' + 1 + m ∧ at' + 1 + m < at' + (qs.length + 1) ∧ sel (k + (m + 1)) = true) :=
          ⟨fun ⟨h1, h2, h3⟩ => ⟨by omega, by omega, h3⟩, fun ⟨h1, h2, h3⟩ => ⟨by omega, by omega, h3⟩⟩
        by_cases hA : at' + 1 ≤ at' + 1 + m ∧ at' + 1 + m < at' + 1 + qs.length ∧ sel (k + (m + 1)) = true
        · rw [if_pos hA, if_pos (hiff.1 hA)]
        · rw [if_neg hA, if_neg fun h => hA (hiff.2 h)]
/-- what a sector's bytes say -/
def parseSec (b : List UInt8) : Part := ⟨numB (b.take 8), (b.getD 8 0).toNat, (b.getD 9 0).toNat, decide ((b.getD 10 0).toNat ≤ 53), (b.drop 11).take (b.getD 10 0).toNat⟩
def secBytes (s i n : Nat) (c : List UInt8) : List UInt8 := be8 s ++ [UInt8.ofNat i, UInt8.ofNat n, UInt8.ofNat c.length] ++ c
def padSec (b : List UInt8) : List UInt8 := b ++ List.replicate (64 - b.length) 0
theorem parse_sec {s i n : Nat} {c : List UInt8} (hs : s < 18446744073709551616) (hi : i < 256) (hn : n < 256) (hc : c.length ≤ 53) : parseSec (padSec (secBytes s i n c)) = ⟨s, i, n, true, c⟩ := by
  obtain ⟨tl, htl⟩ : ∃ tl, tl = List.replicate (64 - (secBytes s i n c).length) (0 : UInt8) := ⟨_, rfl⟩
  have e : padSec (secBytes s i n c) = be8 s ++ (UInt8.ofNat i :: UInt8.ofNat n :: UInt8.ofNat c.length :: (c ++ tl)) := by
    unfold padSec
    rw [← htl]
    unfold secBytes
    simp
  have h8 := be8_length s
  have g : ∀ j, (be8 s ++ (UInt8.ofNat i :: UInt8.ofNat n :: UInt8.ofNat c.length :: (c ++ tl))).getD (8 + j) 0 = (UInt8.ofNat i :: UInt8.ofNat n :: UInt8.ofNat c.length :: (c ++ tl)).getD j 0 := fun j => by
    rw [List.getD_eq_getElem?_getD, List.getElem?_append_right (by omega), show 8 + j - (be8 s).length = j by omega, ← List.getD_eq_getElem?_getD]
  have g0 := g 0
  have g1 := g 1
  have g2 := g 2
  simp only [Nat.add_zero, Nat.reduceAdd, List.getD_cons_zero, List.getD_cons_succ] at g0 g1 g2
  have hcl : (UInt8.ofNat c.length).toNat = c.length := by simp; omega
  unfold parseSec
  rw [e, g0, g1, g2, List.take_append_of_le_length (by omega), List.take_of_length_le (by omega), numB_be8 s hs, hcl]
  have hd : (be8 s ++ (UInt8.ofNat i :: UInt8.ofNat n :: UInt8.ofNat c.length :: (c ++ tl))).drop 11 = c ++ tl := by
    rw [List.drop_append, List.drop_of_length_le (by omega), show 11 - (be8 s).length = 3 by omega]
    rfl
  rw [hd, List.take_append_of_le_length (by omega), List.take_of_length_le (by omega)]
  have h1 : (UInt8.ofNat i).toNat = i := by simp; omega
  have h2 : (UInt8.ofNat n).toNat = n := by simp; omega
  rw [h1, h2]
  simp [hc]
def partsOf (len : Nat) : Nat := (len + 52) / 53
def chunkB (data : List UInt8) (i : Nat) : List UInt8 := (data.drop (53 * i)).take 53
def secsOf (s : Nat) (data : List UInt8) : List (List UInt8) := (List.range (partsOf data.length)).map fun i => padSec (secBytes s i (partsOf data.length) (chunkB data i))
theorem secsOf_length (s : Nat) (data : List UInt8) : (secsOf s data).length = partsOf data.length := by simp [secsOf]
theorem chunk_length (data : List UInt8) (i : Nat) : (chunkB data i).length ≤ 53 := by
  unfold chunkB
  rw [List.length_take]
  omega
/-- how many sectors a state may take -/
def placeOf (n : Nat) : Nat := (16 * (n - 8) + 62) / 53
/-- the stamps on a disk -/
def stampsLe (d : List (List UInt8)) (s : Nat) : Prop := ∀ b ∈ d, (parseSec b).stamp ≤ s
theorem stampsLe.apply {d : List (List UInt8)} {s : Nat} {data : List UInt8} (h : stampsLe d s) (hs : s + 1 < 18446744073709551616) (hp : partsOf data.length < 256) (sel : Nat → Bool) (m at' : Nat) (hl : at' + partsOf data.length ≤ d.length) : stampsLe (applySel sel 0 (((secsOf (s + 1) data).take m).zipIdx at') d) (s + 1) := by
  intro b hb
  obtain ⟨j, hj⟩ := List.mem_iff_getElem?.1 hb
  have hlen : ((secsOf (s + 1) data).take m).length ≤ partsOf data.length := by rw [List.length_take, secsOf_length]; omega
  rw [applySel_get sel 0 _ at' d (by omega) j] at hj
  split at hj
  · have hm := List.mem_of_mem_take (List.mem_of_getElem? hj)
    unfold secsOf at hm
    obtain ⟨i, hi, rfl⟩ := List.mem_map.1 hm
    have := List.mem_range.1 hi
    rw [parse_sec hs (by omega) hp (chunk_length _ _)]
    exact Nat.le_refl _
  · have := h b (List.mem_of_getElem? hj)
    omega
/-- an empty disk -/
def zeroSec : List UInt8 := List.replicate 64 0
end Go.Proofs.YtkkfmkhbdoeglabGreatDoor
namespace Go.Proofs.YtkkfmkhbdoeglabGreatDoor
/-- a host: what holds, what is seen, what is late, behind how many calls it fails (below 0: never), how many sectors were written, its datapath -/
structure HostS where
  held : List (List UInt8)
  seen : List (List UInt8)
  late : List (List UInt8 × Nat)
  fail : Int
  writes : Int
  dp : DpS
/-- one call of the disk more -/
def HostS.asked (H : HostS) : HostS := { H with fail := if H.fail < 0 then H.fail else H.fail - 1 }
def HostS.fails (H : HostS) : Bool := decide (H.fail = 0)
def HostS.read (H : HostS) (n : Nat) : HostS × Option (List UInt8) := (H.asked, if H.fails then none else H.seen[n]?)
/-- a whole sector is written; a failure tells its sector, and two -/
def HostS.write (H : HostS) (n : Nat) (s : List UInt8) : HostS × Option Nat :=
  if H.fails then (H.asked, some (n + 2))
  else ({ H.asked with writes := H.writes + 1, seen := H.seen.set n s, dp := H.dp.stop, late := if H.dp.stop.dead then H.late else H.late ++ [(s, n)] }, none)
def HostS.flush (H : HostS) : HostS × Option Nat :=
  if H.fails then (H.asked, some 1)
  else if H.dp.stop.dead then ({ H.asked with dp := H.dp.stop }, none)
  else ({ H.asked with dp := H.dp.stop, held := applySel (fun _ => true) 0 H.late H.held, late := [] }, none)
/-- sectors, one behind the other -/
def writesL : List (List UInt8) → HostS → Nat → HostS × Option Nat
  | [], H, _ => (H, none)
  | s :: l, H, at' => match H.write at' s with
    | (H1, some f) => (H1, some f)
    | (H1, none) => writesL l H1 (at' + 1)
end Go.Proofs.YtkkfmkhbdoeglabGreatDoor
namespace Go.Proofs.YtkkfmkhbdoeglabGreatDoor
open Go.RowKit
/-- a value is a slice of bytes that lies in F -/
def SecAt (w : World) (F : Nat → Prop) (v : Value) (b : List UInt8) : Prop := BytesAt w v b ∧ CellsOf w v 5 ∧ ∀ k, v.ownBlock = some k → F k
/-- a value is a slice of slices of bytes that lie in F, itself too -/
def RowsAt (w : World) (F : Nat → Prop) (v : Value) (rows : List (List UInt8)) : Prop :=
  ∃ vals : List Value, OwnS w 0 1 v rows.length vals ∧ CellsOf w v 112 ∧ (∀ k, v.ownBlock = some k → F k) ∧ ∀ (i : Nat) (b : List UInt8), rows[i]? = some b → ∃ u, vals[i]? = some u ∧ SecAt w F u b
def lateV (late : List (List UInt8 × Nat)) (vals : List Value) : List Value := (late.zip vals).flatMap fun x => [.int .i64 (x.1.2 : Int), x.2]
/-- a value is the slice of the writes that are late -/
def LateAt (w : World) (F : Nat → Prop) (v : Value) (late : List (List UInt8 × Nat)) : Prop :=
  ∃ vals : List Value, vals.length = late.length ∧ OwnS w 0 2 v late.length (lateV late vals) ∧ CellsOf w v 157 ∧ (∀ k, v.ownBlock = some k → F k) ∧ ∀ (i : Nat) (b : List UInt8 × Nat), late[i]? = some b → ∃ u, vals[i]? = some u ∧ SecAt w F u b.1
/-- block h is a host with these cells; what it holds lies in F -/
structure HostIn (w : World) (F : Nat → Prop) (h : Nat) (x : HV) (H : HostS) : Prop where
  dp : DpAt w 0 h x H.dp
  fail : x.fail = H.fail
  writes : x.writes = H.writes
  held : RowsAt w F x.held H.held
  seen : RowsAt w F x.seen H.seen
  late : LateAt w F x.late H.late
  apart : ∀ k, x.held.ownBlock = some k → x.seen.ownBlock ≠ some k
  foot : F h ∧ F x.r ∧ ∀ k, x.log.ownBlock = some k → F k
  lt : ∀ k, F k → k < w.heap.size
def HostAt (w : World) (F : Nat → Prop) (h : Nat) (H : HostS) : Prop := ∃ x, HostIn w F h x H
/-- behind some calls: where it lies then, and what of the old blocks has turned -/
def HostGo (w : World) (F S : Nat → Prop) (h : Nat) (H : HostS) (w' : World) : Prop := ∃ F', HostAt w' F' h H ∧ (∀ k, F' k → F k ∨ w.heap.size ≤ k) ∧ Ext (fun k => F k ∨ S k) w w'
theorem SecAt.old {w w' : World} {F : Nat → Prop} {v : Value} {b : List UInt8} (h : SecAt w F v b) (hb : ∀ k C fz, w.heap[k]? = some (.cells C 5 fz) → F k → w'.heap[k]? = w.heap[k]?) : SecAt w' F v b := by
  obtain ⟨h1, h2, h3⟩ := h
  have hk : ∀ k, v.ownBlock = some k → k < w.heap.size → w'.heap[k]? = w.heap[k]? := fun k e _ => by
    obtain ⟨C, fz, hC⟩ := h2 k e
    exact hb k C fz hC (h3 k e)
  exact ⟨SliceAt.frame h1 hk, h2.frame hk, h3⟩
theorem SecAt.mono {w : World} {F G : Nat → Prop} {v : Value} {b : List UInt8} (h : SecAt w F v b) (hg : ∀ k, F k → G k) : SecAt w G v b := ⟨h.1, h.2.1, fun k e => hg k (h.2.2 k e)⟩
theorem RowsAt.keep {w w' : World} {F : Nat → Prop} {v : Value} {rows : List (List UInt8)} (h : RowsAt w F v rows) (hs : w.heap.size ≤ w'.heap.size) (hk : ∀ k, v.ownBlock = some k → k < w.heap.size → w'.heap[k]? = w.heap[k]?)
    (hb : ∀ k C fz, w.heap[k]? = some (.cells C 5 fz) → F k → w'.heap[k]? = w.heap[k]?) : RowsAt w' F v rows := by
  obtain ⟨vals, h1, h2, h3, h4⟩ := h
  refine ⟨vals, h1.frame hs hk, h2.frame hk, h3, fun i b hi => ?_⟩
  obtain ⟨u, hu, hsec⟩ := h4 i b hi
  exact ⟨u, hu, hsec.old hb⟩
theorem RowsAt.old {w w' : World} {F : Nat → Prop} {v : Value} {rows : List (List UInt8)} (h : RowsAt w F v rows) (hs : w.heap.size ≤ w'.heap.size)
    (hb : ∀ k C t fz, w.heap[k]? = some (.cells C t fz) → (t = 5 ∨ t = 112) → F k → w'.heap[k]? = w.heap[k]?) : RowsAt w' F v rows := by
  have h' := h
  obtain ⟨vals, h1, h2, h3, h4⟩ := h'
  exact h.keep hs (fun k e _ => by
    obtain ⟨C, fz, hC⟩ := h2 k e
    exact hb k C _ fz hC (.inr rfl) (h3 k e)) fun k C fz hC hF => hb k C _ fz hC (.inl rfl) hF
theorem RowsAt.mono {w : World} {F G : Nat → Prop} {v : Value} {rows : List (List UInt8)} (h : RowsAt w F v rows) (hg : ∀ k, F k → G k) : RowsAt w G v rows := by
  obtain ⟨vals, h1, h2, h3, h4⟩ := h
  refine ⟨vals, h1, h2, fun k e => hg k (h3 k e), fun i b hi => ?_⟩
  obtain ⟨u, hu, hsec⟩ := h4 i b hi
  exact ⟨u, hu, hsec.mono hg⟩
theorem LateAt.old {w w' : World} {F : Nat → Prop} {v : Value} {late : List (List UInt8 × Nat)} (h : LateAt w F v late) (hs : w.heap.size ≤ w'.heap.size)
    (hb : ∀ k C t fz, w.heap[k]? = some (.cells C t fz) → (t = 5 ∨ t = 157) → F k → w'.heap[k]? = w.heap[k]?) : LateAt w' F v late := by
  obtain ⟨vals, h0, h1, h2, h3, h4⟩ := h
  have hk : ∀ k, v.ownBlock = some k → k < w.heap.size → w'.heap[k]? = w.heap[k]? := fun k e _ => by
    obtain ⟨C, fz, hC⟩ := h2 k e
    exact hb k C _ fz hC (.inr rfl) (h3 k e)
  refine ⟨vals, h0, h1.frame hs hk, h2.frame hk, h3, fun i b hi => ?_⟩
  obtain ⟨u, hu, hsec⟩ := h4 i b hi
  exact ⟨u, hu, hsec.old fun k C fz hC hF => hb k C _ fz hC (.inl rfl) hF⟩
theorem LateAt.mono {w : World} {F G : Nat → Prop} {v : Value} {late : List (List UInt8 × Nat)} (h : LateAt w F v late) (hg : ∀ k, F k → G k) : LateAt w G v late := by
  obtain ⟨vals, h0, h1, h2, h3, h4⟩ := h
  refine ⟨vals, h0, h1, h2, fun k e => hg k (h3 k e), fun i b hi => ?_⟩
  obtain ⟨u, hu, hsec⟩ := h4 i b hi
  exact ⟨u, hu, hsec.mono hg⟩
theorem RowsAt.get {w : World} {F : Nat → Prop} {v : Value} {rows : List (List UInt8)} (h : RowsAt w F v rows) : ∃ g cap, v = .slice g rows.length cap ∧ rows.length ≤ cap ∧ ∀ (i : Nat) (b : List UInt8), rows[i]? = some b → ∃ g0 off u, g = some ⟨g0, off, none⟩ ∧ w.cell? ⟨g0, off + i, none⟩ = some u ∧ SecAt w F u b := by
  obtain ⟨vals, h1, h2, h3, h4⟩ := h
  obtain ⟨hl, g, cap, hv, hc, hx⟩ := h1.sliceAt
  refine ⟨g, cap, hv, hc, fun i b hi => ?_⟩
  obtain ⟨u, hu, hs⟩ := h4 i b hi
  obtain ⟨hlt, e⟩ := List.getElem?_eq_some_iff.1 hu
  obtain ⟨g0, off, e1, e2⟩ := hx i hlt
  exact ⟨g0, off, u, e1, by rw [e2, e], hs⟩
/-- whatever leaves what lies in F alone -/
theorem HostIn.frame {w w' : World} {F : Nat → Prop} {h : Nat} {x : HV} {H : HostS} (hh : HostIn w F h x H) (hs : w.heap.size ≤ w'.heap.size) (hb : ∀ k, F k → w'.heap[k]? = w.heap[k]?) : HostIn w' F h x H := by
  obtain ⟨f1, f2, f3⟩ := hh.foot
  have hd := hh.dp
  exact ⟨⟨hd.row.old (hb _ f1), hd.left, hd.dead, hd.room, hd.tab.old (hb _ f2), hd.own.frame hs fun k e _ => hb k (f3 k e), hd.ltyp.frame fun k e _ => hb k (f3 k e), hd.lo, hd.lb⟩, hh.fail, hh.writes,
    hh.held.old hs fun k _ _ _ _ _ hF => hb k hF, hh.seen.old hs fun k _ _ _ _ _ hF => hb k hF, hh.late.old hs fun k _ _ _ _ _ hF => hb k hF, hh.apart, hh.foot, fun k hk => Nat.lt_of_lt_of_le (hh.lt k hk) hs⟩
theorem HostAt.frame {w w' : World} {F : Nat → Prop} {h : Nat} {H : HostS} (hh : HostAt w F h H) (hs : w.heap.size ≤ w'.heap.size) (hb : ∀ k, F k → w'.heap[k]? = w.heap[k]?) : HostAt w' F h H := by
  obtain ⟨x, hx⟩ := hh
  exact ⟨x, hx.frame hs hb⟩
theorem HostAt.lt {w : World} {F : Nat → Prop} {h : Nat} {H : HostS} (hh : HostAt w F h H) : ∀ k, F k → k < w.heap.size := by
  obtain ⟨x, hx⟩ := hh
  exact hx.lt
theorem HostAt.below {w w' : World} {F : Nat → Prop} {h : Nat} {H : HostS} (hh : HostAt w F h H) (hb : Below w.heap.size w w') : HostAt w' F h H := hh.frame hb.size fun k hk => hb.block k (hh.lt k hk)
theorem HostAt.ext {w w' : World} {F S : Nat → Prop} {h : Nat} {H : HostS} (hh : HostAt w F h H) (hx : Ext S w w') (hS : ∀ k, F k → ¬ S k) : HostAt w' F h H := hh.frame hx.size fun k hk => hx.block k (hh.lt k hk) (hS k hk)
theorem HostGo.start {w : World} {F S : Nat → Prop} {h : Nat} {H : HostS} (hh : HostAt w F h H) : HostGo w F S h H w := ⟨F, hh, fun _ => .inl, Ext.refl _ _⟩
theorem HostGo.below {w w1 w' : World} {F S : Nat → Prop} {h : Nat} {H : HostS} (hh : HostGo w F S h H w1) (hb : Below w1.heap.size w1 w') : HostGo w F S h H w' := by
  obtain ⟨F', h1, h2, h3⟩ := hh
  exact ⟨F', h1.below hb, h2, h3.trans (Ext.of_new hb)⟩
theorem HostGo.trans {w w1 w2 : World} {F F1 S : Nat → Prop} {h : Nat} {H2 : HostS} (h2 : ∀ k, F1 k → F k ∨ w.heap.size ≤ k) (h3 : Ext (fun k => F k ∨ S k) w w1) (hg : HostGo w1 F1 S h H2 w2) : HostGo w F S h H2 w2 := by
  obtain ⟨F2, g1, g2, g3⟩ := hg
  refine ⟨F2, g1, fun k hk => ?_, h3.trans' g3 fun k hk => ?_⟩
  · rcases g2 k hk with e | e
    · exact h2 k e
    · exact .inr (Nat.le_trans h3.size e)
  · rcases hk with e | e
    · exact (h2 k e).imp .inl id
    · exact .inl (.inr e)
/-- a host of which its own row alone has turned, what is late too -/
theorem HostIn.rowL {w w1 : World} {F : Nat → Prop} {h : Nat} {x x' : HV} {H H' : HostS} (hh : HostIn w F h x H) (h1 : HostIs w1 h x') (hs : w1.heap.size = w.heap.size) (hx : Ext (fun i => i = h) w w1)
    (e1 : x'.held = x.held ∧ x'.seen = x.seen ∧ x'.r = x.r ∧ x'.log = x.log ∧ x'.room = x.room) (e2 : H'.held = H.held ∧ H'.seen = H.seen ∧ H'.dp.S = H.dp.S ∧ H'.dp.log = H.dp.log ∧ H'.dp.room = H.dp.room)
    (e3 : x'.left = H'.dp.left ∧ x'.dead = H'.dp.dead ∧ x'.fail = H'.fail ∧ x'.writes = H'.writes) (lb : -1 ≤ H'.dp.left ∧ H'.dp.left ≤ 9223372036854775807) (hlate : LateAt w1 F x'.late H'.late) : HostIn w1 F h x' H' := by
  obtain ⟨f1, f2, f3⟩ := hh.foot
  have hd := hh.dp
  have hb : ∀ k, k < w.heap.size → k ≠ h → w1.heap[k]? = w.heap[k]? := fun k hk hne => hx.block k hk hne
  have hrow : w.heap[h]? = _ := hd.row
  have ht : ∀ (k : Nat) (C : Array Value) (t : TypeId) (fz : Nat × Nat), w.heap[k]? = some (Obj.cells C t fz) → t ≠ 125 → w1.heap[k]? = w.heap[k]? := fun k C t fz hk hne => hb k (block_lt hk) fun e => by
    rw [e, hrow] at hk
    cases hk
    exact hne rfl
  have hle : w.heap.size ≤ w1.heap.size := by omega
  obtain ⟨a1, a2, a4, a5, a6⟩ := e1
  obtain ⟨b1, b2, b4, b5, b6⟩ := e2
  obtain ⟨d1, d2, d3, d4⟩ := e3
  refine ⟨⟨h1, d1, d2, by rw [a6, b6]; exact hd.room, ?_, ?_, ?_, ⟨Nat.zero_le _, Nat.zero_le _⟩, lb⟩, d3, d4, ?_, ?_, hlate, by rw [a1, a2]; exact hh.apart, by rw [a4, a5]; exact hh.foot, fun k hk => Nat.lt_of_lt_of_le (hh.lt k hk) hle⟩
  · rw [a4, b4]
    exact hd.tab.old (hb _ hd.tab.lt fun e => hd.tab.ne_row hrow e.symm)
  · rw [a5, b5]
    exact hd.own.frame hle fun k e _ => by
      obtain ⟨C, fz, hC⟩ := hd.ltyp k e
      exact ht k C _ fz hC (by decide)
  · rw [a5]
    exact hd.ltyp.frame fun k e _ => by
      obtain ⟨C, fz, hC⟩ := hd.ltyp k e
      exact ht k C _ fz hC (by decide)
  · rw [a1, b1]
    exact hh.held.old hle fun k C t fz hk h0 _ => ht k C t fz hk (by rcases h0 with rfl | rfl <;> decide)
  · rw [a2, b2]
    exact hh.seen.old hle fun k C t fz hk h0 _ => ht k C t fz hk (by rcases h0 with rfl | rfl <;> decide)
/-- a host of which its own row alone has turned -/
theorem HostIn.row {w w1 : World} {F : Nat → Prop} {h : Nat} {x x' : HV} {H H' : HostS} (hh : HostIn w F h x H) (h1 : HostIs w1 h x') (hs : w1.heap.size = w.heap.size) (hx : Ext (fun i => i = h) w w1)
    (e1 : x'.held = x.held ∧ x'.seen = x.seen ∧ x'.late = x.late ∧ x'.r = x.r ∧ x'.log = x.log ∧ x'.room = x.room) (e2 : H'.held = H.held ∧ H'.seen = H.seen ∧ H'.late = H.late ∧ H'.dp.S = H.dp.S ∧ H'.dp.log = H.dp.log ∧ H'.dp.room = H.dp.room)
    (e3 : x'.left = H'.dp.left ∧ x'.dead = H'.dp.dead ∧ x'.fail = H'.fail ∧ x'.writes = H'.writes) (lb : -1 ≤ H'.dp.left ∧ H'.dp.left ≤ 9223372036854775807) : HostIn w1 F h x' H' := by
  have hrow : w.heap[h]? = _ := hh.dp.row
  obtain ⟨a1, a2, a3, a4, a5, a6⟩ := e1
  obtain ⟨b1, b2, b3, b4, b5, b6⟩ := e2
  refine hh.rowL h1 hs hx ⟨a1, a2, a4, a5, a6⟩ ⟨b1, b2, b4, b5, b6⟩ e3 lb ?_
  rw [a3, b3]
  exact hh.late.old (by omega) fun k C t fz hk h0 _ => hx.block k (block_lt hk) fun e => by
    have e' : k = h := e
    rw [e', hrow] at hk
    cases hk
    rcases h0 with h0 | h0 <;> exact absurd h0 (by decide)
/-- a host behind a call of its disk -/
theorem HostIn.asked {w w1 : World} {F : Nat → Prop} {h : Nat} {x : HV} {H : HostS} (hh : HostIn w F h x H) (h1 : HostIs w1 h { x with fail := if x.fail < 0 then x.fail else x.fail - 1 }) (hs : w1.heap.size = w.heap.size) (hx : Ext (fun i => i = h) w w1) :
    HostIn w1 F h { x with fail := if x.fail < 0 then x.fail else x.fail - 1 } H.asked := by
  refine hh.row h1 hs hx ⟨rfl, rfl, rfl, rfl, rfl, rfl⟩ ⟨rfl, rfl, rfl, rfl, rfl, rfl⟩ ⟨hh.dp.left, hh.dp.dead, ?_, hh.writes⟩ hh.dp.lb
  show _ = H.asked.fail
  unfold HostS.asked
  simp only [hh.fail]
theorem stop_lb {d : DpS} (lb : -1 ≤ d.left ∧ d.left ≤ 9223372036854775807) : -1 ≤ d.stop.left ∧ d.stop.left ≤ 9223372036854775807 := by
  unfold DpS.stop
  simp only
  split <;> omega
/-- .. behind an operation more -/
theorem HostIn.stopped {w w1 : World} {F : Nat → Prop} {h : Nat} {x : HV} {H : HostS} (hh : HostIn w F h x H) (h1 : HostIs w1 h x.stop) (hs : w1.heap.size = w.heap.size) (hx : Ext (fun i => i = h) w w1) :
    HostIn w1 F h x.stop { H with dp := H.dp.stop } := by
  refine hh.row h1 hs hx ⟨rfl, rfl, rfl, rfl, rfl, rfl⟩ ⟨rfl, rfl, rfl, rfl, rfl, rfl⟩ ⟨?_, ?_, hh.fail, hh.writes⟩ (stop_lb hh.dp.lb)
  · unfold HV.stop DpS.stop
    simp only [hh.dp.left]
  · unfold HV.stop DpS.stop
    simp only [hh.dp.left, hh.dp.dead]
theorem RowsAt.set {w w' : World} {F : Nat → Prop} {gs os cap n : Nat} {rows : List (List UInt8)} (h : RowsAt w F (.slice (some ⟨gs, os, none⟩) rows.length cap) rows) (hn : n < rows.length) {u : Value} {s : List UInt8} (hu : ∀ C fz, w.heap[gs]? = some (.cells C 112 fz) → SecAt w F u s)
    (he : w' = w.setCell ⟨gs, os + n, none⟩ u) : RowsAt w' F (.slice (some ⟨gs, os, none⟩) rows.length cap) (rows.set n s) := by
  obtain ⟨vals, h1, h2, h3, h4⟩ := h
  obtain ⟨C, fz, hC⟩ := h2 gs rfl
  have hs := hu C fz hC
  have hrow : w'.heap[gs]? = some (.cells (C.setIfInBounds (os + n) u) 112 fz) := by rw [he]; exact heap_setCell _ _ _ _ hC
  have hoff : ∀ k, k ≠ gs → w'.heap[k]? = w.heap[k]? := fun k hk => by rw [he]; exact Below.heap_setCell w ⟨gs, os + n, none⟩ u k hk
  have hsec : ∀ (v : Value) (b : List UInt8), SecAt w F v b → SecAt w' F v b := fun v b hv => hv.old fun k C' fz' hk _ => hoff k fun e => by
    rw [e, hC] at hk
    cases hk
  have hlen : w'.heap.size = w.heap.size := by rw [he, size_setCell]
  obtain ⟨hl, hown⟩ := h1
  refine ⟨vals.set n u, ⟨by rw [List.length_set, hl, List.length_set], ?_⟩, fun k hk => ?_, h3, fun i b hi => ?_⟩
  · rcases hown with ⟨e, -⟩ | ⟨g', off', cap', e, hb, hlt, hc, hm, hx, hf⟩
    · cases e
    · cases e
      right
      refine ⟨gs, os, cap, by rw [List.length_set], hb, by omega, by rw [List.length_set]; exact hc, hm, fun i hi => ?_, fun i hi => ?_⟩
      · rw [List.length_set] at hi
        rw [List.getElem_set]
        split
        · rename_i e
          subst e
          rw [he]
          exact World.cell?_setCell_same' w _ u (hf n (by omega)).1
        · rename_i hne
          rw [he, World.cell?_setCell_other w (a := ⟨gs, os + n, none⟩) (b := ⟨gs, os + i, none⟩) u (by intro e; injection e with e1 e2; omega)]
          exact hx i hi
      · obtain ⟨f1, f2⟩ := hf i hi
        refine ⟨?_, ?_⟩
        · by_cases e : i = n
          · subst e
            rw [he, World.cell?_setCell_same' w _ u f1]
            rfl
          · rw [he, World.cell?_setCell_other w (a := ⟨gs, os + n, none⟩) (b := ⟨gs, os + i, none⟩) u (by intro e; injection e with e1 e2; omega)]
            exact f1
        · rw [he, World.frozen?_setCell]
          exact f2
  · cases hk
    exact ⟨_, _, hrow⟩
  · by_cases e : i = n
    · subst e
      rw [List.getElem?_set_self hn] at hi
      cases hi
      exact ⟨u, by rw [List.getElem?_set_self (by omega)], hsec _ _ hs⟩
    · rw [List.getElem?_set_ne (Ne.symm e)] at hi
      obtain ⟨v, hv, hv2⟩ := h4 i b hi
      exact ⟨v, by rw [List.getElem?_set_ne (Ne.symm e)]; exact hv, hsec _ _ hv2⟩
theorem SecAt.of_row {w : World} {F : Nat → Prop} {B n : Nat} {l : List UInt8} (h : w.heap[B]? = some (.cells (u8s l).toArray 5 (0, 0))) (hF : F B) (hn : l.length = n) : SecAt w F (.slice (some ⟨B, 0, none⟩) n n) l := by
  subst hn
  refine ⟨BytesAt.mk' (Nat.le_refl _) fun i hi => ⟨B, 0, rfl, ?_⟩, fun k hk => ?_, fun k hk => ?_⟩
  · have := cell_of_row w B (0 + i) _ _ _ h
    rw [this, Nat.zero_add, List.getElem?_toArray, u8s_get l i hi]
  · cases hk
    exact ⟨_, _, h⟩
  · cases hk
    exact hF
/-- an append to a slice of the call's own, of elements of k cells, inside a region -/
theorem step_append_own {ops : Array Oper} {o : Oper} {a : Act} {K : Act → World → Prop} {Q : Exit → Act → World → Prop} {E : Prop} {w : World} (hgd : o.guard = none) (s x : Operand) (t e : TypeId) (k b : Nat) (z : Value)
    (ht : Tryz.prog.underlying t = some (.slice e)) (hinfo : (Tryz.prog.info? e).map (fun i => (i.zero, i.size, i.bytes)) = some (some z, k, b)) (hzs : z.cells.size = k) (hk : 0 < k)
    (ho : o.op = .call { callee := .builtin .append, args := #[s, x], argTypes := #[t, t] })
    (base : Nat) (v : Value) (n : Nat) (xs : List Value) (hv : a.eval s = v) (hown : OwnS w base k v n xs) (hT : CellsOf w v e) (m : Nat) (news : List Value) (hs : SliceAt w (a.eval x) k m news) (h1 : ∀ u ∈ news, u.oneCell' = true)
    (hlen : n + m ≤ 9223372036854775807) (hbytes : (n + m) * b ≤ 140737488355328) (hbase : base ≤ w.heap.size)
    (h : ∀ v' w', OwnS w' base k v' (n + m) (xs ++ news) → w.grownBy w' v.ownBlock → CellsOf w' v' e → (∀ b, v'.ownBlock = some b → v.ownBlock = some b ∨ b = w.heap.size) →
      K (a.put o.dst v') w') : if Region.wanted o (yielded ops a.tmps) = true then Oper.wp Tryz.prog o a w K Q else E := by
  have hw : Region.wanted o (yielded ops a.tmps) = true := by simp [Region.wanted, hgd]
  rw [if_pos hw]
  obtain ⟨i0, hi, hz0, hz1, hz2⟩ := info_parts hinfo
  exact wp_append_own_srcA s x _ _ ho base k e i0 z ht hi hz0 hz1 (by rw [hz1]; exact hzs) (by omega) v n xs hv hown hT m news (SliceAt.src ht hs h1) hlen (by rw [hz2]; exact hbytes) hbase h
theorem own_not_h {w : World} {v : Value} {e T : TypeId} {gs : Nat} {C : Array Value} {fz : Nat × Nat} (h : CellsOf w v e) (hg : w.heap[gs]? = some (.cells C T fz)) (hT : T ≠ e) : ∀ k, v.ownBlock = some k → k ≠ gs := fun k hk e' => by
  obtain ⟨C', fz', hC⟩ := h k hk
  rw [e', hg] at hC
  cases hC
  exact hT rfl
end Go.Proofs.YtkkfmkhbdoeglabGreatDoor
namespace Go.Proofs.YtkkfmkhbdoeglabGreatDoor
/-- a log: the greatest stamp, the newer place, where the next delta goes -/
structure LogS where
  stamp : Nat
  slot : Nat
  next : Nat
/-- bytes are written from a sector on -/
def logWrite (H : HostS) (g : LogS) (at' : Nat) (data : List UInt8) : HostS × Option Nat := match writesL (secsOf (g.stamp + 1) data) H at' with
  | (H1, some f) => (H1, some f)
  | (H1, none) => H1.flush
def keepOf (g : LogS) (n : Nat) : HostS × Option Nat → HostS × LogS × Option Nat
  | (H1, some f) => (H1, { g with stamp := g.stamp + 1 }, some f)
  | (H1, none) => (H1, ⟨g.stamp + 1, 1 - g.slot, 2 * placeOf n⟩, none)
def logKeep (H : HostS) (g : LogS) (v : Nat) (T : List E) : HostS × LogS × Option Nat := keepOf g H.seen.length (logWrite H g ((1 - g.slot) * placeOf H.seen.length) (allB v T))
def nextOf (g : LogS) (b : List UInt8) : HostS × Option Nat → HostS × LogS × Option Nat
  | (H1, some f) => (H1, { g with stamp := g.stamp + 1 }, some f)
  | (H1, none) => (H1, { g with stamp := g.stamp + 1, next := g.next + partsOf b.length }, none)
def logNext (H : HostS) (g : LogS) (b : List UInt8) : HostS × LogS × Option Nat := nextOf g b (logWrite H g g.next b)
def putOf (b : List UInt8) : HostS × LogS × Option Nat → HostS × LogS × Option Nat
  | (H1, g1, some f) => (H1, g1, some f)
  | (H1, g1, none) => logNext H1 g1 b
def logPut (H : HostS) (g : LogS) (b : List UInt8) (v : Nat) (T : List E) : HostS × LogS × Option Nat :=
  if H.seen.length < g.next + partsOf b.length then putOf b (logKeep H g v T) else logNext H g b
/-- an agent with its log; the sector (and two) of its fault -/
structure PAg where
  a : AgA
  sec : Nat
  lg : LogS
def Taking.log (tk : Taking) (H : HostS) (P : PAg) : HostS × LogS × Option Nat := match tk with
  | .delta v os => logPut H P.lg (encB v os) P.a.V P.a.T
  | .state v T => logKeep H P.lg v T
/-- a datapath is brought to entries -/
def HostS.bring (H : HostS) (T : List E) : HostS := { H with dp := H.dp.run (opsB H.dp.S T) }
/-- which of the late writes took hold -/
def selB (mask : Int) (i : Nat) : Bool := decide (mask / 2 ^ (i % 60) % 2 = 1)
def HostS.again (H : HostS) (mask cut fail : Int) : HostS :=
  { held := applySel (selB mask) 0 H.late H.held, seen := applySel (selB mask) 0 H.late H.held, late := [], fail := max fail (-1), writes := H.writes, dp := { H.dp with dead := false, left := max cut (-1) } }
def newH (n : Nat) (room : Nat → Int) : HostS := ⟨List.replicate n zeroSec, List.replicate n zeroSec, [], -1, 0, ⟨-1, false, room, [], []⟩⟩
end Go.Proofs.YtkkfmkhbdoeglabGreatDoor
namespace Go.Proofs.YtkkfmkhbdoeglabGreatDoor
open Go.RowKit Go.Shelf
/-- the writes that are late, one by one -/
theorem LateAt.get {w : World} {F : Nat → Prop} {v : Value} {late : List (List UInt8 × Nat)} (h : LateAt w F v late) : ∃ g cap, v = .slice g late.length cap ∧ late.length ≤ cap ∧ ∀ (i : Nat) (b : List UInt8 × Nat), late[i]? = some b → ∃ g0 off u, g = some ⟨g0, off, none⟩ ∧ w.cell? ⟨g0, off + i * 2, none⟩ = some (.int .i64 (b.2 : Int)) ∧ w.cell? ⟨g0, off + i * 2 + 1, none⟩ = some u ∧ SecAt w F u b.1 := by
  obtain ⟨vals, h0, h1, h2, h3, h4⟩ := h
  obtain ⟨hl, g, cap, hv, hc, hx⟩ := h1.sliceAt
  refine ⟨g, cap, hv, hc, fun i b hi => ?_⟩
  obtain ⟨u, hu, hs⟩ := h4 i b hi
  have key : ∀ (late : List (List UInt8 × Nat)) (vals : List Value) (i : Nat) (b : List UInt8 × Nat) (u : Value), late[i]? = some b → vals[i]? = some u → (lateV late vals)[i * 2]? = some (.int .i64 (b.2 : Int)) ∧ (lateV late vals)[i * 2 + 1]? = some u := by
    intro late
    induction late with
    | nil => intro vals i b u h; simp at h
    | cons y late ih =>
      intro vals i b u h k
      cases vals with
      | nil => simp at k
      | cons z vals =>
        have e : lateV (y :: late) (z :: vals) = .int .i64 (y.2 : Int) :: z :: lateV late vals := rfl
        rw [e]
        cases i with
        | zero =>
          simp at h k
          subst h k
          exact ⟨rfl, rfl⟩
        | succ i =>
          have := ih vals i b u (by simpa using h) (by simpa using k)
          rw [show (i + 1) * 2 = i * 2 + 1 + 1 by omega, show i * 2 + 1 + 1 + 1 = (i * 2 + 1) + 1 + 1 by omega]
          simpa using this
  obtain ⟨k0, k1⟩ := key late vals i b u hi hu
  obtain ⟨l0, e0⟩ := List.getElem?_eq_some_iff.1 k0
  obtain ⟨l1, e1⟩ := List.getElem?_eq_some_iff.1 k1
  obtain ⟨g0, off, e2, c0⟩ := hx _ l0
  obtain ⟨g0', off', e2', c1⟩ := hx _ l1
  rw [e2] at e2'
  cases e2'
  exact ⟨g0, off, u, e2, by rw [c0, e0], by rw [Nat.add_assoc, c1, e1], hs⟩
theorem RowsAt.store {w : World} {F : Nat → Prop} {v : Value} {rows : List (List UInt8)} (h : RowsAt w F v rows) {n : Nat} (hn : n < rows.length) : ∃ gs os cap u0, v = .slice (some ⟨gs, os, none⟩) rows.length cap ∧ w.cell? ⟨gs, os + n, none⟩ = some u0 ∧ w.frozen? ⟨gs, os + n, none⟩ = false ∧ (∃ C fz, w.heap[gs]? = some (.cells C 112 fz)) ∧ F gs := by
  obtain ⟨vals, h1, h2, h3, h4⟩ := h
  obtain ⟨hl, hown⟩ := h1
  rcases hown with ⟨e, e0⟩ | ⟨g, off, cap, rfl, -, -, hc, -, hx, hf⟩
  · omega
  · obtain ⟨f1, f2⟩ := hf n (by omega)
    obtain ⟨u0, hu0⟩ := Option.isSome_iff_exists.1 f1
    exact ⟨g, off, cap, u0, rfl, hu0, f2, h2 g rfl, h3 g rfl⟩
theorem LateAt.nil (w : World) (F : Nat → Prop) : LateAt w F (.slice none 0 0) [] := ⟨[], rfl, OwnS.nil _ _ _, CellsOf.nil _ _, fun k e => by simp [Value.ownBlock] at e, fun i b h => by simp at h⟩
end Go.Proofs.YtkkfmkhbdoeglabGreatDoor
