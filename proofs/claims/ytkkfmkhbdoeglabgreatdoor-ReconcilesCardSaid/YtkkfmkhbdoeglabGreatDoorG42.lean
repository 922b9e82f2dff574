/- A part of what is proved here: lemmas and contracts of single functions. No condition but those that each names. -/
import Derived.Test.YtkkfmkhbdoeglabGreatDoorG41
namespace Go.Proofs.YtkkfmkhbdoeglabGreatDoor
open Go.RowKit Go.Shelf
/-- how much room table t gets -/
def roomA (l : List Int) (t : Nat) : Int := if t < l.length then min (max (l.getD t 0) 0) 40 else 40
def roomN (l : List Int) : Nat → Int
  | 0 => roomA l 0
  | 1 => roomA l 1
  | _ => roomA l 2
theorem ext_of_grownV {w w' : World} {v : Value} (h : w.grownBy w' v.ownBlock) : Ext (fun k => v.ownBlock = some k) w w' := ⟨h.os, h.tape, h.output, h.size, fun k hk hs => h.block k hk fun e => hs e.symm⟩
theorem RowsAt.push {w w7 : World} {F F7 : Nat → Prop} {v v7 u : Value} {vals : List Value} {rows : List (List UInt8)} {s : List UInt8} (h1 : OwnS w 0 1 v rows.length vals) (h2 : CellsOf w v 112) (h4 : ∀ (i : Nat) (b : List UInt8), rows[i]? = some b → ∃ u, vals[i]? = some u ∧ SecAt w F u b)
    (hx : Ext (fun k => v.ownBlock = some k) w w7) (hown : OwnS w7 0 1 v7 (rows.length + 1) (vals ++ [u])) (hty : CellsOf w7 v7 112) (hF : ∀ k, F k → F7 k) (h7 : ∀ k, v7.ownBlock = some k → F7 k) (hu : SecAt w7 F7 u s) : RowsAt w7 F7 v7 (rows ++ [s]) := by
  have hvl : vals.length = rows.length := by have := h1.1; omega
  refine ⟨vals ++ [u], by rw [List.length_append]; exact hown, hty, h7, fun i b hi => ?_⟩
  by_cases hi' : i < rows.length
  · rw [List.getElem?_append_left hi'] at hi
    obtain ⟨v0, hv, hv2⟩ := h4 i b hi
    refine ⟨v0, by rw [List.getElem?_append_left (by omega)]; exact hv, (hv2.old fun k C fz hk _ => hx.block k (block_lt hk) fun e => ?_).mono hF⟩
    obtain ⟨C', fz', h'⟩ := h2 k e
    rw [hk] at h'
    cases h'
  · have : i = rows.length := by
      have := (List.getElem?_eq_some_iff.1 hi).1
      simp at this
      omega
    subst this
    rw [List.getElem?_append_right (Nat.le_refl _), Nat.sub_self] at hi
    cases hi
    exact ⟨u, by rw [List.getElem?_append_right (by omega), hvl, Nat.sub_self]; rfl, hu⟩
theorem rowsOne_at (w : World) (u : Value) : SliceAt (w.alloc (.cells #[u] 112)) (.slice (some ⟨w.heap.size, 0, none⟩) 1 1) 1 1 [u] := by
  refine ⟨rfl, _, 1, rfl, Nat.le_refl _, fun i hi => ⟨_, 0, rfl, ?_⟩⟩
  obtain rfl : i = 0 := by simp at hi; omega
  rw [Nat.zero_add, cell_new]
  rfl
theorem infoRows : (Tryz.prog.info? 112).map (fun i => (i.zero, i.size, i.bytes)) = some (some (.slice none 0 0), 1, 24) := by kernel_rfl
/-- the cells of a host that is new -/
def newHV (hv sv : Value) (r : Nat) (r0 r1 r2 : Int) : HV := ⟨hv, sv, .slice none 0 0, -1, -1, false, 0, r0, r1, r2, r, .slice none 0 0⟩
def NhRel (w : World) (i : Nat) (wr : World) : Prop := ∃ hv sv, HostIs wr (w.heap.size + 1) (newHV hv sv w.heap.size 0 0 0) ∧ RowsAt wr (fun k => w.heap.size + 2 ≤ k ∧ k < wr.heap.size) hv (List.replicate i zeroSec) ∧ RowsAt wr (fun k => w.heap.size + 2 ≤ k ∧ k < wr.heap.size) sv (List.replicate i zeroSec) ∧
  (∀ k, hv.ownBlock = some k → sv.ownBlock ≠ some k) ∧ Below w.heap.size w wr ∧ TabAt wr w.heap.size []
theorem zeroCells_sec : (madeCells #[Value.int .u8 0] 64) = (u8s zeroSec).toArray := by
  apply Array.toList_inj.1
  have e : (madeCells #[Value.int .u8 0] 64).toList = List.replicate 64 (Value.int .u8 0) := toList_madeCells_one _ _
  rw [e]
  unfold zeroSec u8s
  rw [List.map_replicate]
  rfl
/-- a sector more for a host that is being made -/
theorem nh_add {w wr w7 w8 : World} {i : Nat} {mv ov v7 : Value} {vals C : List Value} {rows orows : List (List UInt8)} (hB : Below w.heap.size w wr) (hw : w.heap.size + 2 ≤ wr.heap.size) (row7 : w7.heap[w.heap.size + 1]? = some (.cells C.toArray 125 (0, 0)))
    (m1 : OwnS wr 0 1 mv rows.length vals) (m2 : CellsOf wr mv 112) (m3 : ∀ k, mv.ownBlock = some k → w.heap.size + 2 ≤ k ∧ k < wr.heap.size) (m4 : ∀ (i : Nat) (b : List UInt8), rows[i]? = some b → ∃ u, vals[i]? = some u ∧ SecAt wr (fun k => w.heap.size + 2 ≤ k ∧ k < wr.heap.size) u b)
    (ho : RowsAt wr (fun k => w.heap.size + 2 ≤ k ∧ k < wr.heap.size) ov orows) (ha : ∀ k, mv.ownBlock = some k → ov.ownBlock ≠ some k) (tab : TabAt wr w.heap.size [])
    (hx : Ext (fun k => mv.ownBlock = some k) wr w7) (hs7 : w7.heap[wr.heap.size]? = some (.cells (madeCells #[.int .u8 0] 64) 5 (0, 0))) (hown : OwnS w7 0 1 v7 (rows.length + 1) (vals ++ [.slice (some ⟨wr.heap.size, 0, none⟩) 64 64])) (hty : CellsOf w7 v7 112) (hb : ∀ b, v7.ownBlock = some b → mv.ownBlock = some b ∨ wr.heap.size ≤ b) (he : w8 = w7.setCell ⟨w.heap.size + 1, i, none⟩ v7) :
    RowsAt w8 (fun k => w.heap.size + 2 ≤ k ∧ k < w8.heap.size) v7 (rows ++ [zeroSec]) ∧ RowsAt w8 (fun k => w.heap.size + 2 ≤ k ∧ k < w8.heap.size) ov orows ∧ (∀ k, v7.ownBlock = some k → ov.ownBlock ≠ some k) ∧ Below w.heap.size w w8 ∧ TabAt w8 w.heap.size [] ∧ w8.heap[w.heap.size + 1]? = some (.cells (C.toArray.setIfInBounds i v7) 125 (0, 0)) ∧ wr.heap.size ≤ w8.heap.size := by
  have hsz : w8.heap.size = w7.heap.size := by rw [he, size_setCell]
  have hsx := hx.size
  have hoff : ∀ k, k ≠ w.heap.size + 1 → w8.heap[k]? = w7.heap[k]? := fun k hk => by rw [he]; exact Below.heap_setCell w7 ⟨w.heap.size + 1, i, none⟩ v7 k hk
  have h7lt : ∀ b, v7.ownBlock = some b → w.heap.size + 2 ≤ b ∧ b < w7.heap.size := fun b e => by
    refine ⟨(hb b e).elim (fun h => (m3 b h).1) (fun h => by omega), ?_⟩
    obtain ⟨C, fz, hC⟩ := hty b e
    exact block_lt hC
  have hslt := block_lt hs7
  have hu : SecAt w7 (fun k => w.heap.size + 2 ≤ k ∧ k < w7.heap.size) (.slice (some ⟨wr.heap.size, 0, none⟩) 64 64) zeroSec := by
    rw [zeroCells_sec] at hs7
    exact SecAt.of_row hs7 ⟨hw, hslt⟩ (by decide)
  have h1 := RowsAt.push (F7 := fun k => w.heap.size + 2 ≤ k ∧ k < w7.heap.size) m1 m2 m4 hx hown hty (fun k hk => ⟨hk.1, by omega⟩) h7lt hu
  refine ⟨(h1.old (by omega) fun k C t fz hk _ hF => hoff k (by have := hF.1; omega)).mono fun k hk => ⟨hk.1, by omega⟩, ?_, fun k e e2 => ?_, ?_, tab.old ((hoff _ (by omega)).trans (hx.block _ (by omega) fun e => by have := m3 _ e; omega)), ?_, by omega⟩
  · have h2 := ho.keep (w' := w8) (by omega) (fun k e hk => (hoff k (by obtain ⟨_, _, _, h3, _⟩ := ho; have := h3 k e; omega)).trans (hx.block k hk fun e' => ha k e' e)) (fun k C fz hk hF => (hoff k (by have := hF.1; omega)).trans (hx.block k (block_lt hk) fun e => by
      obtain ⟨C', fz', h'⟩ := m2 k e
      rw [hk] at h'
      cases h'))
    exact h2.mono fun k hk => ⟨hk.1, by omega⟩
  · rcases hb k e with h | h
    · exact ha k h e2
    · obtain ⟨_, _, _, h3, _⟩ := ho
      have := h3 k e2
      omega
  · rw [he]
    exact (hB.trans (hx.below (by omega) fun j hj e => by have := m3 j e; omega)).setCell (p := ⟨w.heap.size + 1, i, none⟩) (by simp) v7
  · rw [he]
    exact heap_setCell _ _ i v7 row7
theorem RowsAt.nil (w : World) (F : Nat → Prop) : RowsAt w F (.slice none 0 0) [] := ⟨[], OwnS.nil _ _ _, CellsOf.nil _ _, fun k e => by simp [Value.ownBlock] at e, fun i b h => by simp at h⟩
def rr (l : List Int) (k : Nat) (v : Int) (t : Nat) : Int := if t < k then roomA l t else if t = k then v else 0
theorem rr_next (l : List Int) (k : Nat) (t : Nat) : rr l (k + 1) 0 t = rr l k (roomA l k) t := by
  unfold rr
  by_cases h : t < k
  · rw [if_pos h, if_pos (by omega)]
  · by_cases h2 : t = k
    · subst h2
      rw [if_neg h, if_pos rfl, if_pos (by omega)]
    · rw [if_neg h, if_neg h2, if_neg (by omega), if_neg_zero]
where if_neg_zero {p : Prop} [Decidable p] : (if p then (0 : Int) else 0) = 0 := by split <;> rfl
def NhR (w : World) (n : Nat) (l : List Int) (k : Nat) (v : Int) (wr : World) : Prop := ∃ hv sv, HostIs wr (w.heap.size + 1) (newHV hv sv w.heap.size (rr l k v 0) (rr l k v 1) (rr l k v 2)) ∧ RowsAt wr (fun k => w.heap.size + 2 ≤ k ∧ k < wr.heap.size) hv (List.replicate n zeroSec) ∧ RowsAt wr (fun k => w.heap.size + 2 ≤ k ∧ k < wr.heap.size) sv (List.replicate n zeroSec) ∧
  (∀ k, hv.ownBlock = some k → sv.ownBlock ≠ some k) ∧ Below w.heap.size w wr ∧ TabAt wr w.heap.size []
theorem NhRel.rooms {w wr : World} {n : Nat} {l : List Int} (h : NhRel w n wr) : NhR w n l 0 0 wr := by
  obtain ⟨hv, sv, h1, h2⟩ := h
  exact ⟨hv, sv, h1, h2⟩
theorem NhR.next {w wr : World} {n k : Nat} {l : List Int} (h : NhR w n l k (roomA l k) wr) : NhR w n l (k + 1) 0 wr := by
  obtain ⟨hv, sv, h1, h2⟩ := h
  exact ⟨hv, sv, by rw [rr_next, rr_next, rr_next]; exact h1, h2⟩
theorem NhR.cell {w wr : World} {n k : Nat} {l : List Int} {v : Int} (h : NhR w n l k v wr) (hk : k < 3) : wr.cell? ⟨w.heap.size + 1, 7 + k, none⟩ = some (.int .i64 v) ∧ wr.frozen? ⟨w.heap.size + 1, 7 + k, none⟩ = false := by
  obtain ⟨hv, sv, h1, -⟩ := h
  refine ⟨?_, frozen_of_row _ _ _ _ _ h1⟩
  obtain rfl | rfl | rfl : k = 0 ∨ k = 1 ∨ k = 2 := by omega
  · exact cell_of_row _ _ 7 _ _ _ h1
  · exact cell_of_row _ _ 8 _ _ _ h1
  · exact cell_of_row _ _ 9 _ _ _ h1
theorem NhR.set {w wr : World} {n k : Nat} {l : List Int} {v : Int} (h : NhR w n l k v wr) (hk : k < 3) (v' : Int) : NhR w n l k v' (wr.setCell ⟨w.heap.size + 1, 7 + k, none⟩ (.int .i64 v')) := by
  obtain ⟨hv, sv, h1, h2, h3, h4, h5, h6⟩ := h
  have hoff : ∀ j, j ≠ w.heap.size + 1 → (wr.setCell ⟨w.heap.size + 1, 7 + k, none⟩ (.int .i64 v')).heap[j]? = wr.heap[j]? := fun j hj => Below.heap_setCell wr ⟨w.heap.size + 1, 7 + k, none⟩ _ j hj
  have hsz : (wr.setCell ⟨w.heap.size + 1, 7 + k, none⟩ (.int .i64 v')).heap.size = wr.heap.size := size_setCell _ _ _
  refine ⟨hv, sv, ?_, ?_, ?_, h4, h5.setCell (p := ⟨w.heap.size + 1, 7 + k, none⟩) (by simp) _, h6.old (hoff _ (by omega))⟩
  · have := heap_setCell _ _ (7 + k) (.int .i64 v') h1
    obtain rfl | rfl | rfl : k = 0 ∨ k = 1 ∨ k = 2 := by omega
    all_goals exact this
  · rw [hsz]
    exact h2.old (by omega) fun k C t fz hk _ hF => hoff k (by have := hF.1; omega)
  · rw [hsz]
    exact h3.old (by omega) fun k C t fz hk _ hF => hoff k (by have := hF.1; omega)
theorem NhR.drew {w wr : World} {n k : Nat} {l : List Int} {v : Int} (h : NhR w n l k v wr) : NhR w n l k v wr.drew := by
  obtain ⟨hv, sv, h1, h2, h3, h4, h5, h6⟩ := h
  exact ⟨hv, sv, h1, h2, h3, h4, h5.drew, h6⟩
theorem NhR.host {w wr : World} {n : Nat} {l : List Int} (h : NhR w n l 3 0 wr) : HostAt wr (fun k => w.heap.size ≤ k ∧ k < wr.heap.size) (w.heap.size + 1) (newH n (roomN l)) ∧ Below w.heap.size w wr := by
  obtain ⟨hv, sv, h1, h2, h3, h4, h5, h6⟩ := h
  have hlr := block_lt h1
  refine ⟨⟨_, ⟨h1, rfl, rfl, ?_, h6, OwnS.nil _ _ _, CellsOf.nil _ _, ⟨Nat.zero_le _, Nat.zero_le _⟩, ⟨by show -1 ≤ (-1 : Int); omega, by show (-1 : Int) ≤ _; omega⟩⟩, rfl, rfl, h2.mono fun k hk => ⟨by omega, hk.2⟩, h3.mono fun k hk => ⟨by omega, hk.2⟩, LateAt.nil _ _, h4, ⟨⟨by omega, hlr⟩, ⟨Nat.le_refl _, show w.heap.size < _ by omega⟩, fun k e => by simp [newHV, Value.ownBlock] at e⟩, fun k hk => hk.2⟩, h5⟩
  funext t
  match t with
  | 0 => rfl
  | 1 => rfl
  | t + 2 => rfl
set_option maxRecDepth 100000 in
set_option maxHeartbeats 4000000 in
theorem newHost_any (sectors : Int) (l : List Int) (rv : Value) (w : World) (hr : SliceAt w rv 1 l.length (l.map fun i => .int .i64 i)) (n : Nat) (hn : (n : Int) = min (max sectors 32) 128) :
    Calls Tryz.prog 59 #[.int .i64 sectors, rv] w fun e w' => ∃ h, e = .returned (.pointer (some ⟨h, 0, none⟩)) ∧ HostAt w' (fun k => w.heap.size ≤ k ∧ k < w'.heap.size) h (newH n (roomN l)) ∧ Below w.heap.size w w' := by
  have hmm := @run_makeMap Tryz.prog
  have HN := Lib.hid hn
  have hn2 : 32 ≤ n ∧ n ≤ 128 := by omega
  have HR := Lib.hid hr
  obtain ⟨-, ra, rc, rfl, hrc, -⟩ := hr
  clear hn
  go_enter Tryz.func59, Tryz.ntmps59
  go_wp2
  rw [← HN.out]
  have hb0 : Below w.heap.size w ((w.alloc (.map #[] 0)).alloc (.cells #[.slice none 0 0, .slice none 0 0, .slice none 0 0, .int .i64 (-1), .int .i64 (-1), .bool false, .int .i64 0, .int .i64 0, .int .i64 0, .int .i64 0, .map (some w.heap.size), .slice none 0 0] 125)) := ((Below.refl _ w).alloc (Nat.le_refl _) _).alloc (by simp) _
  have R1 := heap_new (w.alloc (.map #[] 0)) (.cells #[.slice none 0 0, .slice none 0 0, .slice none 0 0, .int .i64 (-1), .int .i64 (-1), .bool false, .int .i64 0, .int .i64 0, .int .i64 0, .int .i64 0, .map (some w.heap.size), .slice none 0 0] 125)
  rw [World.size_alloc] at R1
  have T0 := (TabAt.new w).old (heap_alloc_old (w.alloc (.map #[] 0)) (.cells #[.slice none 0 0, .slice none 0 0, .slice none 0 0, .int .i64 (-1), .int .i64 (-1), .bool false, .int .i64 0, .int .i64 0, .int .i64 0, .int .i64 0, .map (some w.heap.size), .slice none 0 0] 125) (by simp))
  have HREL : Hid (NhRel w 0 ((w.alloc (.map #[] 0)).alloc (.cells #[.slice none 0 0, .slice none 0 0, .slice none 0 0, .int .i64 (-1), .int .i64 (-1), .bool false, .int .i64 0, .int .i64 0, .int .i64 0, .int .i64 0, .map (some w.heap.size), .slice none 0 0] 125))) := Lib.hid ⟨.slice none 0 0, .slice none 0 0, R1, RowsAt.nil _ _, RowsAt.nil _ _, fun k e => by simp [Value.ownBlock] at e, hb0, T0⟩
  clear hb0 R1 T0
  have hmk : ∀ w, (Instr.makeSlice 112 (.int .i64 64) (.int .i64 64)).run Tryz.prog w = .ok (.slice (some ⟨w.heap.size, 0, none⟩) 64 64) (w.alloc (.cells (madeCells #[.int .u8 0] 64) 5)) := fun w =>
    run_make_row' 112 5 (.int .u8 0) 1 Tryz.underlying112 (by kernel_rfl) rfl .i64 .i64 64 (by omega) (by omega) w
  go_loopw [13] (fun i wr => ∃ k : Nat, k ≤ n ∧ i = .int .i64 (k : Int) ∧ NhRel w k wr) (fun i _ => n - (intOf i).toNat)
  case atStart => exact ⟨0, Nat.zero_le _, rfl, HREL.out⟩
  case round =>
    obtain ⟨k, hk, rfl, hrk⟩ := hrel
    have HRELK := Lib.hid hrk
    obtain ⟨hv, sv, r1, r2, r3, r4, r5, r6⟩ := hrk
    have HR1 := Lib.hid r1
    have HR2 := Lib.hid r2
    have HR3 := Lib.hid r3
    have HR4 := Lib.hid r4
    have HR5 := Lib.hid r5
    have HR6 := Lib.hid r6
    have hsr := r5.size
    have hsr2 : w.heap.size + 2 ≤ wr.heap.size := block_lt r1
    unfold HostIs HV.cells newHV at r1
    simp only at r1
    have hlr := block_lt r1
    obtain ⟨vals, v1, v2, v3, v4⟩ := r2
    obtain ⟨svals, s1, s2, s3, s4⟩ := r3
    rw [List.length_replicate] at v1 s1
    obtain ⟨va, vc, rfl⟩ := v1.shape
    obtain ⟨sa, sc, rfl⟩ := s1.shape
    have c0 : wr.cell? ⟨w.heap.size + 1, 0, none⟩ = some (.slice va k vc) := cell_of_row _ _ 0 _ _ _ r1
    have c0f := frozen_of_row _ _ 0 _ _ r1
    have HV1 := Lib.hid v1
    have HV2 := Lib.hid v2
    have HV3 := Lib.hid v3
    have HV4 := Lib.hid v4
    have HS1 := Lib.hid s1
    have HS2 := Lib.hid s2
    have HS3 := Lib.hid s3
    have HS4 := Lib.hid s4
    have HNH := Lib.hid (v2.ne r1 (by decide))
    have HNH2 := Lib.hid (s2.ne r1 (by decide))
    clear r1 r4 r5 r6 v1 v2 v3 v4 s1 s2 s3 s4 HREL
    by_cases hlt : k < n
    · have g1 : (k : Int) < n := by omega
      have HAL := fun o o' => Lib.hid (Below.drew (Below.al (Below.al (Below.rf wr) o) o'))
      have HONE := Lib.hid (rowsOne_at (wr.alloc (.cells (madeCells #[.int .u8 0] 64) 5)) (.slice (some ⟨wr.heap.size, 0, none⟩) 64 64))
      rw [World.size_alloc] at HONE
      have HC0 := fun o => Lib.hid (cellAl o c0)
      have HC1 := fun o o' => Lib.hid (cellAl o' (cellAl o c0))
      go_wp2
      refine wp_region_last (n := 10) (S := (fun w' => w'.cell? ⟨w.heap.size + 1, 0, none⟩ = some (.slice va k vc))) (by kernel_rfl) (by kernel_rfl) rfl (by first | exact c0 | exact (HC0 _).out | exact (HC1 _ _).out) ?_
      intro hSw0
      simp only [List.extract_toArray, List.extract_eq_take_drop, List.drop_zero, Nat.sub_zero, List.take_succ_cons, List.take_zero, Array.replicate_succ, Array.replicate_zero, List.push_toArray, List.append_toArray, List.nil_append, List.cons_append]
      refine wpAnyH_take (i := 0) (v := ?_) rfl (by kernel_rfl) (by kernel_rfl) (by kernel_rfl) (fun _ _ _ h => h) (Or.inl ⟨by rfl, ?_⟩) (by assumption) ?_
      rotate_left 1
      · (intro w hSw; (try dsimp only at hSw); go_simp; (try with_reducible rfl))
      try simp only [Act.put, List.setIfInBounds_toArray, List.set_cons_zero, List.set_cons_succ]
      refine wpAnyH_take (i := 1) (v := ?_) rfl (by kernel_rfl) (by kernel_rfl) (by kernel_rfl) (fun _ _ _ h => h) (Or.inl ⟨by rfl, ?_⟩) (by assumption) ?_
      rotate_left 1
      · (intro w hSw; (try dsimp only at hSw); go_simp; (try with_reducible rfl))
      try simp only [Act.put, List.setIfInBounds_toArray, List.set_cons_zero, List.set_cons_succ]
      refine wpAnyH_take (i := 2) (v := ?_) rfl (by kernel_rfl) (by kernel_rfl) (by kernel_rfl) (fun _ _ _ h => h) (Or.inl ⟨by rfl, ?_⟩) (by assumption) ?_
      rotate_left 1
      · (intro w hSw; (try dsimp only at hSw); go_simp; (try with_reducible rfl))
      try simp only [Act.put, List.setIfInBounds_toArray, List.set_cons_zero, List.set_cons_succ]
      refine wpAnyH_take (i := 3) (v := ?_) rfl (by kernel_rfl) (by kernel_rfl) (by kernel_rfl) (fun _ _ _ h => h) (Or.inl ⟨by rfl, ?_⟩) (by assumption) ?_
      rotate_left 1
      · (intro w hSw; (try dsimp only at hSw); go_simp; (try with_reducible rfl))
      try simp only [Act.put, List.setIfInBounds_toArray, List.set_cons_zero, List.set_cons_succ]
      refine wpAnyH_take (i := 4) (v := ?_) rfl (by kernel_rfl) (by kernel_rfl) (by kernel_rfl) (fun _ _ _ h => h) (Or.inl ⟨by rfl, ?_⟩) (by assumption) ?_
      rotate_left 1
      · (intro w hSw; (try dsimp only at hSw); go_simp; (try with_reducible rfl))
      try simp only [Act.put, List.setIfInBounds_toArray, List.set_cons_zero, List.set_cons_succ]
      refine wpAnyH_ready (rs := [5]) (by kernel_rfl) (by simp) ?_
      refine AllReadyH.cons rfl ?_ AllReadyH.nil
      intro K' hK'
      go_simp
      refine hK'.out _ _ (by first | exact c0 | exact (HC0 _).out | exact (HC1 _ _).out) ?_
      clear hK' K'
      intro hSw1
      try simp only [Act.put, List.setIfInBounds_toArray, List.set_cons_zero, List.set_cons_succ]
      refine wpAnyH_ready (rs := [6]) (by kernel_rfl) (by simp) ?_
      refine AllReadyH.cons rfl ?_ AllReadyH.nil
      intro K' hK'
      go_simp
      refine hK'.out _ _ (by first | exact c0 | exact (HC0 _).out | exact (HC1 _ _).out) ?_
      clear hK' K'
      intro hSw2
      try simp only [Act.put, List.setIfInBounds_toArray, List.set_cons_zero, List.set_cons_succ]
      refine wpAnyH_ready (rs := [7]) (by kernel_rfl) (by simp) ?_
      refine AllReadyH.cons rfl ?_ AllReadyH.nil
      intro K' hK'
      refine step_append_own rfl (.tmp 19) (.tmp 21) 120 112 1 24 (.slice none 0 0) Tryz.underlying120 infoRows rfl (by decide) rfl 0 (.slice va k vc) k vals rfl (by exact HV1.out.below (HAL _ _).out) (by exact HV2.out.frame fun b _ hb => (HAL _ _).out.block b hb) 1 [.slice (some ⟨wr.heap.size, 0, none⟩) 64 64] (by exact HONE.out) (by intro u hu; simp at hu; rw [hu]; rfl) (by omega) (by omega) (Nat.zero_le _) ?_; intro v7 w7 hown7 hg7 hty7 hb7; obtain ⟨va7, vc7, rfl⟩ := hown7.shape; have HG7 := Lib.hid hg7; have HO7 := Lib.hid hown7; have HT7 := Lib.hid hty7; have HB7 := Lib.hid hb7; have hR7 := grown_at hg7 HNH.out (heap_old _ _ (heap_old _ _ HR1.out)); have HR7 := Lib.hid hR7; have c7 : w7.cell? ⟨w.heap.size + 1, 0, none⟩ = some (.slice va k vc) := cell_of_row _ _ 0 _ _ _ hR7; clear hown7 hg7 hty7 hb7 hR7; refine hK'.out _ _ c7 ?_
      clear hK' K'
      intro hSw3
      try simp only [Act.put, List.setIfInBounds_toArray, List.set_cons_zero, List.set_cons_succ]
      refine wpAnyH_take (i := 8) (v := ?_) rfl (by kernel_rfl) (by kernel_rfl) (by kernel_rfl) (fun _ _ _ h => h) (Or.inl ⟨by rfl, ?_⟩) (by assumption) ?_
      rotate_left 1
      · (intro w hSw; (try dsimp only at hSw); go_simp; (try with_reducible rfl))
      try simp only [Act.put, List.setIfInBounds_toArray, List.set_cons_zero, List.set_cons_succ]
      refine wpAnyH_take (i := 9) (v := ?_) rfl (by kernel_rfl) (by kernel_rfl) (by kernel_rfl) (fun _ _ _ h => h) (Or.inl ⟨by rfl, ?_⟩) (by assumption) ?_
      rotate_left 1
      · (intro w hSw; (try dsimp only at hSw); go_simp; (try with_reducible rfl))
      try simp only [Act.put, List.setIfInBounds_toArray, List.set_cons_zero, List.set_cons_succ]
      refine wpAnyH_done (by kernel_rfl) ?_ _
      show Oper.wp _ _ _ _ _ _
      have c7f := frozen_of_row _ _ 0 _ _ HR7.out
      have hl7 := block_lt HR7.out
      go_wp2_with fail
      generalize hw8 : w7.setCell ⟨w.heap.size + 1, 0, none⟩ (.slice va7 (k + 1) vc7) = w8
      have hmv : ∀ x, (Value.slice va k vc).ownBlock = some x → x < wr.heap.size := fun x e => (HV3.out x e).2
      have hx7 := (Ext.of_new (S := fun x => (Value.slice va k vc).ownBlock = some x) (HAL (.cells (madeCells #[.int .u8 0] 64) 5) (.cells #[.slice (some ⟨wr.heap.size, 0, none⟩) 64 64] 112)).out).trans (ext_of_grownV HG7.out)
      have hs7 := grown_at HG7.out (b := wr.heap.size) (fun e => absurd (hmv _ e) (Nat.lt_irrefl _)) (heap_old (wr.alloc (.cells (madeCells #[.int .u8 0] 64) 5)) (.cells #[.slice (some ⟨wr.heap.size, 0, none⟩) 64 64] 112) (heap_new wr (.cells (madeCells #[.int .u8 0] 64) 5)))
      have hN1 := nh_add (rows := List.replicate k zeroSec) (orows := List.replicate k zeroSec) (i := 0) HR5.out hsr2 HR7.out (by rw [List.length_replicate]; exact HV1.out) HV2.out HV3.out HV4.out ⟨svals, by rw [List.length_replicate]; exact HS1.out, HS2.out, HS3.out, HS4.out⟩ HR4.out HR6.out hx7 hs7 (by rw [List.length_replicate]; exact HO7.out) HT7.out (fun b e => (HB7.out b e).imp id fun e => by rw [e]; show _ ≤ (World.alloc (World.alloc wr _) _).heap.size; rw [World.size_alloc, World.size_alloc]; omega) hw8.symm
      obtain ⟨n1, n2, n3, n4, n5, n6, n7⟩ := hN1
      have n6' : HostIs w8 (w.heap.size + 1) (newHV (.slice va7 (k + 1) vc7) (.slice sa k sc) w.heap.size 0 0 0) := n6
      obtain ⟨svals2, s1, s2, s3, s4⟩ := n2
      rw [List.length_replicate] at s1
      have hs82 : w.heap.size + 2 ≤ w8.heap.size := by omega
      have d0 : w8.cell? ⟨w.heap.size + 1, 1, none⟩ = some (.slice sa k sc) := cell_of_row _ _ 1 _ _ _ n6'
      have d0f := frozen_of_row _ _ 1 _ _ n6'
      have JV1 := Lib.hid s1
      have JV2 := Lib.hid s2
      have JV3 := Lib.hid s3
      have JV4 := Lib.hid s4
      have J1 := Lib.hid n1
      have J3 := Lib.hid n3
      have J4 := Lib.hid n4
      have J5 := Lib.hid n5
      have J6 := Lib.hid n6'
      have JNH := Lib.hid (s2.ne n6' (by decide))
      have H82 := Lib.hid hs82
      have HAL2 := fun o o' => Lib.hid (Below.drew (Below.al (Below.al (Below.rf w8) o) o'))
      have HONE2 := Lib.hid (rowsOne_at (w8.alloc (.cells (madeCells #[.int .u8 0] 64) 5)) (.slice (some ⟨w8.heap.size, 0, none⟩) 64 64))
      rw [World.size_alloc] at HONE2
      have HD0 := fun o => Lib.hid (cellAl o d0)
      have HD1 := fun o o' => Lib.hid (cellAl o' (cellAl o d0))
      clear s1 s2 s3 s4 n1 n3 n4 n5 n6 n6' n7 hx7 hs7 hs82 hw8 hSw0 hSw1 hSw2 hSw3 c7 c7f hl7 c0 c0f HC0 HC1 HONE HAL hsr hsr2 hlr HG7 HO7 HT7 HB7 HR7 HV1 HV2 HV3 HV4 HS1 HS2 HS3 HS4 HNH HNH2 HR1 HR4 HR5 HR6 hmv
      have hl8 := Lib.hid (block_lt J6.out)
      refine wp_region_last (n := 10) (S := (fun w' => w'.cell? ⟨w.heap.size + 1, 1, none⟩ = some (.slice sa k sc))) (by kernel_rfl) (by kernel_rfl) rfl (by first | exact d0 | exact (HD0 _).out | exact (HD1 _ _).out) ?_
      intro hSw0
      simp only [List.extract_toArray, List.extract_eq_take_drop, List.drop_zero, Nat.sub_zero, List.take_succ_cons, List.take_zero, Array.replicate_succ, Array.replicate_zero, List.push_toArray, List.append_toArray, List.nil_append, List.cons_append]
      refine wpAnyH_take (i := 0) (v := ?_) rfl (by kernel_rfl) (by kernel_rfl) (by kernel_rfl) (fun _ _ _ h => h) (Or.inl ⟨by rfl, ?_⟩) (by assumption) ?_
      rotate_left 1
      · (intro w hSw; (try dsimp only at hSw); go_simp; (try with_reducible rfl))
      try simp only [Act.put, List.setIfInBounds_toArray, List.set_cons_zero, List.set_cons_succ]
      refine wpAnyH_take (i := 1) (v := ?_) rfl (by kernel_rfl) (by kernel_rfl) (by kernel_rfl) (fun _ _ _ h => h) (Or.inl ⟨by rfl, ?_⟩) (by assumption) ?_
      rotate_left 1
      · (intro w hSw; (try dsimp only at hSw); go_simp; (try with_reducible rfl))
      try simp only [Act.put, List.setIfInBounds_toArray, List.set_cons_zero, List.set_cons_succ]
      refine wpAnyH_take (i := 2) (v := ?_) rfl (by kernel_rfl) (by kernel_rfl) (by kernel_rfl) (fun _ _ _ h => h) (Or.inl ⟨by rfl, ?_⟩) (by assumption) ?_
      rotate_left 1
      · (intro w hSw; (try dsimp only at hSw); go_simp; (try with_reducible rfl))
      try simp only [Act.put, List.setIfInBounds_toArray, List.set_cons_zero, List.set_cons_succ]
      refine wpAnyH_take (i := 3) (v := ?_) rfl (by kernel_rfl) (by kernel_rfl) (by kernel_rfl) (fun _ _ _ h => h) (Or.inl ⟨by rfl, ?_⟩) (by assumption) ?_
      rotate_left 1
      · (intro w hSw; (try dsimp only at hSw); go_simp; (try with_reducible rfl))
      try simp only [Act.put, List.setIfInBounds_toArray, List.set_cons_zero, List.set_cons_succ]
      refine wpAnyH_take (i := 4) (v := ?_) rfl (by kernel_rfl) (by kernel_rfl) (by kernel_rfl) (fun _ _ _ h => h) (Or.inl ⟨by rfl, ?_⟩) (by assumption) ?_
      rotate_left 1
      · (intro w hSw; (try dsimp only at hSw); go_simp; (try with_reducible rfl))
      try simp only [Act.put, List.setIfInBounds_toArray, List.set_cons_zero, List.set_cons_succ]
      refine wpAnyH_ready (rs := [5]) (by kernel_rfl) (by simp) ?_
      refine AllReadyH.cons rfl ?_ AllReadyH.nil
      intro K' hK'
      go_simp
      refine hK'.out _ _ (by first | exact d0 | exact (HD0 _).out | exact (HD1 _ _).out) ?_
      clear hK' K'
      intro hSw1
      try simp only [Act.put, List.setIfInBounds_toArray, List.set_cons_zero, List.set_cons_succ]
      refine wpAnyH_ready (rs := [6]) (by kernel_rfl) (by simp) ?_
      refine AllReadyH.cons rfl ?_ AllReadyH.nil
      intro K' hK'
      go_simp
      refine hK'.out _ _ (by first | exact d0 | exact (HD0 _).out | exact (HD1 _ _).out) ?_
      clear hK' K'
      intro hSw2
      try simp only [Act.put, List.setIfInBounds_toArray, List.set_cons_zero, List.set_cons_succ]
      refine wpAnyH_ready (rs := [7]) (by kernel_rfl) (by simp) ?_
      refine AllReadyH.cons rfl ?_ AllReadyH.nil
      intro K' hK'
      refine step_append_own rfl (.tmp 29) (.tmp 31) 120 112 1 24 (.slice none 0 0) Tryz.underlying120 infoRows rfl (by decide) rfl 0 (.slice sa k sc) k svals2 rfl (by exact JV1.out.below (HAL2 _ _).out) (by exact JV2.out.frame fun b _ hb => (HAL2 _ _).out.block b hb) 1 [.slice (some ⟨w8.heap.size, 0, none⟩) 64 64] (by exact HONE2.out) (by intro u hu; simp at hu; rw [hu]; rfl) (by omega) (by omega) (Nat.zero_le _) ?_; intro v9 w9 hown9 hg9 hty9 hb9; obtain ⟨va9, vc9, rfl⟩ := hown9.shape; have HG9 := Lib.hid hg9; have HO9 := Lib.hid hown9; have HT9 := Lib.hid hty9; have HB9 := Lib.hid hb9; have hR9 := grown_at hg9 JNH.out (heap_old _ _ (heap_old _ _ J6.out)); have HR9 := Lib.hid hR9; have c9 : w9.cell? ⟨w.heap.size + 1, 1, none⟩ = some (.slice sa k sc) := cell_of_row _ _ 1 _ _ _ hR9; clear hown9 hg9 hty9 hb9 hR9; refine hK'.out _ _ c9 ?_
      clear hK' K'
      intro hSw3
      try simp only [Act.put, List.setIfInBounds_toArray, List.set_cons_zero, List.set_cons_succ]
      refine wpAnyH_take (i := 8) (v := ?_) rfl (by kernel_rfl) (by kernel_rfl) (by kernel_rfl) (fun _ _ _ h => h) (Or.inl ⟨by rfl, ?_⟩) (by assumption) ?_
      rotate_left 1
      · (intro w hSw; (try dsimp only at hSw); go_simp; (try with_reducible rfl))
      try simp only [Act.put, List.setIfInBounds_toArray, List.set_cons_zero, List.set_cons_succ]
      refine wpAnyH_take (i := 9) (v := ?_) rfl (by kernel_rfl) (by kernel_rfl) (by kernel_rfl) (fun _ _ _ h => h) (Or.inl ⟨by rfl, ?_⟩) (by assumption) ?_
      rotate_left 1
      · (intro w hSw; (try dsimp only at hSw); go_simp; (try with_reducible rfl))
      try simp only [Act.put, List.setIfInBounds_toArray, List.set_cons_zero, List.set_cons_succ]
      refine wpAnyH_done (by kernel_rfl) ?_ _
      show Oper.wp _ _ _ _ _ _
      have c9f := frozen_of_row _ _ 1 _ _ HR9.out
      have hl9 := block_lt HR9.out
      go_wp2_with fail
      generalize hw10 : w9.setCell ⟨w.heap.size + 1, 1, none⟩ (.slice va9 (k + 1) vc9) = w10
      have hmv : ∀ x, (Value.slice sa k sc).ownBlock = some x → x < w8.heap.size := fun x e => (JV3.out x e).2
      have hx7 := (Ext.of_new (S := fun x => (Value.slice sa k sc).ownBlock = some x) (HAL2 (.cells (madeCells #[.int .u8 0] 64) 5) (.cells #[.slice (some ⟨w8.heap.size, 0, none⟩) 64 64] 112)).out).trans (ext_of_grownV HG9.out)
      have hs7 := grown_at HG9.out (b := w8.heap.size) (fun e => absurd (hmv _ e) (Nat.lt_irrefl _)) (heap_old (w8.alloc (.cells (madeCells #[.int .u8 0] 64) 5)) (.cells #[.slice (some ⟨w8.heap.size, 0, none⟩) 64 64] 112) (heap_new w8 (.cells (madeCells #[.int .u8 0] 64) 5)))
      have hN2 := nh_add (rows := List.replicate k zeroSec) (orows := List.replicate k zeroSec ++ [zeroSec]) (i := 1) J4.out H82.out HR9.out (by rw [List.length_replicate]; exact JV1.out) JV2.out JV3.out JV4.out J1.out (fun x e e2 => J3.out x e2 e) J5.out hx7 hs7 (by rw [List.length_replicate]; exact HO9.out) HT9.out (fun b e => (HB9.out b e).imp id fun e => by rw [e]; show _ ≤ (World.alloc (World.alloc w8 _) _).heap.size; rw [World.size_alloc, World.size_alloc]; omega) hw10.symm
      obtain ⟨n1, n2, n3, n4, n5, n6, n7⟩ := hN2
      have n6' : HostIs w10 (w.heap.size + 1) (newHV (.slice va7 (k + 1) vc7) (.slice va9 (k + 1) vc9) w.heap.size 0 0 0) := n6
      have HRELN : Hid (NhRel w (k + 1) w10) := Lib.hid ⟨_, _, n6', by rw [List.replicate_succ']; exact n2, by rw [List.replicate_succ']; exact n1, fun x e e2 => n3 x e2 e, n4, n5⟩
      have hS9 : Hid (w8.heap.size ≤ w10.heap.size) := Lib.hid n7
      clear hx7 hs7 hmv n1 n2 n3 n4 n5 n6 n6' n7 hw10 HG9 HO9 HT9 HB9 HR9 c9 c9f hl9
      go_wp2
      go_roundw
      case rel => exact ⟨k + 1, by omega, rfl, HRELN.out⟩
      case measure => simp [intOf]; omega
    · have g1 : ¬ ((k : Int) < n) := by omega
      obtain rfl : k = n := by omega
      have HRM : Hid (NhR w k l 0 0 wr) := Lib.hid (NhRel.rooms (HRELK.out))
      have hb5 := HR5
      clear HR1 HR2 HR3 HR4 HR6 HV1 HV2 HV3 HV4 HS1 HS2 HS3 HS4 HNH HNH2 c0 c0f hsr hsr2 hlr HRELK
      go_wp2
      go_loopw [36] (fun i wr2 => ∃ j : Nat, j ≤ 3 ∧ i = .int .i64 (j : Int) ∧ NhR w k l j 0 wr2) (fun i _ => 3 - (intOf i).toNat)
      case atStart => exact ⟨0, Nat.zero_le _, rfl, HRM.out⟩
      case round =>
        obtain ⟨j, hj, rfl, hR⟩ := hrel
        have HRr := Lib.hid hR
        clear hR
        by_cases hj3 : j < 3
        · have g2 : (j : Int) < 3 := by omega
          have hcc := HRr.out.cell hj3
          have hc1 := hcc.1
          have hc2 := hcc.2
          have h40 : Hid (NhR w k l j 40 (wr.setCell ⟨w.heap.size + 1, 7 + j, none⟩ (.int .i64 40))) := Lib.hid (HRr.out.set hj3 40)
          have hfin : ∀ W, NhR w k l j (roomA l j) W → NhR w k l (j + 1) 0 W := fun W h => h.next
          by_cases hjl : j < l.length
          · have g3 : (j : Int) < (l.length : Int) := by omega
            have hbb : Below w.heap.size w (wr.setCell ⟨w.heap.size + 1, 7 + j, none⟩ (.int .i64 40)) := by obtain ⟨_, _, _, _, _, _, h5, _⟩ := h40.out; exact h5
            have hsl := SliceAt.below HR.out hbb
            obtain ⟨-, _, _, e0, -, hsx⟩ := hsl
            injection e0 with e1 e2 e3
            subst e1
            obtain ⟨g, off, rfl, hgc⟩ := hsx j (by rw [List.length_map]; exact hjl)
            rw [List.getElem_map] at hgc
            clear hsx hbb e3
            have hgv := Lib.hid (show roomA l j = min (max l[j] 0) 40 by unfold roomA; rw [if_pos hjl, List.getD_eq_getElem?_getD, List.getElem?_eq_getElem hjl]; rfl)
            have h4c := (h40.out.cell hj3).1
            have h4f := (h40.out.cell hj3).2
            generalize hlj : l[j] = x at hgc
            go_wp2
            refine wp_region_last (n := 11) (S := (fun w' => w'.cell? ⟨w.heap.size + 1, 7 + j, none⟩ = some (.int .i64 40) ∧ w'.cell? ⟨g, off + j, none⟩ = some (.int .i64 x))) (by kernel_rfl) (by kernel_rfl) rfl (by exact ⟨h4c, hgc⟩) ?_
            intro hSw0
            simp only [List.extract_toArray, List.extract_eq_take_drop, List.drop_zero, Nat.sub_zero, List.take_succ_cons, List.take_zero, Array.replicate_succ, Array.replicate_zero, List.push_toArray, List.append_toArray, List.nil_append, List.cons_append]
            refine wpAnyH_take (i := 0) (v := ?_) rfl (by kernel_rfl) (by kernel_rfl) (by kernel_rfl) (fun _ _ _ h => h) (Or.inl ⟨by rfl, ?_⟩) (by assumption) ?_
            rotate_left 1
            · (intro w hSw; (try dsimp only at hSw); go_simp; (try with_reducible rfl))
            try simp only [Act.put, List.setIfInBounds_toArray, List.set_cons_zero, List.set_cons_succ]
            refine wpAnyH_take (i := 1) (v := ?_) rfl (by kernel_rfl) (by kernel_rfl) (by kernel_rfl) (fun _ _ _ h => h) (Or.inl ⟨by rfl, ?_⟩) (by assumption) ?_
            rotate_left 1
            · (intro w hSw; (try dsimp only at hSw); go_simp; (try with_reducible rfl))
            try simp only [Act.put, List.setIfInBounds_toArray, List.set_cons_zero, List.set_cons_succ]
            refine wpAnyH_take (i := 2) (v := ?_) rfl (by kernel_rfl) (by kernel_rfl) (by kernel_rfl) (fun _ _ _ h => h) (Or.inl ⟨by rfl, ?_⟩) (by assumption) ?_
            rotate_left 1
            · (intro w hSw; (try dsimp only at hSw); go_simp; (try with_reducible rfl))
            try simp only [Act.put, List.setIfInBounds_toArray, List.set_cons_zero, List.set_cons_succ]
            refine wpAnyH_take (i := 3) (v := ?_) rfl (by kernel_rfl) (by kernel_rfl) (by kernel_rfl) (fun _ _ _ h => h) (Or.inl ⟨by rfl, ?_⟩) (by assumption) ?_
            rotate_left 1
            · (intro w hSw; (try dsimp only at hSw); go_simp; (try with_reducible rfl))
            try simp only [Act.put, List.setIfInBounds_toArray, List.set_cons_zero, List.set_cons_succ]
            refine wpAnyH_take (i := 4) (v := ?_) rfl (by kernel_rfl) (by kernel_rfl) (by kernel_rfl) (fun _ _ _ h => h) (Or.inl ⟨by rfl, ?_⟩) (by assumption) ?_
            rotate_left 1
            · (intro w hSw; (try dsimp only at hSw); go_simp; (try with_reducible rfl))
            try simp only [Act.put, List.setIfInBounds_toArray, List.set_cons_zero, List.set_cons_succ]
            refine wpAnyH_take (i := 5) (v := ?_) rfl (by kernel_rfl) (by kernel_rfl) (by kernel_rfl) (fun _ _ _ h => h) (Or.inl ⟨by rfl, ?_⟩) (by assumption) ?_
            rotate_left 1
            · (intro w hSw; (try dsimp only at hSw); go_simp; (try with_reducible rfl))
            try simp only [Act.put, List.setIfInBounds_toArray, List.set_cons_zero, List.set_cons_succ]
            refine wpAnyH_take (i := 8) (v := ?_) rfl (by kernel_rfl) (by kernel_rfl) (by kernel_rfl) (fun _ _ _ h => h) (Or.inl ⟨by rfl, ?_⟩) (by assumption) ?_
            rotate_left 1
            · (intro w hSw; (try dsimp only at hSw); go_simp; (try with_reducible rfl))
            try simp only [Act.put, List.setIfInBounds_toArray, List.set_cons_zero, List.set_cons_succ]
            refine wpAnyH_take (i := 9) (v := ?_) rfl (by kernel_rfl) (by kernel_rfl) (by kernel_rfl) (fun _ _ _ h => h) (Or.inl ⟨by rfl, ?_⟩) (by assumption) ?_
            rotate_left 1
            · (intro w hSw; (try dsimp only at hSw); go_simp; (try with_reducible rfl))
            try simp only [Act.put, List.setIfInBounds_toArray, List.set_cons_zero, List.set_cons_succ]
            refine wpAnyH_ready (rs := [6]) (by kernel_rfl) (by simp) ?_
            refine AllReadyH.cons rfl ?_ AllReadyH.nil
            intro K' hK'
            go_simp
            refine hK'.out _ _ (by exact ⟨h4c, hgc⟩) ?_
            clear hK' K'
            intro hSw1
            try simp only [Act.put, List.setIfInBounds_toArray, List.set_cons_zero, List.set_cons_succ]
            refine wpAnyH_ready (rs := [7]) (by kernel_rfl) (by simp) ?_
            refine AllReadyH.cons rfl ?_ AllReadyH.nil
            intro K' hK'
            go_simp
            refine hK'.out _ _ (by exact ⟨h4c, hgc⟩) ?_
            clear hK' K'
            intro hSw2
            try simp only [Act.put, List.setIfInBounds_toArray, List.set_cons_zero, List.set_cons_succ]
            refine wpAnyH_take (i := 10) (v := ?_) rfl (by kernel_rfl) (by kernel_rfl) (by kernel_rfl) (fun _ _ _ h => h) (Or.inl ⟨by rfl, ?_⟩) (by assumption) ?_
            rotate_left 1
            · (intro w hSw; (try dsimp only at hSw); go_simp; (try with_reducible rfl))
            try simp only [Act.put, List.setIfInBounds_toArray, List.set_cons_zero, List.set_cons_succ]
            refine wpAnyH_done (by kernel_rfl) ?_ _
            show Oper.wp _ _ _ _ _ _
            go_wp2
            refine ⟨⟨j + 1, by omega, rfl, hfin _ ?_⟩, by simp [intOf]; omega⟩
            subst hlj
            rw [hgv.out]
            exact (h40.out.set hj3 _).drew
          · have g3 : ¬ ((j : Int) < (l.length : Int)) := by omega
            have hgv : roomA l j = 40 := by unfold roomA; rw [if_neg hjl]
            go_wp2
            refine ⟨⟨j + 1, by omega, rfl, hfin _ (by rw [hgv]; exact h40.out)⟩, by simp [intOf]; omega⟩
        · have g2 : ¬ ((j : Int) < 3) := by omega
          obtain rfl : j = 3 := by omega
          go_wp2
          refine bodyPost_ret (v := .pointer (some ⟨w.heap.size + 1, 0, none⟩)) (by simp [results]) rfl ⟨_, rfl, HRr.out.host⟩
end Go.Proofs.YtkkfmkhbdoeglabGreatDoor
