/- The contract of entries' Size. No condition. -/
import Derived.Test.YtkkfmkhbdoeglaaGreatDoorApply
import Derived.Test.YtkkfmkhbdoeglaaGreatDoorRange
import Derived.Test.YtkkfmkhbdoeglaaGreatDoorListed1
import Derived.Test.YtkkfmkhbdoeglaaGreatDoorTabApply
namespace Go.Proofs.YtkkfmkhbdoeglaaGreatDoor
open Go.RowKit

theorem sizeS_snoc (l : List E) (x : E) : sizeS (l ++ [x]) = sizeS l + (1 + x.1.2.length + x.2.length) := by simp [sizeS]
theorem sizeS_perm {l m : List E} (h : l.Perm m) : sizeS l = sizeS m := (h.map _).sum_nat
/-- part of it -/
theorem sizeS_sub {l m : List E} (hn : l.Nodup) (h : ∀ x ∈ l, x ∈ m) : sizeS l ≤ sizeS m := by
  classical
  induction l generalizing m with
  | nil => exact Nat.zero_le _
  | cons x l ih =>
    rw [List.nodup_cons] at hn
    have hp := List.perm_cons_erase (h x (by simp))
    rw [sizeS_perm hp]
    have := ih (m := m.erase x) hn.2 (fun y hy => (List.mem_erase_of_ne (fun e => hn.1 (by rw [← e]; exact hy))).2 (h y (List.mem_cons_of_mem _ hy)))
    simp only [sizeS, List.map_cons, List.sum_cons] at this ⊢
    omega
theorem zS_list : ∀ {L : List (K × Value)} {S : List E}, (∀ x ∈ L, x ∈ S.map zS) → ∃ l : List E, L = l.map zS ∧ ∀ x ∈ l, x ∈ S
  | [], _, _ => ⟨[], rfl, fun _ h => by cases h⟩
  | x :: L, S, h => by
    obtain ⟨l, rfl, h2⟩ := zS_list (L := L) (S := S) fun y hy => h y (List.mem_cons_of_mem _ hy)
    obtain ⟨e, he, rfl⟩ := List.mem_map.1 (h x (by simp))
    exact ⟨e :: l, rfl, fun y hy => by rcases List.mem_cons.1 hy with rfl | hy; exact he; exact h2 y hy⟩
theorem size_num (a b c : Nat) (h : a + (1 + b + c) ≤ 4611686018427387904) : Value.int .i64 (wrap64 ((a : Int) + wrap64 (wrap64 (1 + (b : Int)) + (c : Int)))) = .int .i64 ((a + (1 + b + c) : Nat) : Int) := by
  rw [IntWalk.wrap64_in (1 + (b : Int)) (by omega), IntWalk.wrap64_in (1 + (b : Int) + (c : Int)) (by omega), IntWalk.wrap64_in _ (by omega)]
  congr 1
set_option maxRecDepth 100000 in
set_option maxHeartbeats 1000000 in
theorem size_any (q off r : Nat) (S : List E) (w : World) (he : EntAt w q off r S) (hsz : sizeS S ≤ 4611686018427387904) :
    Calls Tryz.prog 105 #[.pointer (some ⟨q, off, none⟩)] w fun e w' => e = .returned (.int .i64 (sizeS S : Nat)) ∧ Below w.heap.size w w' := by
  have hc := he.cell
  obtain ⟨hso, L, hmap, hp⟩ := he.tab
  have HP := Lib.hid hp
  have HS := Lib.hid hsz
  have HN := Lib.hid hso.nodup
  clear he hso hp hsz
  go_enter Tryz.func105, Tryz.ntmps105
  go_wp2_with (first | (refine wpList_range_at rfl _ rfl Tryz.underlying107 rfl hmap ?_; intro w0 hrg0 hb0 hs0) | fail)
  try go_frame
  go_loopw [3] (fun n wr => ∃ l : List E, RangeAt wr r w.heap.size L (l.map zS) ∧ n = .int .i64 (sizeS l : Nat) ∧ Below w.heap.size w wr) (fun _ wr => wr.rangeLeft r w.heap.size)
  case atStart => exact ⟨[], hrg0, rfl, hb0⟩
  case round =>
    obtain ⟨l, hrg, rfl, hbr⟩ := hrel
    go_wp2_with (first | (refine wpList_next_at rfl _ rfl rfl hrg ?_ ?_) | fail)
    · intro hpm
      have HPE := Lib.hid (sizeS_perm (perm_zS (nodup_zS hrg.sub.2.2) HN.out (hpm.trans HP.out)))
      go_wp2
      go_ret
      exact ⟨by rw [HPE.out]; rfl, hbr⟩
    · intro kt kb v w2 hx hxn hrg2 hg2 hs2 hen hrq
      obtain ⟨⟨k', vb⟩, hxS, e⟩ := List.mem_map.1 (HP.out.mem_iff.1 hx)
      cases e
      have hrg3 : RangeAt w2 r w.heap.size L ((l ++ [((kt, kb), vb)]).map zS) := by rw [List.map_append]; exact hrg2
      have hle := sizeS_sub (m := S) (nodup_zS hrg3.sub.2.2) (fun y hy => mem_zS (HP.out.mem_iff.1 (hrg3.sub.1 _ (List.mem_map.2 ⟨y, hy, rfl⟩))))
      have HSN := Lib.hid (sizeS_snoc l ((kt, kb), vb))
      rw [HSN.out] at hle
      have hb3 := HS.out
      have HR3 := Lib.hid hrg3
      have hsw := hbr.size
      have hb2 : Below w.heap.size w w2 := hbr.grown hg2 hbr.size (fun j e => by cases e; exact Nat.le_refl _)
      have HRG := Lib.hid hrg
      clear hrg2 hrg3 hx hxn hxS hrg
      unfold strV at hen
      unfold strV
      go_wp2
      have hal : Below w2.heap.size w2 ((w2.alloc (.cells #[.int .i64 kt, .string ⟨kb.toArray⟩] 94)).alloc (.cells #[.string ⟨vb.toArray⟩] 180)) := ((Below.refl _ w2).alloc (Nat.le_refl _) _).alloc (by simp) _
      have hR4 := HR3.out.frame (hal.block _ HR3.out.lt.1) (hal.block _ HR3.out.lt.2)
      have hl4 := hR4.left
      have hl0 := HRG.out.left
      simp only [List.length_map, List.length_append, List.length_cons, List.length_nil] at hl4 hl0
      refine ⟨⟨_, hR4, ?_, hb2.trans (hal.mono hb2.size)⟩, by omega⟩
      rw [HSN.out]
      exact size_num _ _ _ (Nat.le_trans hle hb3)
end Go.Proofs.YtkkfmkhbdoeglaaGreatDoor

/- The contracts of package plain's (*Folded).Entries and (*Folded).Size. No condition. -/
namespace Go.Proofs.YtkkfmkhbdoeglaaGreatDoor
open Go.RowKit Go.Shelf

theorem entsFn_any (q off : Nat) (w : World) : Calls Tryz.prog 49 #[.pointer (some ⟨q, off, none⟩)] w fun e w' =>
    e = .returned (.func (.func 90) #[] #[.pointer (some ⟨w.heap.size, 0, none⟩)]) ∧ w' = w.alloc (.cells #[.pointer (some ⟨q, off, none⟩)] 173) := by
  go_enter Tryz.func49, Tryz.ntmps49
  go_wp2
  go_ret
  exact ⟨rfl, rfl⟩
theorem foldedEntries_any (fb q r : Nat) (S : List E) (w : World) (he : FoldAt w fb q r S) (hS : S.length ≤ 1000000000) :
    Calls Tryz.prog 24 #[.pointer (some ⟨fb, 0, none⟩)] w fun e w' => ∃ v, e = .returned (.tuple #[v, .bool true]) ∧ EntsAt w' v S ∧ Below w.heap.size w w' := by
  have hc := he.cell
  have hc2 := he.ent.cell
  have hb : Below w.heap.size w (w.alloc (.cells #[.pointer (some ⟨q, 0, none⟩)] 173)) := (Below.refl _ w).alloc (Nat.le_refl _) _
  have HL := Lib.hid (listed_any w.heap.size q 0 r S (w.alloc (.cells #[.pointer (some ⟨q, 0, none⟩)] 173)) (by simp) (cell_of_row _ _ 0 _ _ _ (heap_new w _)) (he.below hb).ent hS)
  clear he
  go_enter Tryz.func24, Tryz.ntmps24
  go_wp2_with fail
  refine (entsFn_any q 0 w).mono ?_
  rintro e w1 ⟨rfl, rfl⟩
  go_wp2_with fail
  refine HL.out.mono ?_
  rintro e w2 ⟨v, rfl, hv, hb2⟩
  clear hc hc2 HL
  go_wp2
  go_ret2
  exact ⟨v, rfl, hv, hb.trans (hb2.mono hb.size)⟩
theorem foldedSize_any (fb q r : Nat) (S : List E) (w : World) (he : FoldAt w fb q r S) (hsz : sizeS S ≤ 4611686018427387904) :
    Calls Tryz.prog 64 #[.pointer (some ⟨fb, 0, none⟩)] w fun e w' => e = .returned (.int .i64 ((sizeS S : Nat) : Int)) ∧ Below w.heap.size w w' := by
  have hc := he.cell
  have hc2 := he.ent.cell
  have HL := Lib.hid (size_any q 0 r S w he.ent hsz)
  clear he
  go_enter Tryz.func64, Tryz.ntmps64
  go_wp2_with fail
  refine HL.out.mono ?_
  rintro e w2 ⟨rfl, hb2⟩
  clear hc hc2 HL
  go_wp2
  go_ret
  exact ⟨rfl, hb2⟩
end Go.Proofs.YtkkfmkhbdoeglaaGreatDoor
