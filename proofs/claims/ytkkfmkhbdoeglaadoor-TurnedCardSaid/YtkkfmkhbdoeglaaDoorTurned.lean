/- The walk of package overlaykeep's Turned. No condition. -/
import Derived.Test.YtkkfmkhbdoeglaaDoorTurn
import Derived.Test.YtkkfmkhbdoeglaaDoorPickKeep
namespace Go.Proofs.YtkkfmkhbdoeglaaDoor
open Go.RowKit

theorem u8_xor' (a b : UInt8) : bits BinOp.xor IntKind.u8 (a.toNat : Int) (b.toNat : Int) = ((a ^^^ b).toNat : Int) := by
  have ha := a.toNat_lt
  have hb := b.toNat_lt
  rw [UInt8.toNat_xor]
  exact u8_xor_nat _ _ (by omega) (by omega)
theorem xor_ne (a x : UInt8) (hx : x ≠ 0) : a ^^^ x ≠ a := by
  intro h
  apply hx
  have := congrArg (fun y => a ^^^ y) h
  simpa [← UInt8.xor_assoc] using this
theorem bytes_set {w : World} {b off n cap : Nat} {l : List UInt8} (h : BytesAt w (.slice (some ⟨b, off, none⟩) n cap) l) (hn : n = l.length) (i : Nat) (hi : i < l.length) (x : UInt8) :
    BytesAt (w.setCell ⟨b, off + i, none⟩ (.int .u8 x.toNat)) (.slice (some ⟨b, off, none⟩) n cap) (l.set i x) := by
  subst hn
  obtain ⟨a, cap', he, hc, hx⟩ := h.opened
  cases he
  have hl : (l.set i x).length = l.length := List.length_set
  rw [← hl]
  refine BytesAt.mk' (by omega) fun j hj => ⟨b, off, rfl, ?_⟩
  have hj2 : j < l.length := by omega
  obtain ⟨b', off', he, hcell⟩ := hx j hj2
  cases he
  by_cases hij : i = j
  · subst hij
    rw [World.cell?_setCell_same (h := hcell)]
    simp
  · rw [World.cell?_setCell_other (h := by simp [hij]), hcell]
    simp [hij]
set_option maxRecDepth 100000 in
set_option maxHeartbeats 400000 in
theorem Turned_walk (kind : Int) (body : List UInt8) (at' c : Int) (w : World) (hg : ErrVar w) (h1 : -9223372036854775808 ≤ kind) (h2 : kind ≤ 9223372036854775807) (h3 : -9223372036854775808 ≤ at') (h4 : at' ≤ 9223372036854775807) (h5 : -9223372036854775808 ≤ c) (h6 : c ≤ 9223372036854775807) (hb : body.length ≤ maxB) :
    Calls Tryd.prog 4 #[.int .i64 kind, .string ⟨body.toArray⟩, .int .i64 at', .int .i64 c] w fun e w' => e = .returned (.bool true) ∧ Below w.heap.size w w' := by
  obtain ⟨p, hp⟩ : ∃ p, p = body.take 4096 := ⟨_, rfl⟩
  have hpl : p.length ≤ 4096 := by rw [hp, List.length_take]; omega
  have hpp : ¬ 4096 < body.length → body = p := fun h => by rw [hp, List.take_of_length_le (by omega)]
  have hsl : 4096 < body.length → ∀ w, (Instr.slice 9 (.string ⟨body.toArray⟩) none (some (.int .i64 4096)) none).run Tryd.prog w = .ok (.string ⟨p.toArray⟩) w := fun h w => by
    rw [run_str_to Tryd.underlying9 _ _ 4096 (by omega) (by omega)]
    rw [hp]
    rfl
  clear hp
  have hln : (sealB (byteOf (pickN kind 256)) p).length = p.length + 5 := by simp [sealB]
  obtain ⟨b1, b2⟩ := pickN_bound at' (p.length + 5) (by omega)
  obtain ⟨b3, b4⟩ := pickN_bound c 255 (by omega)
  obtain ⟨b5, b6⟩ := pickN_bound kind 256 (by omega)
  obtain ⟨m, hm⟩ := Int.eq_ofNat_of_zero_le b1
  obtain ⟨q, hq⟩ := Int.eq_ofNat_of_zero_le b3
  have hm2 : m < p.length + 5 := by omega
  have hq2 : q < 255 := by omega
  obtain ⟨S, hS⟩ : ∃ S, S = sealB (byteOf (pickN kind 256)) p := ⟨_, rfl⟩
  rw [← hS] at hln
  obtain ⟨X, hX⟩ : ∃ X : UInt8, X.toNat = 1 + q := ⟨UInt8.ofNat (1 + q), by simp; omega⟩
  have hX0 : X ≠ 0 := fun e => by rw [e] at hX; simp at hX; omega
  have hm3 : m < S.length := by omega
  obtain ⟨y, hy⟩ : ∃ y, S[m]'hm3 = y := ⟨_, rfl⟩
  obtain ⟨Y, hYe⟩ : ∃ Y, Y = y ^^^ X := ⟨_, rfl⟩
  have hxor : bits BinOp.xor IntKind.u8 (y.toNat : Int) (1 + (q : Int)) = (Y.toNat : Int) := by
    rw [hYe, ← u8_xor', show ((1 : Int) + q) = (X.toNat : Int) by omega]
  obtain ⟨n1, hbad⟩ := unsealB_turned (byteOf (pickN kind 256)) p m Y (by rw [← hS]; omega) (by simp only [← hS]; rw [hy, hYe]; exact xor_ne _ _ hX0)
  rw [← hS] at hbad
  have hgood := unsealB_seal (byteOf (pickN kind 256)) p
  rw [← hS] at hgood
  have hkk : ((byteOf (pickN kind 256)).toNat : Int) = pickN kind 256 := by rw [byteOf_toNat]; omega
  have HY := Lib.hid hy
  have HM := Lib.hid hm
  have HQ := Lib.hid hq
  have HS := Lib.hid hS
  have HB := Lib.hid hbad
  have HG := Lib.hid hgood
  clear hYe hy hm hq hS hbad hgood hX b1 b2 b3 b4
  have hmi : (m : Int) < (p.length : Int) + 5 := by omega
  go_enter Tryd.func4, Tryd.ntmps4
  by_cases hbig : 4096 < body.length
  · have hs := hsl hbig
    clear hsl hpp
    go_wp2_with fail
    refine (keepPick_any kind 256 _ h1 h2 (by decide)).mono ?_
    rintro e w1 ⟨rfl, rfl⟩
    go_wp2_with fail
    refine (plainSeal_any _ p _ (by unfold maxB; omega)).mono ?_
    rintro e w1 ⟨rfl, hb1⟩
    rw [← HS.out]
    go_wp2_with (refine wpList_bytes_of rfl (.tmp 34) rfl S rfl (by unfold maxB; omega) ?_; intro cap w2 hown2 hb2 hs2)
    refine (keepPick_any at' (p.length + 5) _ h3 h4 (by omega)).mono ?_
    rintro e w3 ⟨rfl, rfl⟩
    rw [HM.out]
    go_wp2_with fail
    refine (keepPick_any c 255 _ h5 h6 (by omega)).mono ?_
    rintro e w3 ⟨rfl, rfl⟩
    rw [HQ.out]
    obtain ⟨hcl, hfr⟩ : w2.cell? ⟨w1.heap.size, m, none⟩ = some (.int .u8 y.toNat) ∧ w2.frozen? ⟨w1.heap.size, m, none⟩ = false := by
      obtain ⟨hl, hx | ⟨g, off, cap2, he, _, _, hn, _, hc, hf⟩⟩ := hown2
      · cases hx.1
      · cases he
        have e1 := hc m (by rw [u8s_length]; exact hm3)
        have e2 := (hf m (by omega)).2
        rw [Nat.zero_add] at e1 e2
        refine ⟨?_, e2⟩
        rw [e1]
        simp only [u8s, List.getElem_map]
        rw [HY.out]
    go_wp2_with (refine wpList_string_of rfl (.tmp 54) rfl (S.set m Y) (by have := bytes_set hown2.bytes rfl m hm3 Y; rw [Nat.zero_add, hln] at this; exact this) ?_)
    have hw3 : Below w.heap.size w (w2.setCell ⟨w1.heap.size, m, none⟩ (.int .u8 Y.toNat)) := (hb1.tn hb2).setCell (p := ⟨w1.heap.size, m, none⟩) hb1.size _
    refine (plainUnseal_bad (S.set m Y) 3 n1 _ (hg.new hw3) (by rw [List.length_set]; unfold maxB; omega) HB.out).mono ?_
    rintro e w4 ⟨rfl, hb4⟩
    unfold faultV
    go_wp2_with fail
    refine (plainUnseal_good S (byteOf (pickN kind 256)) p _ (by unfold maxB; omega) HG.out).mono ?_
    rintro e w5 ⟨rfl, hb5⟩
    unfold faultV
    have HR := below_at hb5 (by simp) (heap_new w4 (.cells #[.int .i64 3, .int .i64 n1, .int .i64 0] 28))
    have d0 : w5.cell? ⟨w4.heap.size, 0, none⟩ = some (.int .i64 3) := cell_of_row _ _ 0 _ _ _ HR
    have hlt : w4.heap.size < w5.heap.size := block_lt HR
    clear HR
    go_wp2_with fail
    refine (keepPick_any kind 256 _ h1 h2 (by decide)).mono ?_
    rintro e w6 ⟨rfl, rfl⟩
    have hpe : (p == p) = true := beq_self_eq_true p
    have hke : (pickN kind 256 == pickN kind 256) = true := beq_self_eq_true _
    go_wp2
    go_ret
    exact ⟨rfl, (((hw3.tn hb4).al _).tn hb5).al _⟩
  · have e := hpp hbig
    clear hsl hpp
    subst body
    go_wp2_with fail
    refine (keepPick_any kind 256 _ h1 h2 (by decide)).mono ?_
    rintro e w1 ⟨rfl, rfl⟩
    go_wp2_with fail
    refine (plainSeal_any _ p _ (by unfold maxB; omega)).mono ?_
    rintro e w1 ⟨rfl, hb1⟩
    rw [← HS.out]
    go_wp2_with (refine wpList_bytes_of rfl (.tmp 34) rfl S rfl (by unfold maxB; omega) ?_; intro cap w2 hown2 hb2 hs2)
    refine (keepPick_any at' (p.length + 5) _ h3 h4 (by omega)).mono ?_
    rintro e w3 ⟨rfl, rfl⟩
    rw [HM.out]
    go_wp2_with fail
    refine (keepPick_any c 255 _ h5 h6 (by omega)).mono ?_
    rintro e w3 ⟨rfl, rfl⟩
    rw [HQ.out]
    obtain ⟨hcl, hfr⟩ : w2.cell? ⟨w1.heap.size, m, none⟩ = some (.int .u8 y.toNat) ∧ w2.frozen? ⟨w1.heap.size, m, none⟩ = false := by
      obtain ⟨hl, hx | ⟨g, off, cap2, he, _, _, hn, _, hc, hf⟩⟩ := hown2
      · cases hx.1
      · cases he
        have e1 := hc m (by rw [u8s_length]; exact hm3)
        have e2 := (hf m (by omega)).2
        rw [Nat.zero_add] at e1 e2
        refine ⟨?_, e2⟩
        rw [e1]
        simp only [u8s, List.getElem_map]
        rw [HY.out]
    go_wp2_with (refine wpList_string_of rfl (.tmp 54) rfl (S.set m Y) (by have := bytes_set hown2.bytes rfl m hm3 Y; rw [Nat.zero_add, hln] at this; exact this) ?_)
    have hw3 : Below w.heap.size w (w2.setCell ⟨w1.heap.size, m, none⟩ (.int .u8 Y.toNat)) := (hb1.tn hb2).setCell (p := ⟨w1.heap.size, m, none⟩) hb1.size _
    refine (plainUnseal_bad (S.set m Y) 3 n1 _ (hg.new hw3) (by rw [List.length_set]; unfold maxB; omega) HB.out).mono ?_
    rintro e w4 ⟨rfl, hb4⟩
    unfold faultV
    go_wp2_with fail
    refine (plainUnseal_good S (byteOf (pickN kind 256)) p _ (by unfold maxB; omega) HG.out).mono ?_
    rintro e w5 ⟨rfl, hb5⟩
    unfold faultV
    have HR := below_at hb5 (by simp) (heap_new w4 (.cells #[.int .i64 3, .int .i64 n1, .int .i64 0] 28))
    have d0 : w5.cell? ⟨w4.heap.size, 0, none⟩ = some (.int .i64 3) := cell_of_row _ _ 0 _ _ _ HR
    have hlt : w4.heap.size < w5.heap.size := block_lt HR
    clear HR
    go_wp2_with fail
    refine (keepPick_any kind 256 _ h1 h2 (by decide)).mono ?_
    rintro e w6 ⟨rfl, rfl⟩
    have hpe : (p == p) = true := beq_self_eq_true p
    have hke : (pickN kind 256 == pickN kind 256) = true := beq_self_eq_true _
    go_wp2
    go_ret
    exact ⟨rfl, (((hw3.tn hb4).al _).tn hb5).al _⟩
end Go.Proofs.YtkkfmkhbdoeglaaDoor
