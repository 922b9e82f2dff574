/- Walks of package overlaylaw's sameOps, first, encoded, decoded. No condition. -/
import Derived.Test.YtkkfmkhbdoeglaaDoorRefDecode
import Derived.Test.YtkkfmkhbdoeglaaDoorPlainDec2
import Derived.Test.YtkkfmkhbdoeglaaDoorPlainEnc3
import Derived.Test.YtkkfmkhbdoeglaaDoorRefEncode
import Derived.Test.YtkkfmkhbdoeglaaDoorPickLaw
import Derived.Test.YtkkfmkhbdoeglaaDoorRefOp
namespace Go.Proofs.YtkkfmkhbdoeglaaDoor
open Go.RowKit

set_option maxRecDepth 100000 in
set_option maxHeartbeats 1000000 in
theorem sameOps_true (sv tv : Value) (os : List OpB) (w : World) (h1 : OpsAt w sv os) (h2 : OpsAt w tv os) (hl : os.length ≤ 100) :
    Calls Tryd.prog 41 #[sv, tv] w fun e w' => e = .returned (.bool true) ∧ Below w.heap.size w w' := by
  obtain ⟨a, cap, rfl, -, hx⟩ := h1.opened
  obtain ⟨b, cap2, rfl, -, hy⟩ := h2.opened
  have HX := Lib.hid hx
  have HY := Lib.hid hy
  clear hx hy h1 h2
  go_enter Tryd.func41, Tryd.ntmps41
  go_wp2
  go_loopw [5] (fun i wr => ∃ k : Nat, k ≤ os.length ∧ i = .int .i64 k ∧ ∃ q, wr = w.drewN q) (fun i _ => os.length - (intOf i).toNat)
  case atStart => exact ⟨0, Nat.zero_le _, rfl, 0, rfl⟩
  case round =>
    obtain ⟨k, hk, rfl, q, rfl⟩ := hrel
    by_cases hlt : k < os.length
    · have hlt' : (k : Int) < os.length := by omega
      obtain ⟨b1, o1, rfl, c0, c1, c2, c3⟩ := HX.out k hlt
      obtain ⟨b2, o2, rfl, d0, d1, d2, d3⟩ := HY.out k hlt
      generalize os[k] = o at *
      obtain ⟨kd, T, KB, VB⟩ := o
      have hne := fun w => neq_op kd T KB VB w
      go_wp2
      go_quiet (fail)
      go_wp2
      exact ⟨⟨k + 1, by omega, by go_num, _, rfl⟩, by simp [intOf]; omega⟩
    · obtain rfl : k = os.length := by omega
      have hge : ¬ (os.length : Int) < os.length := by omega
      go_wp2
      go_ret
      exact ⟨rfl, (Below.refl _ w).drewN q⟩
/-- the document's first example -/
def firstOps : List OpB := [⟨1, 0, [2, 0, 0, 0, 0, 1], [10, 0, 0, 1]⟩]
theorem first_any (w : World) :
    Calls Tryd.prog 20 #[] w fun e w' => (∃ sv, e = .returned (.agg #[.int .u64 (1 : Nat), sv]) ∧ OpsAt w' sv firstOps) ∧ Below w.heap.size w w' := by
  go_enter Tryd.func20, Tryd.ntmps20
  go_wp2
  refine bodyPost_ret (v := .agg #[.int .u64 1, .slice (some ⟨w.heap.size + 1, 0, none⟩) 1 1]) (by simp [results, Tryd.results20, go_sem]) rfl ⟨⟨_, rfl, ?_⟩, ((Below.refl _ w).alloc (Nat.le_refl _) _).alloc (by simp) _⟩
  have := oneOp_at (w.alloc (.cells #[.int .u64 1, .slice (some ⟨w.heap.size + 1, 0, none⟩) 1 1] 46)) ⟨1, 0, [2, 0, 0, 0, 0, 1], [10, 0, 0, 1]⟩
  rw [World.size_alloc] at this
  exact this
set_option maxRecDepth 100000 in
set_option maxHeartbeats 1000000 in
theorem encoded_any (v : Nat) (sv : Value) (os : List OpB) (w : World) (hs : OpsAt w sv os) (hg : ShapesVar w) (hge : ErrVar w) (hfit : OpsFit os) (hv64 : v < 18446744073709551616) (hl : os.length ≤ 2932031007402) :
    Calls Tryd.prog 19 #[.agg #[.int .u64 v, sv]] w fun e w' => e = .returned (.bool true) ∧ Below w.heap.size w w' := by
  have b0 : Below w.heap.size w (w.alloc (.cells #[.int .u64 (v : Int), sv] 46)) := (Below.refl _ w).alloc (Nat.le_refl _) _
  have HD := Lib.hid (heap_new w (.cells #[.int .u64 (v : Int), sv] 46))
  have HS := Lib.hid hs
  have HG := Lib.hid hg
  have HGE := Lib.hid hge
  clear hs hg hge
  obtain ⟨s, f1, f2, hpe, hre⟩ : ∃ (s : List UInt8) (f1 f2 : Int), (∀ W, OpsAt W sv os → ShapesVar W → ErrVar W → Calls Tryd.prog 24 #[.agg #[.int .u64 v, sv]] W fun e w' => e = .returned (.tuple #[.string ⟨s.toArray⟩, .agg #[.int .i64 f1, .int .i64 f2, .int .i64 0]]) ∧ Below W.heap.size W w') ∧
      (∀ W, OpsAt W sv os → Calls Tryd.prog 22 #[.agg #[.int .u64 v, sv]] W fun e w' => e = .returned (.tuple #[.string ⟨s.toArray⟩, .agg #[.int .i64 f1, .int .i64 f2]]) ∧ Below W.heap.size W w') := by
    cases hw : wrongB v os with
    | none =>
      refine ⟨encB v os, 0, 0, fun W h1 h2 h3 => ?_, fun W h1 => refEncode_good v sv os W h1 hfit hw⟩
      have := plainEncode_any v sv os W h1 h2 h3 hfit hl
      rw [hw] at this
      exact this
    | some f =>
      refine ⟨[], f.1, f.2, fun W h1 h2 h3 => ?_, fun W h1 => refEncode_bad v sv os W h1 hfit hv64 f hw⟩
      have := plainEncode_any v sv os W h1 h2 h3 hfit hl
      rw [hw] at this
      exact this
  have HPE := Lib.hid hpe
  have HRE := Lib.hid hre
  clear hpe hre
  have hq : (s == s) = true := beq_self_eq_true s
  go_enter Tryd.func19, Tryd.ntmps19
  go_wp2_with fail
  refine (HPE.out _ (HS.out.below b0) (HG.out.new b0) (HGE.out.new b0)).mono ?_
  rintro e w1 ⟨rfl, hb1⟩
  have b1 : Below w.heap.size w w1 := b0.trans (hb1.mono (by simp))
  have D1 := Lib.hid (below_at hb1 (by simp) HD.out)
  have d0 := cell_of_row _ _ 0 _ _ _ D1.out
  have d1 := cell_of_row _ _ 1 _ _ _ D1.out
  have hlD := block_lt D1.out
  have b1a : Below w.heap.size w (w1.alloc (.cells #[.int .i64 f1, .int .i64 f2, .int .i64 0] 28)) := b1.alloc b1.size _
  go_wp2_with fail
  refine (HRE.out _ (HS.out.below b1a)).mono ?_
  rintro e w2 ⟨rfl, hb2⟩
  have F2 := Lib.hid (below_at hb2 (by simp) (heap_new w1 (.cells #[.int .i64 f1, .int .i64 f2, .int .i64 0] 28)))
  have c0 : w2.cell? ⟨w1.heap.size, 0, none⟩ = some (.int .i64 f1) := cell_of_row _ _ 0 _ _ _ F2.out
  have c1 : w2.cell? ⟨w1.heap.size, 1, none⟩ = some (.int .i64 f2) := cell_of_row _ _ 1 _ _ _ F2.out
  have c2 : w2.cell? ⟨w1.heap.size, 2, none⟩ = some (.int .i64 0) := cell_of_row _ _ 2 _ _ _ F2.out
  have hlF := block_lt F2.out
  have b2 := b1a.trans (hb2.mono b1a.size)
  have hst := same_true f1 f2
  unfold faultV at hst
  have HST := Lib.hid hst
  clear hst
  go_wp2_with fail
  refine (HST.out _).mono ?_
  rintro e w3 ⟨rfl, hb3⟩
  go_wp2
  go_ret
  exact ⟨rfl, (b2.alloc b2.size _).trans (hb3.mono (by have := b2.size; simp; omega))⟩
set_option maxRecDepth 100000 in
set_option maxHeartbeats 1000000 in
theorem decoded_any (s : List UInt8) (w : World) (hg : ShapesVar w) (hge : ErrVar w) (hl : s.length ≤ maxB) :
    Calls Tryd.prog 21 #[.string ⟨s.toArray⟩] w fun e w' => e = .returned (.bool true) ∧ Below w.heap.size w w' := by
  obtain ⟨n, os, f1, f2, hos, hpd, hrd⟩ : ∃ (n : Nat) (os : List OpB) (f1 f2 : Int), os.length ≤ 100 ∧ (∀ W, ShapesVar W → ErrVar W → Calls Tryd.prog 25 #[.string ⟨s.toArray⟩] W fun e w' => (∃ sv, e = .returned (.tuple #[.agg #[.int .u64 n, sv], .agg #[.int .i64 f1, .int .i64 f2, .int .i64 0]]) ∧ OpsAt w' sv os) ∧ Below W.heap.size W w') ∧
      (∀ W, Calls Tryd.prog 40 #[.string ⟨s.toArray⟩] W fun e w' => (∃ sv, e = .returned (.tuple #[.agg #[.int .u64 n, sv], .agg #[.int .i64 f1, .int .i64 f2]]) ∧ OpsAt w' sv os) ∧ Below W.heap.size W w') := by
    cases hd : refDecB s with
    | inl x =>
      obtain ⟨n, os⟩ := x
      have hw := (enc_dec s n os hd).1
      have h8 : os.length ≤ 8 := by
        unfold wrongB at hw
        split at hw
        · cases hw
        · split at hw
          · cases hw
          · rename_i h1 h2; omega
      refine ⟨n, os, 0, 0, by omega, fun W h1 h2 => (plainDecode_any s W h1 h2 hl).mono fun e w' ⟨hb, h⟩ => ?_, fun W => (refDecode_any s W hl).mono fun e w' ⟨hb, h⟩ => ?_⟩
      · rw [decB_ref, hd] at h
        obtain ⟨sv, he, ho⟩ := h
        exact ⟨⟨sv, he, ho.ops⟩, hb⟩
      · rw [hd] at h
        obtain ⟨sv, he, ho⟩ := h
        exact ⟨⟨sv, he, ho.ops⟩, hb⟩
    | inr f =>
      refine ⟨0, [], f.1, f.2, by simp, fun W h1 h2 => (plainDecode_any s W h1 h2 hl).mono fun e w' ⟨hb, h⟩ => ?_, fun W => (refDecode_any s W hl).mono fun e w' ⟨hb, h⟩ => ?_⟩
      · rw [decB_ref, hd] at h
        exact ⟨⟨_, h, SliceAt.nil _ none 4 0⟩, hb⟩
      · rw [hd] at h
        exact ⟨⟨_, h, SliceAt.nil _ none 4 0⟩, hb⟩
  have HPD := Lib.hid hpd
  have HRD := Lib.hid hrd
  have HG := Lib.hid hg
  have HGE := Lib.hid hge
  clear hpd hrd hg hge
  have hq : ((n : Int) == n) = true := beq_self_eq_true _
  go_enter Tryd.func21, Tryd.ntmps21
  go_wp2_with fail
  refine (HPD.out _ HG.out HGE.out).mono ?_
  rintro e w1 ⟨⟨sv, rfl, ho1⟩, hb1⟩
  obtain ⟨sa, scap, rfl, -⟩ := ho1.opened
  have HO1 := Lib.hid ho1
  clear ho1
  have b1a : Below w1.heap.size w1 ((w1.alloc (.cells #[.int .u64 (n : Int), .slice sa os.length scap] 46)).alloc (.cells #[.int .i64 f1, .int .i64 f2, .int .i64 0] 28)) := ((Below.refl _ w1).alloc (Nat.le_refl _) _).alloc (by simp) _
  go_wp2_with fail
  refine (HRD.out _).mono ?_
  rintro e w2 ⟨⟨tv, rfl, ho2⟩, hb2⟩
  obtain ⟨ta, tcap, rfl, -⟩ := ho2.opened
  have HO2 := Lib.hid ho2
  clear ho2
  have D2' := heap_old (w1.alloc (.cells #[.int .u64 (n : Int), .slice sa os.length scap] 46)) (.cells #[.int .i64 f1, .int .i64 f2, .int .i64 0] 28) (heap_new w1 (.cells #[.int .u64 (n : Int), .slice sa os.length scap] 46))
  have F2' := heap_new (w1.alloc (.cells #[.int .u64 (n : Int), .slice sa os.length scap] 46)) (.cells #[.int .i64 f1, .int .i64 f2, .int .i64 0] 28)
  simp only [World.size_alloc] at F2'
  have D2 := Lib.hid (below_at hb2 (by simp <;> omega) D2')
  have F2 := Lib.hid (below_at hb2 (by simp) F2')
  clear D2' F2'
  have hlD2 := block_lt D2.out
  have hlF2 := block_lt F2.out
  have c0 : w2.cell? ⟨w1.heap.size + 1, 0, none⟩ = some (.int .i64 f1) := cell_of_row _ _ 0 _ _ _ F2.out
  have c1 : w2.cell? ⟨w1.heap.size + 1, 1, none⟩ = some (.int .i64 f2) := cell_of_row _ _ 1 _ _ _ F2.out
  have c2 : w2.cell? ⟨w1.heap.size + 1, 2, none⟩ = some (.int .i64 0) := cell_of_row _ _ 2 _ _ _ F2.out
  have t2 : Below w1.heap.size w1 w2 := b1a.trans (hb2.mono b1a.size)
  have HO1b := Lib.hid (HO1.out.below t2)
  have hst := same_true f1 f2
  unfold faultV at hst
  have HST := Lib.hid hst
  clear hst
  go_wp2_with fail
  refine (HST.out _).mono ?_
  rintro e w3 ⟨rfl, hb3⟩
  have t3 : Below w2.heap.size w2 w3 := (((Below.refl _ w2).alloc (Nat.le_refl _) _).alloc (by simp) _).trans (hb3.mono (by simp <;> omega))
  have T3' := heap_old (w2.alloc (.cells #[.int .u64 (n : Int), .slice ta os.length tcap] 46)) (.cells #[.int .i64 f1, .int .i64 f2] 53) (heap_new w2 (.cells #[.int .u64 (n : Int), .slice ta os.length tcap] 46))
  have T3 := Lib.hid (below_at hb3 (by simp <;> omega) T3')
  clear T3'
  have D3 := Lib.hid (below_at t3 hlD2 D2.out)
  have hlT3 := block_lt T3.out
  have hlD3 := block_lt D3.out
  have e0 : w3.cell? ⟨w1.heap.size, 0, none⟩ = some (.int .u64 n) := cell_of_row _ _ 0 _ _ _ D3.out
  have e1 : w3.cell? ⟨w1.heap.size, 1, none⟩ = some (.slice sa os.length scap) := cell_of_row _ _ 1 _ _ _ D3.out
  have g0 : w3.cell? ⟨w2.heap.size, 0, none⟩ = some (.int .u64 n) := cell_of_row _ _ 0 _ _ _ T3.out
  have g1 : w3.cell? ⟨w2.heap.size, 1, none⟩ = some (.slice ta os.length tcap) := cell_of_row _ _ 1 _ _ _ T3.out
  go_wp2_with fail
  refine (sameOps_true _ _ os _ (HO1b.out.below t3) (HO2.out.below t3) hos).mono ?_
  rintro e w4 ⟨rfl, hb4⟩
  have D4 := Lib.hid (below_at hb4 hlD3 D3.out)
  have T4 := Lib.hid (below_at hb4 hlT3 T3.out)
  have e0 : w4.cell? ⟨w1.heap.size, 0, none⟩ = some (.int .u64 n) := cell_of_row _ _ 0 _ _ _ D4.out
  have g0 : w4.cell? ⟨w2.heap.size, 0, none⟩ = some (.int .u64 n) := cell_of_row _ _ 0 _ _ _ T4.out
  go_wp2
  go_ret
  exact ⟨rfl, ((hb1.tn t2).tn t3).tn hb4⟩
theorem encB_length {v : Nat} {os : List OpB} (h : wrongB v os = none) : 9 ≤ (encB v os).length ∧ (encB v os).length ≤ 200 := by
  have hv : os.length ≤ 8 ∧ wrongFrom 0 [] os = none := by
    unfold wrongB at h
    split at h
    · cases h
    · split at h
      · cases h
      · rename_i h1 h2; exact ⟨by omega, h⟩
  have h12 : ∀ o ∈ os, (opBytes o).length ≤ 12 := by
    intro o ho
    obtain ⟨k, hk, rfl⟩ := List.getElem_of_mem ho
    obtain ⟨ks, hks⟩ := wrongFrom_none_at os 0 [] hv.2 k hk
    exact (opBytes_le hks).1
  have := encTo_le v os os.length h12
  rw [encTo_all] at this
  refine ⟨by simp [encB, be8]; omega, by omega⟩
theorem firstFit : OpsFit firstOps := by
  intro o ho
  rw [List.mem_singleton.1 ho]
  exact ⟨by simp [maxB], by simp [maxB]⟩
/-- bytes in a string's own new slice, one of them another -/
theorem bytes_set0 {w : World} {g n cap : Nat} {l : List UInt8} (h : BytesAt w (.slice (some ⟨g, 0, none⟩) n cap) l) (hn : n = l.length) (i : Nat) (hi : i < l.length) (x : UInt8) :
    BytesAt (w.setCell ⟨g, i, none⟩ (.int .u8 x.toNat)) (.slice (some ⟨g, 0, none⟩) n cap) (l.set i x) := by
  subst hn
  obtain ⟨a, cap', he, hc, hx⟩ := h.opened
  cases he
  rw [show l.length = (l.set i x).length by simp]
  refine BytesAt.mk' (by simpa using hc) fun j hj => ⟨g, 0, rfl, ?_⟩
  obtain ⟨b', off', ha, hcell⟩ := hx j (by simpa using hj)
  cases ha
  by_cases hij : i = j
  · subst hij
    rw [Nat.zero_add] at hcell ⊢
    rw [World.cell?_setCell_same (h := hcell)]
    simp
  · rw [World.cell?_setCell_other (h := by simp [hij]), hcell]
    simp [hij]
theorem own_byte {w : World} {base g n cap : Nat} {l : List UInt8} (h : OwnS w base 1 (.slice (some ⟨g, 0, none⟩) n cap) n (u8s l)) (i : Nat) (hi : i < l.length) :
    w.cell? ⟨g, i, none⟩ = some (.int .u8 (l[i].toNat : Int)) ∧ w.frozen? ⟨g, i, none⟩ = false := by
  obtain ⟨hl, hx | ⟨g', off, cap2, he, _, _, hn, _, hc, hf⟩⟩ := h
  · cases hx.1
  · cases he
    rw [u8s_length] at hl
    have e1 := hc i (by rw [u8s_length]; exact hi)
    have e2 := (hf i (by omega)).2
    rw [Nat.zero_add] at e1 e2
    refine ⟨?_, e2⟩
    rw [e1]
    simp only [u8s, List.getElem_map]
set_option maxRecDepth 100000 in
set_option maxHeartbeats 2000000 in
theorem Deltas_walk (v : Nat) (sv : Value) (os : List OpB) (s : List UInt8) (at' c : Int) (w : World) (hs : OpsAt w sv os) (hg : ShapesVar w) (hge : ErrVar w) (hfit : OpsFit os) (hv64 : v < 18446744073709551616) (hl : os.length ≤ 2932031007402)
    (hsl : s.length ≤ 140737488354000) (h1 : -9223372036854775808 ≤ at') (h2 : at' ≤ 9223372036854775807) (h3 : -9223372036854775808 ≤ c) (h4 : c ≤ 9223372036854775807) :
    Calls Tryd.prog 6 #[.agg #[.int .u64 v, sv], .string ⟨s.toArray⟩, .int .i64 at', .int .i64 c] w fun e w' => e = .returned (.bool true) ∧ Below w.heap.size w w' := by
  have hsm : s.length ≤ maxB := by unfold maxB; omega
  have b0 : Below w.heap.size w (w.alloc (.cells #[.int .u64 (v : Int), sv] 46)) := (Below.refl _ w).alloc (Nat.le_refl _) _
  have HD := Lib.hid (heap_new w (.cells #[.int .u64 (v : Int), sv] 46))
  have HS := Lib.hid hs
  have HG := Lib.hid hg
  have HGE := Lib.hid hge
  clear hs hg hge
  have HEX := Lib.hid (fun W b => decoded_any [0, 0, 0, 0, 0, 0, 0, 1, 1, 1, 0, 2, 0, 0, 0, 0, 1, 10, 0, 0, 1] W (HG.out.new b) (HGE.out.new b) (by simp [maxB]))
  have HDEC := Lib.hid (fun W l (hl : l.length ≤ maxB) b => decoded_any l W (HG.out.new b) (HGE.out.new b) hl)
  have HENC := Lib.hid (fun W b => encoded_any v sv os W (HS.out.below b) (HG.out.new b) (HGE.out.new b) hfit hv64 hl)
  have HFIR := Lib.hid (fun W fv b (hf : OpsAt W fv firstOps) => encoded_any 1 fv firstOps W hf (HG.out.new b) (HGE.out.new b) firstFit (by decide) (by decide))
  go_enter Tryd.func6, Tryd.ntmps6
  go_wp2_with fail
  refine (first_any _).mono ?_
  rintro e w1 ⟨⟨fv, rfl, hfv⟩, hb1⟩
  have b1 := b0.trans (hb1.mono b0.size)
  have D1 := Lib.hid (below_at hb1 (by simp) HD.out)
  go_wp2_with fail
  refine (HFIR.out _ fv b1 hfv).mono ?_
  rintro e w2 ⟨rfl, hb2⟩
  have b2 := b1.tn hb2
  have D2 := Lib.hid (below_at hb2 (block_lt D1.out) D1.out)
  go_wp2_with fail
  refine (HEX.out _ b2).mono ?_
  rintro e w3 ⟨rfl, hb3⟩
  have b3 := b2.tn hb3
  have D3 := Lib.hid (below_at hb3 (block_lt D2.out) D2.out)
  have d0 := cell_of_row _ _ 0 _ _ _ D3.out
  have d1 := cell_of_row _ _ 1 _ _ _ D3.out
  go_wp2_with fail
  refine (HENC.out _ b3).mono ?_
  rintro e w4 ⟨rfl, hb4⟩
  clear d0 d1
  have b4 := b3.tn hb4
  have D4 := Lib.hid (below_at hb4 (block_lt D3.out) D3.out)
  go_wp2_with fail
  refine (HDEC.out _ s hsm b4).mono ?_
  rintro e w5 ⟨rfl, hb5⟩
  have b5 := b4.tn hb5
  have D5 := Lib.hid (below_at hb5 (block_lt D4.out) D4.out)
  have d0 := cell_of_row _ _ 0 _ _ _ D5.out
  have d1 := cell_of_row _ _ 1 _ _ _ D5.out
  go_wp2_with fail
  cases hw : wrongB v os with
  | some f =>
    have hk := (wrongB_kind hw).1
    refine (refEncode_bad v sv os _ (HS.out.below b5) hfit hv64 f hw).mono ?_
    rintro e w6 ⟨rfl, hb6⟩
    obtain ⟨f1, f2⟩ := f
    have hne : ((f1 : Int) != 0) = true := by rw [bne_iff_ne]; simp only at hk; omega
    have HW := Lib.hid hw
    clear hw hk
    have b6 := b5.tn hb6
    simp only
    go_wp2
    go_ret
    exact ⟨rfl, b6.alloc b6.size _⟩
  | none =>
    have hel := encB_length hw
    refine (refEncode_good v sv os _ (HS.out.below b5) hfit hw).mono ?_
    rintro e w6 ⟨rfl, hb6⟩
    obtain ⟨S, hS⟩ : ∃ S, S = encB v os := ⟨_, rfl⟩
    rw [← hS] at hel ⊢
    clear hS hw d0 d1
    have b6 := b5.tn hb6
    have b6a : Below w.heap.size w (w6.alloc (.cells #[.int .i64 0, .int .i64 0] 53)) := b6.alloc b6.size _
    obtain ⟨p1, p2⟩ := pickN_bound at' (S.length) (by omega)
    obtain ⟨m, hm⟩ := Int.eq_ofNat_of_zero_le p1
    have hmS : m < S.length := by omega
    have HM := Lib.hid hm
    have hmi : (m : Int) < (S.length : Int) := by omega
    have hpk := lawPick_any at' S.length
    have HPK := Lib.hid (fun W => hpk W h1 h2 (by omega))
    clear hm hpk p1 p2
    have HC := Lib.hid (byteOf_toNat c)
    have hcut : ∀ w, (Instr.slice 9 (.string ⟨S.toArray⟩) none (some (.int .i64 (m : Int))) none).run Tryd.prog w = .ok (.string ⟨(S.take m).toArray⟩) w := fun w => by
      rw [run_str_to Tryd.underlying9 _ _ _ (by omega) (by omega), Int.toNat_natCast]
    go_wp2_with fail
    refine (HPK.out _).mono ?_
    rintro e w7 ⟨rfl, rfl⟩
    rw [HM.out]
    go_wp2_with (refine wpList_bytes_of rfl (.tmp 54) rfl S rfl (by unfold maxB; omega) ?_; intro cap w7 hown7 hb7 hs7; simp only [World.size_alloc] at hown7 hs7; obtain ⟨hcl, hfr⟩ := own_byte hown7 m hmS)
    have hs6 := b6.size
    have b7 : Below w.heap.size w w7 := b6a.trans (hb7.mono (by simp; omega))
    have b8 : Below w.heap.size w (w7.setCell ⟨w6.heap.size + 1, m, none⟩ (.int .u8 (c % 256))) := b7.setCell (p := ⟨w6.heap.size + 1, m, none⟩) (by simp; omega) _
    have HBY : Hid (BytesAt (w7.setCell ⟨w6.heap.size + 1, m, none⟩ (.int .u8 (c % 256))) (.slice (some ⟨w6.heap.size + 1, 0, none⟩) S.length cap) (S.set m (byteOf c))) := Lib.hid (by have := bytes_set0 hown7.bytes rfl m hmS (byteOf c); rw [HC.out] at this; exact this)
    refine (HDEC.out _ S (by unfold maxB; omega) b8).mono ?_
    rintro e w9 ⟨rfl, hb9⟩
    have b9 := b8.tn hb9
    go_wp2_with fail
    refine (HDEC.out _ (S.take m) (by rw [List.length_take]; unfold maxB; omega) b9).mono ?_
    rintro e w10 ⟨rfl, hb10⟩
    have b10 := b9.tn hb10
    go_wp2_with (refine wpList_string_of rfl (.tmp 67) rfl (S.set m (byteOf c)) (by exact (HBY.out.below hb9).below hb10) ?_)
    refine (HDEC.out _ (S.set m (byteOf c)) (by rw [List.length_set]; unfold maxB; omega) b10).mono ?_
    rintro e w11 ⟨rfl, hb11⟩
    have b11 := b10.tn hb11
    go_wp2_with (refine wpList_add_str rfl (.tmp 70) (.tmp 71) rfl S s rfl rfl (by omega) ?_)
    refine (HDEC.out _ (S ++ s) (by rw [List.length_append]; unfold maxB; omega) b11).mono ?_
    rintro e w12 ⟨rfl, hb12⟩
    go_wp2
    go_ret
    exact ⟨rfl, b11.tn hb12⟩
end Go.Proofs.YtkkfmkhbdoeglaaDoor
