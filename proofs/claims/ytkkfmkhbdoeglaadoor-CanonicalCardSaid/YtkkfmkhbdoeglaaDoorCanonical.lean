/- The walk of package overlaykeep's Canonical. No condition. -/
import Derived.Test.YtkkfmkhbdoeglaaDoorKeepDelta
import Derived.Test.YtkkfmkhbdoeglaaDoorPlainDec2
import Derived.Test.YtkkfmkhbdoeglaaDoorPlainEnc3
namespace Go.Proofs.YtkkfmkhbdoeglaaDoor
open Go.RowKit

theorem good_fit {v : Nat} {os : List OpB} (h : wrongB v os = none) : 1 ≤ os.length ∧ os.length ≤ 8 ∧ OpsFit os := by
  have hv : 1 ≤ os.length ∧ os.length ≤ 8 ∧ wrongFrom 0 [] os = none := by
    unfold wrongB at h
    split at h
    · cases h
    · split at h
      · cases h
      · rename_i h1 h2; exact ⟨by omega, by omega, h⟩
  refine ⟨hv.1, hv.2.1, fun o ho => ?_⟩
  obtain ⟨k, hk, rfl⟩ := List.getElem_of_mem ho
  obtain ⟨ks, hks⟩ := wrongFrom_none_at os 0 [] hv.2.2 k hk
  have := opBytes_le hks
  exact ⟨by unfold maxB; omega, by unfold maxB; omega⟩
/-- five stores: into a block of two cells and one of three -/
theorem set23_below {B : Nat} {w0 wr : World} (h : Below B w0 wr) {A Q : Nat} (hA : B ≤ A) (hQ : B ≤ Q) (u0 u1 v0 v1 v2 : Value) : Below B w0 (set23 wr A Q u0 u1 v0 v1 v2) :=
  ((((h.setCell (p := ⟨A, 0, none⟩) hA _).setCell (p := ⟨A, 1, none⟩) hA _).setCell (p := ⟨Q, 0, none⟩) hQ _).setCell (p := ⟨Q, 1, none⟩) hQ _).setCell (p := ⟨Q, 2, none⟩) hQ _
theorem set23_own {wr : World} {base k n : Nat} {v : Value} {xs : List Value} (h : OwnS wr base k v n xs) {A Q : Nat} (hA : A < base) (hQ : Q < base) (u0 u1 v0 v1 v2 : Value) : OwnS (set23 wr A Q u0 u1 v0 v1 v2) base k v n xs := by
  have o1 : ∀ {W : World} (p : Addr) (u : Value), p.block < base → OwnS W base k v n xs → OwnS (W.setCell p u) base k v n xs := fun {W} p u hp hW =>
    hW.frame (by rw [size_setCell]; exact Nat.le_refl _) (fun b hb _ => Below.heap_setCell W p u b (fun e => hW.apart hp (by rw [hb, e])))
  exact o1 ⟨Q, 2, none⟩ _ hQ (o1 ⟨Q, 1, none⟩ _ hQ (o1 ⟨Q, 0, none⟩ _ hQ (o1 ⟨A, 1, none⟩ _ hA (o1 ⟨A, 0, none⟩ _ hA h))))
set_option maxRecDepth 100000 in
set_option maxHeartbeats 4000000 in
theorem Canonical_walk (v : Int) (rv : Value) (l : List Int) (s : List UInt8) (w : World) (hr : IntsAt w rv l) (hll : l.length ≤ maxB) (hbd : ∀ x ∈ l, -9223372036854775808 ≤ x ∧ x ≤ 9223372036854775807) (hg : ShapesVar w) (hge : ErrVar w) (h1 : -9223372036854775808 ≤ v) (h2 : v ≤ 9223372036854775807) (hsl : s.length ≤ maxB) :
    Calls Tryd.prog 7 #[.int .i64 v, rv, .string ⟨s.toArray⟩] w fun e w' => e = .returned (.bool true) ∧ Below w.heap.size w w' := by
  have hs' := hsl
  unfold maxB at hs'
  obtain ⟨p1, p2⟩ := pickN_bound v 4611686018427387904 (by omega)
  obtain ⟨m, hm⟩ := Int.eq_ofNat_of_zero_le p1
  have hmb : (m : Int) < 4611686018427387904 := by omega
  have HM := Lib.hid hm
  have HPK := Lib.hid (fun W => keepPick_any v 4611686018427387904 W h1 h2 (by omega))
  obtain ⟨V, hV⟩ : ∃ V, V = 1 + m := ⟨_, rfl⟩
  have hver : isVersionB V = true := by unfold isVersionB; simp; omega
  have hgood := deltaN_good l V hver
  have hlen := deltaN_length l
  have hKD := fun W => keepDelta_any V rv l W
  obtain ⟨os, hos⟩ : ∃ os, os = deltaN l := ⟨_, rfl⟩
  rw [← hos] at hgood hlen hKD
  have hdec : decB (encB V os) = .inl (V, os) := by rw [decB_ref]; exact dec_enc V os hgood
  have hel : (encB V os).length ≤ maxB := by
    have h12 : ∀ o ∈ os, (opBytes o).length ≤ 12 := by
      have hwf : wrongFrom 0 [] os = none := by
        unfold wrongB at hgood
        split at hgood
        · cases hgood
        · split at hgood
          · cases hgood
          · exact hgood
      intro o ho
      obtain ⟨k, hk, rfl⟩ := List.getElem_of_mem ho
      obtain ⟨ks, hks⟩ := wrongFrom_none_at os 0 [] hwf k hk
      exact (opBytes_le hks).1
    have := encTo_le V os os.length h12
    rw [encTo_all] at this
    unfold maxB
    omega
  have hfit : OpsFit os := by
    intro o ho
    have hwf : wrongFrom 0 [] os = none := by
      unfold wrongB at hgood
      split at hgood
      · cases hgood
      · split at hgood
        · cases hgood
        · exact hgood
    obtain ⟨k, hk, rfl⟩ := List.getElem_of_mem ho
    obtain ⟨ks, hks⟩ := wrongFrom_none_at os 0 [] hwf k hk
    have := opBytes_le hks
    exact ⟨by unfold maxB; omega, by unfold maxB; omega⟩
  have HV := Lib.hid hV
  have HGOOD := Lib.hid hgood
  have HDEC := Lib.hid hdec
  have HR := Lib.hid hr
  have HG := Lib.hid hg
  have HGE := Lib.hid hge
  have HKD := Lib.hid (fun W hW => hKD W hW hll hbd)
  have HEL := Lib.hid hel
  clear hm p1 p2 hV hver hgood hdec hr hg hge hKD hos hel
  go_enter Tryd.func7, Tryd.ntmps7
  go_wp2_with fail
  refine (HPK.out _).mono ?_
  rintro e w0 ⟨rfl, rfl⟩
  rw [HM.out]
  go_wp2_with fail
  rw [show ((1 : Int) + (m : Int)) = ((V : Nat) : Int) by have := HV.out; omega]
  refine (HKD.out _ HR.out).mono ?_
  rintro e w1 ⟨⟨sv, rfl, ho1⟩, hb1⟩
  obtain ⟨sa, scap, rfl⟩ := ho1.shape
  have HO1 := Lib.hid ho1
  clear ho1
  have D1 := Lib.hid (heap_new w1 (.cells #[.int .u64 (V : Int), .slice sa os.length scap] 46))
  have b1a : Below w.heap.size w (w1.alloc (.cells #[.int .u64 (V : Int), .slice sa os.length scap] 46)) := hb1.alloc hb1.size _
  have t1 : Below w1.heap.size w1 (w1.alloc (.cells #[.int .u64 (V : Int), .slice sa os.length scap] 46)) := (Below.refl _ w1).alloc (Nat.le_refl _) _
  have hpe := plainEncode_any V (.slice sa os.length scap) os (w1.alloc (.cells #[.int .u64 (V : Int), .slice sa os.length scap] 46)) (HO1.out.ops.below t1) (HG.out.new b1a) (HGE.out.new b1a) hfit (by omega)
  rw [HGOOD.out] at hpe
  have HPE := Lib.hid hpe
  clear hpe
  go_wp2_with fail
  refine HPE.out.mono ?_
  rintro e w2 ⟨rfl, hb2⟩
  have b2 := b1a.trans (hb2.mono b1a.size)
  have D2 := Lib.hid (below_at hb2 (by simp) D1.out)
  have t2 : Below w1.heap.size w1 w2 := t1.trans (hb2.mono (by simp))
  have b2a : Below w.heap.size w (w2.alloc (.cells #[.int .i64 0, .int .i64 0, .int .i64 0] 28)) := b2.alloc b2.size _
  have t2a : Below w2.heap.size w2 (w2.alloc (.cells #[.int .i64 0, .int .i64 0, .int .i64 0] 28)) := (Below.refl _ w2).alloc (Nat.le_refl _) _
  simp only [faultV]
  go_wp2_with fail
  refine (plainDecode_any (encB V os) _ (HG.out.new b2a) (HGE.out.new b2a) HEL.out).mono ?_
  rintro e w3 ⟨hb3, hp3⟩
  rw [HDEC.out] at hp3
  obtain ⟨tv, rfl, ho2⟩ := hp3
  obtain ⟨ta, tcap, rfl⟩ := ho2.shape
  have HO2 := Lib.hid ho2
  clear ho2
  have b3 := b2a.trans (hb3.mono b2a.size)
  have t3 : Below w2.heap.size w2 w3 := t2a.trans (hb3.mono (by simp))
  have D3 := Lib.hid (below_at t3 (block_lt D2.out) D2.out)
  have F3 := Lib.hid (below_at hb3 (by simp) (heap_new w2 (.cells #[.int .i64 0, .int .i64 0, .int .i64 0] 28)))
  have hlD := block_lt D3.out
  have hlF := block_lt F3.out
  have d0 : w3.cell? ⟨w1.heap.size, 0, none⟩ = some (.int .u64 V) := cell_of_row _ _ 0 _ _ _ D3.out
  have d1 : w3.cell? ⟨w1.heap.size, 1, none⟩ = some (.slice sa os.length scap) := cell_of_row _ _ 1 _ _ _ D3.out
  have c0 : w3.cell? ⟨w2.heap.size, 0, none⟩ = some (.int .i64 0) := cell_of_row _ _ 0 _ _ _ F3.out
  have c1 : w3.cell? ⟨w2.heap.size, 1, none⟩ = some (.int .i64 0) := cell_of_row _ _ 1 _ _ _ F3.out
  have c2 : w3.cell? ⟨w2.heap.size, 2, none⟩ = some (.int .i64 0) := cell_of_row _ _ 2 _ _ _ F3.out
  simp only [faultV]
  go_wp2
  have t4 : Below w3.heap.size w3 ((w3.alloc (.cells #[.int .u64 (V : Int), .slice ta os.length tcap] 46)).alloc (.cells #[.int .i64 0, .int .i64 0, .int .i64 0] 28)) := ((Below.refl _ w3).alloc (Nat.le_refl _) _).alloc (by simp) _
  have X4 := heap_old (w3.alloc (.cells #[.int .u64 (V : Int), .slice ta os.length tcap] 46)) (.cells #[.int .i64 0, .int .i64 0, .int .i64 0] 28) (heap_new w3 (.cells #[.int .u64 (V : Int), .slice ta os.length tcap] 46))
  have Y4 := heap_new (w3.alloc (.cells #[.int .u64 (V : Int), .slice ta os.length tcap] 46)) (.cells #[.int .i64 0, .int .i64 0, .int .i64 0] 28)
  simp only [World.size_alloc] at Y4
  generalize hw4 : (w3.alloc (.cells #[.int .u64 (V : Int), .slice ta os.length tcap] 46)).alloc (.cells #[.int .i64 0, .int .i64 0, .int .i64 0] 28) = w4
  rw [hw4] at t4 X4 Y4
  have HX4 := Lib.hid X4
  have HY4 := Lib.hid Y4
  have D4 := Lib.hid (below_at t4 hlD D3.out)
  have HO1' := Lib.hid ((HO1.out.ops.below (t2.trans (t3.mono t2.size))).below t4)
  have HO2' := Lib.hid (HO2.out.ops.below t4)
  have b4 := b3.tn t4
  have hs4 := t4.size
  have hs3 := b3.size
  have hs12 : w1.heap.size < w3.heap.size := hlD
  clear hw4 X4 Y4 d0 d1 c0 c1 c2 hlD hlF
  go_loopw [12] (fun i wr => ∃ k : Nat, k ≤ os.length ∧ i = .int .i64 k ∧ ∃ q, wr = w4.drewN q) (fun i _ => os.length - (intOf i).toNat)
  case atStart => exact ⟨0, Nat.zero_le _, rfl, 0, rfl⟩
  case round =>
    obtain ⟨k, hk, rfl, qd, rfl⟩ := hrel
    have d1 : w4.cell? ⟨w1.heap.size, 1, none⟩ = some (.slice sa os.length scap) := cell_of_row _ _ 1 _ _ _ D4.out
    have e1 : w4.cell? ⟨w3.heap.size, 1, none⟩ = some (.slice ta os.length tcap) := cell_of_row _ _ 1 _ _ _ HX4.out
    have hlD4 := block_lt D4.out
    have hlX4 := block_lt HX4.out
    have hlY4 := block_lt HY4.out
    by_cases hlt : k < os.length
    · have hlt' : (k : Int) < os.length := by omega
      obtain ⟨a', cap', he, -, hx⟩ := HO1'.out.opened
      cases he
      obtain ⟨pb, po, rfl, a0, a1, a2, a3⟩ := hx k hlt
      obtain ⟨a', cap', he, -, hy⟩ := HO2'.out.opened
      cases he
      obtain ⟨qb, qo, rfl, c0, c1, c2, c3⟩ := hy k hlt
      clear hx hy
      generalize os[k] = o at *
      obtain ⟨kd, T, KB, VB⟩ := o
      have hne := fun w => neq_op kd T KB VB w
      go_wp2
      go_quiet (fail)
      go_wp2
      exact ⟨⟨k + 1, by omega, by go_num, _, rfl⟩, by simp [intOf]; omega⟩
    · obtain rfl : k = os.length := by omega
      have hge : ¬ (os.length : Int) < os.length := by omega
      have hqd : Below w4.heap.size w4 (w4.drewN qd) := (Below.refl _ w4).drewN qd
      have hpd := plainDecode_any s (w4.drewN qd) (HG.out.new (b4.tn hqd)) (HGE.out.new (b4.tn hqd)) hsl
      have HPD := Lib.hid hpd
      clear hpd
      go_wp2_with fail
      refine HPD.out.mono ?_
      rintro e w5 ⟨hb5', hp5⟩
      have hb5 : Below w4.heap.size w4 w5 := hqd.trans hb5'
      have b5 := b4.tn hb5
      have X5 := Lib.hid (below_at hb5 hlX4 HX4.out)
      have Y5 := Lib.hid (below_at hb5 hlY4 HY4.out)
      clear d1 e1 hb5' hqd
      have hs5 := hb5.size
      have hlX5 := block_lt X5.out
      have hlY5 := block_lt Y5.out
      have u0 := cell_of_row _ _ 0 _ _ _ X5.out
      have u1 := cell_of_row _ _ 1 _ _ _ X5.out
      have v0 := cell_of_row _ _ 0 _ _ _ Y5.out
      have v1 := cell_of_row _ _ 1 _ _ _ Y5.out
      have v2 := cell_of_row _ _ 2 _ _ _ Y5.out
      have fu0 := frozen_of_row _ _ 0 _ _ X5.out
      have fu1 := frozen_of_row _ _ 1 _ _ X5.out
      have fv0 := frozen_of_row _ _ 0 _ _ Y5.out
      have fv1 := frozen_of_row _ _ 1 _ _ Y5.out
      have fv2 := frozen_of_row _ _ 2 _ _ Y5.out
      cases hd : decB s with
      | inr f =>
        obtain ⟨fk, fp⟩ := f
        have hat := refDecB_at (s := s) (f := (fk, fp)) (by rw [← decB_ref]; exact hd)
        simp only at hat
        rw [hd] at hp5
        obtain rfl := hp5
        have x := set23_at (show w3.heap.size ≠ w3.heap.size + 1 by omega) X5.out Y5.out (.int .u64 0) (.slice none 0 0) (.int .i64 fk) (.int .i64 fp) (.int .i64 0)
        have hB := set23_below b5 (show w.heap.size ≤ w3.heap.size by omega) (show w.heap.size ≤ w3.heap.size + 1 by omega) (.int .u64 0) (.slice none 0 0) (.int .i64 fk) (.int .i64 fp) (.int .i64 0)
        have hsz : w3.heap.size + 1 < (set23 w5 w3.heap.size (w3.heap.size + 1) (.int .u64 0) (.slice none 0 0) (.int .i64 fk) (.int .i64 fp) (.int .i64 0)).heap.size := by unfold set23; simp only [size_setCell]; omega
        simp only [faultV]
        unfold set23 at x hB hsz
        obtain ⟨x0, x1, x2, x3, x4⟩ := x
        have hne : ((fk : Int) != 0) = true := by rw [bne_iff_ne]; omega
        have hge0 : (0 : Int) ≤ (fp : Int) := by omega
        have hle : (fp : Int) ≤ (s.length : Int) := by omega
        clear hd hat
        go_wp2
        go_ret
        exact ⟨rfl, hB⟩
      | inl x =>
        obtain ⟨n, us⟩ := x
        rw [hd] at hp5
        obtain ⟨nv, rfl, ho5⟩ := hp5
        obtain ⟨na, ncap, rfl⟩ := ho5.shape
        have hen := enc_dec s n us (by rw [← decB_ref]; exact hd)
        have x := set23_at (show w3.heap.size ≠ w3.heap.size + 1 by omega) X5.out Y5.out (.int .u64 n) (.slice na us.length ncap) (.int .i64 0) (.int .i64 0) (.int .i64 0)
        have hB := set23_below b5 (show w.heap.size ≤ w3.heap.size by omega) (show w.heap.size ≤ w3.heap.size + 1 by omega) (.int .u64 n) (.slice na us.length ncap) (.int .i64 0) (.int .i64 0) (.int .i64 0)
        have hsz : w3.heap.size + 1 < (set23 w5 w3.heap.size (w3.heap.size + 1) (.int .u64 n) (.slice na us.length ncap) (.int .i64 0) (.int .i64 0) (.int .i64 0)).heap.size := by unfold set23; simp only [size_setCell]; omega
        have hO := set23_own ho5 (A := w3.heap.size) (Q := w3.heap.size + 1) (by simp; omega) (by simp; omega) (.int .u64 n) (.slice na us.length ncap) (.int .i64 0) (.int .i64 0) (.int .i64 0)
        obtain ⟨hu1, hu8, hufit⟩ := good_fit hen.1
        have HG5 := HG.out.new hB
        have HGE5 := HGE.out.new hB
        have hpe := plainEncode_any n (.slice na us.length ncap) us _ hO.ops HG5 HGE5 hufit (by omega)
        rw [hen.1, hen.2] at hpe
        unfold set23 at x hB hsz hpe
        have HPE2 := Lib.hid hpe
        obtain ⟨x0, x1, x2, x3, x4⟩ := x
        have hss : (s == s) = true := beq_self_eq_true s
        simp only [faultV]
        clear hpe hen hd hO HG5 HGE5 ho5
        go_wp2_with fail
        refine HPE2.out.mono ?_
        rintro e w6 ⟨rfl, hb6⟩
        simp only [faultV]
        go_wp2
        go_ret
        exact ⟨rfl, (hB.trans (hb6.mono hB.size)).alloc (hB.trans (hb6.mono hB.size)).size _⟩
end Go.Proofs.YtkkfmkhbdoeglaaDoor
