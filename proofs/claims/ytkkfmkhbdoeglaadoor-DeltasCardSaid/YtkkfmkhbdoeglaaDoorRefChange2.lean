/- The contract of the reference's change, the head being good. No condition. -/
import Derived.Test.YtkkfmkhbdoeglaaDoorRefChange
namespace Go.Proofs.YtkkfmkhbdoeglaaDoor
open Go.RowKit

theorem keyLen_bound (T : Int) : 2 ≤ keyLen T ∧ keyLen T ≤ 6 := by unfold keyLen; split <;> (try split) <;> omega
theorem valLen_bound (T : Int) : 2 ≤ valLen T ∧ valLen T ≤ 4 := by unfold valLen; split <;> (try split) <;> omega
set_option maxRecDepth 100000 in
set_option maxHeartbeats 2000000 in
theorem refChange_keyShort (s : List UInt8) (at' : Nat) (x y : UInt8) (r : List UInt8) (sv : Value) (ks : List K) (w : World) (hs : s.length ≤ 9223372036854770000) (hd : s.drop at' = x :: y :: r) (h1 : 1 ≤ x.toNat) (h2 : x.toNat ≤ 2) (h3 : y.toNat ≤ 2) (hk : r.length < keyLen y.toNat) :
    Calls Tryd.prog 61 #[.string ⟨s.toArray⟩, .int .i64 at', sv] w fun e w' => (∃ v, e = .returned v ∧ changeV s at' ks v) ∧ Below w.heap.size w w' := by
  obtain ⟨hd2, hlen⟩ := drop2 hd
  have hx0 : s[at']? = some x := by have := congrArg (fun l => l[0]?) hd; simpa using this
  have hy0 : s[at' + 1]? = some y := by have := congrArg (fun l => l[1]?) hd; simpa using this
  have hx := x.toNat_lt
  have hy := y.toNat_lt
  have i0 : ∀ w, (Instr.index 9 (.string ⟨s.toArray⟩) (.int .i64 (at' : Int))).run Tryd.prog w = .ok (.int .u8 x.toNat) w := fun w => run_index_str Tryd.underlying9 _ _ _ x (by omega) (by rw [Int.toNat_natCast]; exact hx0) w
  have i1 : ∀ w, (Instr.index 9 (.string ⟨s.toArray⟩) (.int .i64 ((at' : Int) + 1))).run Tryd.prog w = .ok (.int .u8 y.toNat) w := fun w => run_index_str Tryd.underlying9 _ _ _ y (by omega) (by rw [show ((at' : Int) + 1).toNat = at' + 1 by omega]; exact hy0) w
  have hge : ¬ (s.length : Int) < at' + 2 := by omega
  have HC : Hid (changeB s at' ks = .inr (1, at' + 2)) := Lib.hid (by unfold changeB; rw [hd]; simp only; rw [if_neg (by omega), if_pos hk])
  have j1 : (1 : Int) ≤ x.toNat := by omega
  have j2 : (x.toNat : Int) ≤ 2 := by omega
  have j3 : (y.toNat : Int) ≤ 2 := by omega
  obtain ⟨hk1, hk2⟩ := keyLen_bound y.toNat
  have hsz := fun w => refSizes_any (y.toNat : Int) w (by omega) (by omega)
  have hshort : (s.length : Int) < at' + 2 + (keyLen y.toNat : Int) := by omega
  generalize keyLen y.toNat = kl at *
  generalize valLen y.toNat = vl at *
  have HSZ := Lib.hid hsz
  clear hsz hd hd2 hx0 hy0 hlen
  go_enter Tryd.func61, Tryd.ntmps61
  go_wp2_with (go_at_call 86; refine (HSZ.out _).mono ?_; rintro e w' ⟨rfl, rfl⟩)
  refine bodyPost_ret (v := .tuple #[opV ⟨x.toNat, y.toNat, [], []⟩, .int .i64 0, .agg #[.int .i64 1, .int .i64 (at' + 2)]]) (by simp [results, Tryd.results61, go_sem, opV]) rfl ⟨⟨_, rfl, changeV_inr _ HC.out rfl⟩, ?_⟩
  exact (((Below.refl _ w).alloc (Nat.le_refl _) _).alloc (by simp) _).alloc (by simp <;> omega) _
set_option maxRecDepth 100000 in
set_option maxHeartbeats 4000000 in
theorem refChange_key (s : List UInt8) (at' : Nat) (x y : UInt8) (r : List UInt8) (sv : Value) (us : List OpB) (w : World) (hs : s.length ≤ 9223372036854770000) (hd : s.drop at' = x :: y :: r) (h1 : 1 ≤ x.toNat) (h2 : x.toNat ≤ 2) (h3 : y.toNat ≤ 2) (hk : ¬ r.length < keyLen y.toNat) (hus : OpsAt w sv us) (hl : us.length ≤ 100) :
    Calls Tryd.prog 61 #[.string ⟨s.toArray⟩, .int .i64 at', sv] w fun e w' => (∃ v, e = .returned v ∧ changeV s at' (keysOf us) v) ∧ Below w.heap.size w w' := by
  obtain ⟨hd2, hlen⟩ := drop2 hd
  have hx0 : s[at']? = some x := by have := congrArg (fun l => l[0]?) hd; simpa using this
  have hy0 : s[at' + 1]? = some y := by have := congrArg (fun l => l[1]?) hd; simpa using this
  have hx := x.toNat_lt
  have hy := y.toNat_lt
  have i0 : ∀ w, (Instr.index 9 (.string ⟨s.toArray⟩) (.int .i64 (at' : Int))).run Tryd.prog w = .ok (.int .u8 x.toNat) w := fun w => run_index_str Tryd.underlying9 _ _ _ x (by omega) (by rw [Int.toNat_natCast]; exact hx0) w
  have i1 : ∀ w, (Instr.index 9 (.string ⟨s.toArray⟩) (.int .i64 ((at' : Int) + 1))).run Tryd.prog w = .ok (.int .u8 y.toNat) w := fun w => run_index_str Tryd.underlying9 _ _ _ y (by omega) (by rw [show ((at' : Int) + 1).toNat = at' + 1 by omega]; exact hy0) w
  have hge : ¬ (s.length : Int) < at' + 2 := by omega
  have HCH : Hid (changeB s at' (keysOf us) = if isKeyB y.toNat (r.take (keyLen y.toNat)) = false then .inr (7, at' + 2)
    else if (keysOf us).contains ((y.toNat : Int), r.take (keyLen y.toNat)) = true then .inr (8, at' + 2)
    else if x.toNat = 2 then .inl (⟨2, y.toNat, r.take (keyLen y.toNat), []⟩, at' + 2 + keyLen y.toNat)
    else if r.length < keyLen y.toNat + valLen y.toNat then .inr (1, at' + 2 + keyLen y.toNat)
    else if isValueB y.toNat ((r.drop (keyLen y.toNat)).take (valLen y.toNat)) = false then .inr (9, at' + 2 + keyLen y.toNat)
    else .inl (⟨1, y.toNat, r.take (keyLen y.toNat), (r.drop (keyLen y.toNat)).take (valLen y.toNat)⟩, at' + 2 + keyLen y.toNat + valLen y.toNat)) := Lib.hid (by
      unfold changeB; rw [hd]; simp only; rw [if_neg (by omega), if_neg hk])
  have j1 : (1 : Int) ≤ x.toNat := by omega
  have j2 : (x.toNat : Int) ≤ 2 := by omega
  have j3 : (y.toNat : Int) ≤ 2 := by omega
  obtain ⟨hk1, hk2⟩ := keyLen_bound y.toNat
  obtain ⟨hv1, hv2⟩ := valLen_bound y.toNat
  have hsz := fun w => refSizes_any (y.toNat : Int) w (by omega) (by omega)
  have hkey : s.drop (at' + 2) = r := hd2
  generalize keyLen y.toNat = kl at *
  generalize valLen y.toNat = vl at *
  have hlong : ¬ (s.length : Int) < at' + 2 + (kl : Int) := by omega
  have hsl : ∀ w, (Instr.slice 9 (.string ⟨s.toArray⟩) (some (.int .i64 ((at' : Int) + 2))) (some (.int .i64 ((at' : Int) + 2 + kl))) none).run Tryd.prog w = .ok (.string ⟨(r.take kl).toArray⟩) w := fun w => by
    rw [run_str_part Tryd.underlying9 _ _ _ _ _ (by omega) (by omega) (by omega), show ((at' : Int) + 2).toNat = at' + 2 by omega, show ((at' : Int) + 2 + kl).toNat - (at' + 2) = kl by omega, hkey]
  obtain ⟨KB, hKB⟩ : ∃ KB, KB = r.take kl := ⟨_, rfl⟩
  have hkbl : KB.length ≤ 6 := by rw [hKB, List.length_take]; omega
  rw [← hKB] at hsl HCH
  have HKB := Lib.hid hKB
  have hsv : kl + vl ≤ r.length → ∀ w, (Instr.slice 9 (.string ⟨s.toArray⟩) (some (.int .i64 ((at' : Int) + 2 + kl))) (some (.int .i64 ((at' : Int) + 2 + kl + vl))) none).run Tryd.prog w = .ok (.string ⟨((r.drop kl).take vl).toArray⟩) w := fun hle w => by
    rw [run_str_part Tryd.underlying9 _ _ _ _ _ (by omega) (by omega) (by omega), show ((at' : Int) + 2 + kl).toNat = at' + 2 + kl by omega, show ((at' : Int) + 2 + kl + vl).toNat - (at' + 2 + kl) = vl by omega, ← List.drop_drop, hkey]
  have HSV := Lib.hid hsv
  have HSZ := Lib.hid hsz
  have HLEN := Lib.hid hlen
  have hRO := fun W hW => refOp_any ⟨2, y.toNat, KB, []⟩ sv us W hW hl (by show KB.length ≤ maxB; unfold maxB; omega) (by simp [maxB])
  have HRO := Lib.hid hRO
  have HUS := Lib.hid hus
  clear hsz hd hd2 hx0 hy0 hkey hKB hsv hRO hus
  go_enter Tryd.func61, Tryd.ntmps61
  go_wp2_with (go_at_call 86; refine (HSZ.out _).mono ?_; rintro e w' ⟨rfl, rfl⟩)
  refine (HRO.out _ (HUS.out.below (((((Below.refl _ w).alloc (Nat.le_refl _) _).alloc (by simp) _).alloc (by simp <;> omega) _).alloc (by simp <;> omega) _))).mono ?_
  rintro e w2 ⟨rfl, hb2⟩
  have hbW : Below w.heap.size w w2 := (((((Below.refl _ w).alloc (Nat.le_refl _) _).alloc (by simp) _).alloc (by simp <;> omega) _).alloc (by simp <;> omega) _).trans (hb2.mono (by simp <;> omega))
  have X1 := heap_new w (.cells #[.int .i64 0, .int .i64 0, .string ⟨#[]⟩, .string ⟨#[]⟩] 43)
  have X2 := heap_new (w.alloc (.cells #[.int .i64 0, .int .i64 0, .string ⟨#[]⟩, .string ⟨#[]⟩] 43)) (.cells #[.int .i64 0, .int .i64 0] 53)
  have X3 := heap_new ((w.alloc (.cells #[.int .i64 0, .int .i64 0, .string ⟨#[]⟩, .string ⟨#[]⟩] 43)).alloc (.cells #[.int .i64 0, .int .i64 0] 53)) (.cells #[.int .i64 x.toNat, .int .i64 y.toNat, .string ⟨KB.toArray⟩, .string ⟨#[]⟩] 43)
  simp only [World.size_alloc] at X2 X3
  have P2 := Lib.hid (below_at hb2 (by simp <;> omega) (heap_old _ (.cells #[.int .i64 2, .int .i64 y.toNat, .string ⟨KB.toArray⟩, .string ⟨#[]⟩] 43) (heap_old _ (.cells #[.int .i64 x.toNat, .int .i64 y.toNat, .string ⟨KB.toArray⟩, .string ⟨#[]⟩] 43) (heap_old _ (.cells #[.int .i64 0, .int .i64 0] 53) X1))))
  have R2 := Lib.hid (below_at hb2 (by simp <;> omega) (heap_old _ (.cells #[.int .i64 2, .int .i64 y.toNat, .string ⟨KB.toArray⟩, .string ⟨#[]⟩] 43) (heap_old _ (.cells #[.int .i64 x.toNat, .int .i64 y.toNat, .string ⟨KB.toArray⟩, .string ⟨#[]⟩] 43) X2)))
  have O2 := Lib.hid (below_at hb2 (by simp) (heap_old _ (.cells #[.int .i64 2, .int .i64 y.toNat, .string ⟨KB.toArray⟩, .string ⟨#[]⟩] 43) X3))
  clear X1 X2 X3
  have p0 := cell_of_row _ _ 0 _ _ _ P2.out
  have p1 := cell_of_row _ _ 1 _ _ _ P2.out
  have p2 := cell_of_row _ _ 2 _ _ _ P2.out
  have p3 := cell_of_row _ _ 3 _ _ _ P2.out
  have r0 := cell_of_row _ _ 0 _ _ _ R2.out
  have r1 := cell_of_row _ _ 1 _ _ _ R2.out
  have o0 := cell_of_row _ _ 0 _ _ _ O2.out
  have o1 := cell_of_row _ _ 1 _ _ _ O2.out
  have o2 := cell_of_row _ _ 2 _ _ _ O2.out
  have o3 := cell_of_row _ _ 3 _ _ _ O2.out
  have fp0 := frozen_of_row _ _ 0 _ _ P2.out
  have fp1 := frozen_of_row _ _ 1 _ _ P2.out
  have fp2 := frozen_of_row _ _ 2 _ _ P2.out
  have fp3 := frozen_of_row _ _ 3 _ _ P2.out
  have fr0 := frozen_of_row _ _ 0 _ _ R2.out
  have fr1 := frozen_of_row _ _ 1 _ _ R2.out
  have fo0 := frozen_of_row _ _ 0 _ _ O2.out
  have fo1 := frozen_of_row _ _ 1 _ _ O2.out
  have fo2 := frozen_of_row _ _ 2 _ _ O2.out
  have fo3 := frozen_of_row _ _ 3 _ _ O2.out
  have hlO := block_lt O2.out
  have hlR := block_lt R2.out
  have hlP := block_lt P2.out
  have hnb : Hid (¬ ((2 : Int) < 1 ∨ (2 : Int) < 2 ∨ (y.toNat : Int) < 0 ∨ (2 : Int) < y.toNat)) := Lib.hid (by omega)
  cases hkB : isKeyB (y.toNat : Int) KB with
  | false =>
    have hO : Hid (opWrong ⟨2, y.toNat, KB, []⟩ (keysOf us) = 7) := Lib.hid (opWrong_key hnb.out hkB)
    have HC : Hid (changeB s at' (keysOf us) = .inr (7, at' + 2)) := Lib.hid (by rw [HCH.out, if_pos hkB])
    rw [hO.out]
    clear hkB HCH
    go_wp2
    refine bodyPost_ret (v := .tuple #[opV ⟨x.toNat, y.toNat, KB, []⟩, .int .i64 0, .agg #[.int .i64 7, .int .i64 (at' + 2)]]) (by simp [results, Tryd.results61, go_sem, opV, p0, p1, p2, p3, r0, r1]) rfl ⟨⟨_, rfl, changeV_inr _ HC.out rfl⟩, ?_⟩
    (repeat refine Below.setCell (p := ⟨_, _, none⟩) ?_ (by simp <;> omega) _)
    exact hbW
  | true =>
    cases hct : (keysOf us).contains ((y.toNat : Int), KB) with
    | true =>
      have hO : Hid (opWrong ⟨2, y.toNat, KB, []⟩ (keysOf us) = 8) := Lib.hid (opWrong_twice hnb.out hkB hct)
      have HC : Hid (changeB s at' (keysOf us) = .inr (8, at' + 2)) := Lib.hid (by rw [HCH.out, hkB, if_neg (by decide), if_pos hct])
      rw [hO.out]
      clear hkB hct HCH
      go_wp2
      refine bodyPost_ret (v := .tuple #[opV ⟨x.toNat, y.toNat, KB, []⟩, .int .i64 0, .agg #[.int .i64 8, .int .i64 (at' + 2)]]) (by simp [results, Tryd.results61, go_sem, opV, p0, p1, p2, p3, r0, r1]) rfl ⟨⟨_, rfl, changeV_inr _ HC.out rfl⟩, ?_⟩
      (repeat refine Below.setCell (p := ⟨_, _, none⟩) ?_ (by simp <;> omega) _)
      exact hbW
    | false =>
      have hO : Hid (opWrong ⟨2, y.toNat, KB, []⟩ (keysOf us) = 0) := Lib.hid (opWrong_of (o := ⟨2, y.toNat, KB, []⟩) (.inr rfl) (by simp) (by simp only; omega) hkB hct rfl)
      have HC0 := HCH.out
      rw [hkB, if_neg (by decide), hct, if_neg (by decide)] at HC0
      have HC1 := Lib.hid HC0
      rw [hO.out]
      clear hkB hct HCH HC0
      by_cases hx2 : x.toNat = 2
      · have HC : Hid (changeB s at' (keysOf us) = .inl (⟨2, y.toNat, KB, []⟩, at' + 2 + kl)) := Lib.hid (by rw [HC1.out, if_pos hx2])
        have ht : ((x.toNat : Int) == 2) = true := by rw [beq_iff_eq]; omega
        have hxx : Hid ((x.toNat : Int) = 2) := Lib.hid (by omega)
        clear hx2
        go_wp2
        refine bodyPost_ret (v := .tuple #[opV ⟨x.toNat, y.toNat, KB, []⟩, .int .i64 (at' + 2 + kl), .agg #[.int .i64 0, .int .i64 0]]) (by simp [results, Tryd.results61, go_sem, opV, p0, p1, p2, p3, r0, r1]) rfl ⟨⟨_, rfl, changeV_inl HC.out (by rw [hxx.out]; rfl)⟩, ?_⟩
        (repeat refine Below.setCell (p := ⟨_, _, none⟩) ?_ (by simp <;> omega) _)
        exact hbW
      · have ht : ((x.toNat : Int) == 2) = false := by rw [beq_eq_false_iff_ne]; omega
        by_cases hvl : r.length < kl + vl
        · have HC : Hid (changeB s at' (keysOf us) = .inr (1, at' + 2 + kl)) := Lib.hid (by rw [HC1.out, if_neg hx2, if_pos hvl])
          have hsh : (s.length : Int) < at' + 2 + kl + vl := by have := HLEN.out; omega
          clear hx2 hvl
          go_wp2
          refine bodyPost_ret (v := .tuple #[opV ⟨x.toNat, y.toNat, KB, []⟩, .int .i64 0, .agg #[.int .i64 1, .int .i64 (at' + 2 + kl)]]) (by simp [results, Tryd.results61, go_sem, opV, p0, p1, p2, p3, r0, r1]) rfl ⟨⟨_, rfl, changeV_inr _ HC.out rfl⟩, ?_⟩
          (repeat refine Below.setCell (p := ⟨_, _, none⟩) ?_ (by simp <;> omega) _)
          exact hbW
        · have hlo : ¬ (s.length : Int) < at' + 2 + kl + vl := by have := HLEN.out; omega
          have hsv := HSV.out (by omega)
          obtain ⟨VB, hVB⟩ : ∃ VB, VB = (r.drop kl).take vl := ⟨_, rfl⟩
          have hvbl : VB.length ≤ 4 := by rw [hVB, List.length_take]; omega
          have HC2 : Hid (changeB s at' (keysOf us) = if isValueB y.toNat VB = false then .inr (9, at' + 2 + kl) else .inl (⟨1, y.toNat, KB, VB⟩, at' + 2 + kl + vl)) := Lib.hid (by rw [HC1.out, if_neg hx2, if_neg hvl, ← hVB])
          have hx1 : Hid ((x.toNat : Int) = 1) := Lib.hid (by omega)
          rw [← hVB] at hsv
          have HRV := Lib.hid (fun W => refIsValue_any (y.toNat : Int) VB W (by omega) (by omega) (by unfold maxB; omega))
          clear hx2 hvl hVB HC1
          cases hvB : isValueB (y.toNat : Int) VB with
          | false =>
            have HC : Hid (changeB s at' (keysOf us) = .inr (9, at' + 2 + kl)) := Lib.hid (by rw [HC2.out, if_pos hvB])
            rw [hvB] at HRV
            clear hvB HC2
            go_wp2_with (go_at_call 87; refine (HRV.out _).mono ?_; rintro e w4 ⟨rfl, rfl⟩)
            refine bodyPost_ret (v := .tuple #[opV ⟨x.toNat, y.toNat, KB, VB⟩, .int .i64 0, .agg #[.int .i64 9, .int .i64 (at' + 2 + kl)]]) (by simp [results, Tryd.results61, go_sem, opV, p0, p1, p2, p3, r0, r1]) rfl ⟨⟨_, rfl, changeV_inr _ HC.out rfl⟩, ?_⟩
            (repeat refine Below.setCell (p := ⟨_, _, none⟩) ?_ (by simp <;> omega) _)
            exact hbW
          | true =>
            have HC : Hid (changeB s at' (keysOf us) = .inl (⟨1, y.toNat, KB, VB⟩, at' + 2 + kl + vl)) := Lib.hid (by rw [HC2.out, hvB, if_neg (by decide)])
            rw [hvB] at HRV
            clear hvB HC2
            go_wp2_with (go_at_call 87; refine (HRV.out _).mono ?_; rintro e w4 ⟨rfl, rfl⟩)
            refine bodyPost_ret (v := .tuple #[opV ⟨x.toNat, y.toNat, KB, VB⟩, .int .i64 (at' + 2 + kl + vl), .agg #[.int .i64 0, .int .i64 0]]) (by simp [results, Tryd.results61, go_sem, opV, p0, p1, p2, p3, r0, r1]) rfl ⟨⟨_, rfl, changeV_inl HC.out (by rw [hx1.out]; rfl)⟩, ?_⟩
            (repeat refine Below.setCell (p := ⟨_, _, none⟩) ?_ (by simp <;> omega) _)
            exact hbW
end Go.Proofs.YtkkfmkhbdoeglaaDoor
