/- The walk of package overlaykeep's Apart. No condition. -/
import Derived.Test.YtkkfmkhbdoeglaaDoorFoldE
import Derived.Test.YtkkfmkhbdoeglaaDoorApartPlain
import Derived.Test.YtkkfmkhbdoeglaaDoorSameE
namespace Go.Proofs.YtkkfmkhbdoeglaaDoor
open Go.RowKit

/-- behind k rounds: the changes of the first k whose key the first delta has not -/
def FewRel (w6 : World) (ks : List K) (es : List OpB) (fv i : Value) (wr : World) : Prop :=
  ∃ k, k ≤ es.length ∧ i = .int .i64 (k : Int) ∧ OwnS wr w6.heap.size 4 fv (fewN ks (es.take k)).length (opCells (fewN ks (es.take k))) ∧ Below w6.heap.size w6 wr
theorem FewRel.skip {w6 W : World} {ks : List K} {es : List OpB} {fv : Value} {k : Nat} (hk : k < es.length) (hc : ks.contains (keyO es[k]) = true) (ho : OwnS W w6.heap.size 4 fv (fewN ks (es.take k)).length (opCells (fewN ks (es.take k)))) (hb : Below w6.heap.size w6 W) :
    FewRel w6 ks es fv (.int .i64 ((k : Int) + 1)) W :=
  ⟨k + 1, by omega, rfl, by rw [fewN_take ks es k hk, if_pos hc]; exact ho, hb⟩
theorem FewRel.take {w6 W : World} {ks : List K} {es us : List OpB} {fv : Value} {k : Nat} (hk : k < es.length) (hc : ks.contains (keyO es[k]) = false) (hu : us = fewN ks (es.take k)) (ho : OwnS W w6.heap.size 4 fv (us ++ [es[k]]).length (opCells (us ++ [es[k]]))) (hb : Below w6.heap.size w6 W) :
    FewRel w6 ks es fv (.int .i64 ((k : Int) + 1)) W :=
  ⟨k + 1, by omega, rfl, by rw [fewN_take ks es k hk, if_neg (by rw [hc]; decide), ← hu]; exact ho, hb⟩
set_option maxRecDepth 100000 in
set_option maxHeartbeats 4000000 in
theorem Apart_walk (rs r1 r2 : Value) (l0 l1 l2 : List Int) (w : World) (h0 : IntsAt w rs l0) (h1 : IntsAt w r1 l1) (h2 : IntsAt w r2 l2) (hl0 : l0.length ≤ maxB) (hl1 : l1.length ≤ maxB) (hl2 : l2.length ≤ maxB)
    (hb0 : ∀ x ∈ l0, -9223372036854775808 ≤ x ∧ x ≤ 9223372036854775807) (hbd1 : ∀ x ∈ l1, -9223372036854775808 ≤ x ∧ x ≤ 9223372036854775807) (hbd2 : ∀ x ∈ l2, -9223372036854775808 ≤ x ∧ x ≤ 9223372036854775807) (hg : ShapesVar w) (hge : ErrVar w) :
    Calls Tryd.prog 8 #[rs, r1, r2] w fun e w' => e = .returned (.bool true) ∧ Below w.heap.size w w' := by
  have hKD1 := fun W h => keepDelta_any 1 r1 l1 W h hl1 hbd1
  have hKD2 := fun W h => keepDelta_any 2 r2 l2 W h hl2 hbd2
  have hKD0 := fun W h => keepDelta_any 3 rs l0 W h hl0 hb0
  have hw1 := deltaN_good l1 1 rfl
  have hw2 := fun ks => fewN_good ks l2 2 rfl
  have hw2' := deltaN_good l2 2 rfl
  have hw0 := deltaN_good l0 3 rfl
  have hn1 := deltaN_length l1
  have hn2 := deltaN_length l2
  have hn0 := deltaN_length l0
  generalize deltaN l1 = ds at *
  generalize deltaN l2 = es at *
  generalize deltaN l0 = zs at *
  have HKD0 := Lib.hid hKD0
  have HKD1 := Lib.hid hKD1
  have HKD2 := Lib.hid hKD2
  have HW0 := Lib.hid hw0
  have HW1 := Lib.hid hw1
  have HW2 := Lib.hid hw2
  have HW2' := Lib.hid hw2'
  have H0 := Lib.hid h0
  have H1 := Lib.hid h1
  have H2 := Lib.hid h2
  have HG := Lib.hid hg
  have HGE := Lib.hid hge
  clear hKD0 hKD1 hKD2 hw0 hw1 hw2 hw2' h0 h1 h2 hg hge hb0 hbd1 hbd2
  go_enter Tryd.func8, Tryd.ntmps8
  go_wp2_with fail
  refine (plainFold_any w).mono ?_
  rintro e w1 ⟨rfl, hA1, hb1⟩
  have HA1 := Lib.hid hA1
  clear hA1
  go_wp2_with fail
  refine (plainFold_any w1).mono ?_
  rintro e w2 ⟨rfl, hB2, hb2⟩
  have HB2 := Lib.hid hB2
  have HA2 := Lib.hid (HA1.out.below hb2)
  have bw2 : Below w.heap.size w w2 := hb1.trans (hb2.mono hb1.size)
  clear hB2
  go_wp2_with fail
  refine (HKD1.out w2 (H1.out.below bw2)).mono ?_
  rintro e w3 ⟨⟨dv, rfl, hod⟩, hb3⟩
  obtain ⟨da, dcap, rfl⟩ := hod.shape
  have HOD := Lib.hid hod
  have b4 : Below w2.heap.size w2 (w3.alloc (.cells #[.int .u64 1, .slice da ds.length dcap] 46)) := hb3.alloc hb3.size _
  have D4 := Lib.hid (heap_new w3 (.cells #[.int .u64 1, .slice da ds.length dcap] 46))
  have bw4 : Below w.heap.size w (w3.alloc (.cells #[.int .u64 1, .slice da ds.length dcap] 46)) := bw2.trans (b4.mono bw2.size)
  have t4 : Below w3.heap.size w3 (w3.alloc (.cells #[.int .u64 1, .slice da ds.length dcap] 46)) := (Below.refl _ w3).alloc (Nat.le_refl _) _
  clear hod
  go_wp2_with fail
  refine (HKD2.out _ (H2.out.below bw4)).mono ?_
  rintro e w5 ⟨⟨ev, rfl, hoe⟩, hb5⟩
  obtain ⟨ea, ecap, rfl⟩ := hoe.shape
  have HOE := Lib.hid hoe
  have b6 : Below w3.heap.size w3 (w5.alloc (.cells #[.int .u64 2, .slice ea es.length ecap] 46)) := t4.trans ((hb5.mono t4.size).alloc (Nat.le_trans t4.size hb5.size) _)
  have D6 := Lib.hid (below_at (hb5.alloc hb5.size (.cells #[.int .u64 2, .slice ea es.length ecap] 46)) (block_lt D4.out) D4.out)
  have E6 := Lib.hid (heap_new w5 (.cells #[.int .u64 2, .slice ea es.length ecap] 46))
  have t6 : Below w5.heap.size w5 (w5.alloc (.cells #[.int .u64 2, .slice ea es.length ecap] 46)) := (Below.refl _ w5).alloc (Nat.le_refl _) _
  have s6 : (w5.alloc (.cells #[.int .u64 2, .slice ea es.length ecap] 46)).heap.size = w5.heap.size + 1 := World.size_alloc _ _
  have s45 := hb5.size
  rw [World.size_alloc] at s45
  have s23 := hb3.size
  clear hoe
  go_wp2
  generalize hw6 : w5.alloc (.cells #[.int .u64 2, .slice ea es.length ecap] 46) = w6
  rw [hw6] at b6 D6 E6 t6 s6
  clear hw6
  have HOD6 := Lib.hid (HOD.out.below b6)
  have HOE6 := Lib.hid (HOE.out.below t6)
  have hlD := block_lt D6.out
  have hlE := block_lt E6.out
  go_loopw [13, 14] (fun fv i wr => FewRel w6 (keysOf ds) es fv i wr) (fun _ i _ => es.length - (intOf i).toNat)
  case atStart => exact ⟨0, Nat.zero_le _, rfl, OwnS.nil _ _ _, Below.refl _ _⟩
  case round =>
    obtain ⟨k, hk, rfl, hown, hbr⟩ := hrel
    obtain ⟨us, hus⟩ : ∃ us, us = fewN (keysOf ds) (es.take k) := ⟨_, rfl⟩
    rw [← hus] at hown
    have hul : us.length ≤ k := by rw [hus]; exact Nat.le_trans (fewN_length _ _) (by rw [List.length_take]; omega)
    have HUS := Lib.hid hus
    clear hus
    obtain ⟨fa, fcap, rfl⟩ := hown.shape
    have e1 : wr.cell? ⟨w5.heap.size, 1, none⟩ = some (.slice ea es.length ecap) := cell_of_row _ _ 1 _ _ _ (below_at hbr hlE E6.out)
    have d1 : wr.cell? ⟨w3.heap.size, 1, none⟩ = some (.slice da ds.length dcap) := cell_of_row _ _ 1 _ _ _ (below_at hbr hlD D6.out)
    have hsr := hbr.size
    by_cases hlt : k < es.length
    · have hlt' : (k : Int) < es.length := by omega
      obtain ⟨o, ho⟩ : ∃ o, o = es[k] := ⟨_, rfl⟩
      obtain ⟨sa', scap', he, -, hx⟩ := (HOE6.out.below hbr).ops.opened
      cases he
      obtain ⟨eb, eo, rfl, y0, y1, y2, y3⟩ := hx k hlt
      rw [← ho] at y0 y1 y2 y3
      obtain ⟨kd, T, KB, VB⟩ := o
      simp only at y0 y1 y2 y3
      have HO := Lib.hid ho
      have hlb := cell_lt y0
      clear hx ho
      go_wp2
      go_loopw [15, 16] (fun tw i wi => TwiceRel wr ds (T, KB) tw i wi) (fun _ i _ => ds.length - (intOf i).toNat)
      case atStart => exact ⟨0, Nat.zero_le _, rfl, rfl, 0, rfl⟩
      case round =>
        obtain ⟨m, hm, rfl, rfl, q, rfl⟩ := hrel
        by_cases hlm : m < ds.length
        · obtain ⟨sa', scap', he, -, hx⟩ := (HOD6.out.below hbr).ops.opened
          cases he
          obtain ⟨sb, so, rfl, x0, x1, x2, x3⟩ := hx m hlm
          clear hx x0 x3
          have hlm' : (m : Int) < ds.length := by omega
          have hscl := cell_lt x1
          cases htw : (keysOf (ds.take m)).contains (T, KB) with
          | true =>
            have HTW := Lib.hid htw
            clear htw
            go_wp2
            go_quiet (fail)
            go_wp2
            exact ⟨TwiceRel.step hlm (by rw [HTW.out]; rfl), by simp [intOf]; omega⟩
          | false =>
            have HTW := Lib.hid htw
            clear htw
            cases hq : ((ds[m].table, ds[m].key) == (T, KB)) with
            | true =>
              have heq : ∀ w, (binOp .eql 41 (.agg #[.int .i64 ds[m].table, .string ⟨ds[m].key.toArray⟩]) (.agg #[.int .i64 T, .string ⟨KB.toArray⟩])).run Tryd.prog w = .ok (.bool true) w := fun w => by rw [eql_key, hq]
              have HQ := Lib.hid hq
              clear hq
              go_wp2
              go_quiet (fail)
              go_wp2
              exact ⟨TwiceRel.step hlm (by rw [HTW.out, HQ.out]; rfl), by simp [intOf]; omega⟩
            | false =>
              have heq : ∀ w, (binOp .eql 41 (.agg #[.int .i64 ds[m].table, .string ⟨ds[m].key.toArray⟩]) (.agg #[.int .i64 T, .string ⟨KB.toArray⟩])).run Tryd.prog w = .ok (.bool false) w := fun w => by rw [eql_key, hq]
              have HQ := Lib.hid hq
              clear hq
              go_wp2
              go_quiet (fail)
              go_wp2
              exact ⟨TwiceRel.step hlm (by rw [HTW.out, HQ.out]; rfl), by simp [intOf]; omega⟩
        · obtain rfl : m = ds.length := by omega
          have hge : ¬ (ds.length : Int) < ds.length := by omega
          rw [List.take_length]
          cases htw : (keysOf ds).contains (T, KB) with
          | true =>
            have HTW := Lib.hid htw
            clear htw
            go_wp2
            refine ⟨FewRel.skip hlt (by rw [← HO.out]; exact HTW.out) (by rw [← HUS.out]; exact hown) (hbr.drewN q), ?_⟩
            simp [intOf]
            omega
          | false =>
            have HTW := Lib.hid htw
            clear htw
            have hownq : OwnS ((wr.drewN q).alloc (.cells #[.int .i64 kd, .int .i64 T, .string ⟨KB.toArray⟩, .string ⟨VB.toArray⟩] 43)) w6.heap.size 4 (.slice fa us.length fcap) us.length (opCells us) := OwnS.below (w := wr.drewN q) hown ((Below.refl _ _).alloc (Nat.le_refl _) _)
            have HOQ := Lib.hid hownq
            have HONE := Lib.hid (oneOp_at (wr.drewN q) ⟨kd, T, KB, VB⟩)
            clear hownq hown
            go_wp2_with (at_builtin; refine wpList_append_ops rfl (.tmp 78) (.tmp 84) rfl w6.heap.size (.slice fa us.length fcap) us rfl (by exact HOQ.out) [⟨kd, T, KB, VB⟩] (by exact HONE.out) (by simp; omega) (by simp; omega) ?_; intro v8 w8 hown8 hg8 hb8 hap8; obtain ⟨sa8, cap8, rfl⟩ := hown8.shape)
            refine ⟨FewRel.take hlt (by rw [← HO.out]; exact HTW.out) HUS.out (by rw [← HO.out]; simpa using hown8) ((((hbr.drewN q).alloc (by simp; omega) _)).trans hb8), ?_⟩
            simp [intOf]
            omega
    · obtain rfl : k = es.length := by omega
      have hge : ¬ (es.length : Int) < es.length := by omega
      rw [List.take_length] at HUS
      have bw6 : Below w.heap.size w w6 := bw4.trans ((hb5.mono bw4.size).trans (t6.mono (Nat.le_trans bw4.size hb5.size)))
      have bwr : Below w.heap.size w wr := bw6.trans (hbr.mono bw6.size)
      go_wp2_with fail
      refine (HKD0.out wr (H0.out.below bwr)).mono ?_
      rintro e w7 ⟨⟨zv, rfl, hoz⟩, hb7⟩
      obtain ⟨za, zcap, rfl⟩ := hoz.shape
      have t8 : Below w7.heap.size w7 (w7.alloc (.cells #[.int .u64 3, .slice za zs.length zcap] 46)) := (Below.refl _ w7).alloc (Nat.le_refl _) _
      have br8 : Below wr.heap.size wr (w7.alloc (.cells #[.int .u64 3, .slice za zs.length zcap] 46)) := hb7.trans (t8.mono hb7.size)
      have b68 : Below w6.heap.size w6 (w7.alloc (.cells #[.int .u64 3, .slice za zs.length zcap] 46)) := hbr.trans (br8.mono hsr)
      have b28 : Below w2.heap.size w2 (w7.alloc (.cells #[.int .u64 3, .slice za zs.length zcap] 46)) := (hb3.trans (b6.mono s23)).trans (b68.mono (by omega))
      have bw8 : Below w.heap.size w (w7.alloc (.cells #[.int .u64 3, .slice za zs.length zcap] 46)) := bw2.trans (b28.mono bw2.size)
      have Z8 := heap_new w7 (.cells #[.int .u64 3, .slice za zs.length zcap] 46)
      have s8 : (w7.alloc (.cells #[.int .u64 3, .slice za zs.length zcap] 46)).heap.size = w7.heap.size + 1 := World.size_alloc _ _
      have sr7 := hb7.size
      have sA := cell_lt HA1.out.cell
      have sB := cell_lt HB2.out.cell
      simp only at sA sB
      have HAP8 : Hid (AP w (w7.heap.size + 1) (w.heap.size + 2) (w.heap.size + 1) w.heap.size (w1.heap.size + 2) (w1.heap.size + 1) w1.heap.size w3.heap.size w5.heap.size w7.heap.size (.slice da ds.length dcap) (.slice ea es.length ecap) (.slice za zs.length zcap) (.slice fa us.length fcap) ds es zs us [] [] (w7.alloc (.cells #[.int .u64 3, .slice za zs.length zcap] 46))) := by
        refine Lib.hid ⟨HA2.out.below b28, HB2.out.below b28, below_at b68 hlD D6.out, below_at b68 hlE E6.out, Z8, (HOD6.out.below b68).ops, (HOE6.out.below b68).ops, (hoz.below t8).ops, (hown.below br8).ops, HG.out.new bw8, HGE.out.new bw8, bw8, ⟨⟨?_, ?_, ?_⟩, ⟨?_, ?_, ?_⟩, ?_, ?_, ?_⟩, Nat.le_of_eq s8.symm, ?_, ?_, ?_, ?_, ⟨⟨?_, ?_, ?_, ?_, ?_⟩, ⟨?_, ?_, ?_, ?_, ?_, ?_⟩, ⟨?_, ?_, ?_, ?_, ?_, ?_⟩⟩, HGE.out.1, ?_, ?_, ?_⟩
        all_goals first
          | omega
          | (intro b hb; have h1 := HOD.out.ownBlock_lt b hb; omega)
          | (intro b hb; have h1 := HOE.out.ownBlock_lt b hb; omega)
          | (intro b hb; have h1 := hoz.ownBlock_lt b hb; have h2 := hoz.ownBlock_ge b hb; omega)
          | (intro b hb; have h1 := hown.ownBlock_lt b hb; have h2 := hown.ownBlock_ge b hb; omega)
      have HSZ := Lib.hid (And.intro sA (And.intro sB (And.intro s8 (And.intro sr7 hsr))))
      have HSZ2 := Lib.hid (And.intro s23 (And.intro s45 s6))
      clear hoz hown hb7 t8 br8 b68 b28 hbr e1 d1
      go_wp2_with fail
      generalize hw8 : w7.alloc (.cells #[.int .u64 3, .slice za zs.length zcap] 46) = w8 at *
      clear hw8
      refine (HAP8.out.callA 3 _ zs HAP8.out.z HW0.out).mono ?_
      rintro e w9 ⟨rfl, hAP9, hx9⟩
      have n9 := hAP9.le
      have z0 : w9.cell? ⟨w7.heap.size, 0, none⟩ = some (.int .u64 3) := cell_of_row _ _ 0 _ _ _ hAP9.hz
      have z1 : w9.cell? ⟨w7.heap.size, 1, none⟩ = some (.slice za zs.length zcap) := cell_of_row _ _ 1 _ _ _ hAP9.hz
      have hlz := block_lt hAP9.hz
      have HAP10 := Lib.hid (hAP9.kept ((Below.refl _ w9).alloc n9 (.cells #[.int .i64 0, .int .i64 0, .int .i64 0] 28)))
      have b10a : Below w9.heap.size w9 (w9.alloc (.cells #[.int .i64 0, .int .i64 0, .int .i64 0] 28)) := (Below.refl _ w9).alloc (Nat.le_refl _) _
      have F10 : Hid (ZeroF (w9.alloc (.cells #[.int .i64 0, .int .i64 0, .int .i64 0] 28)) w9.heap.size) := Lib.hid (heap_new w9 _)
      have s10 := World.size_alloc w9 (.cells #[.int .i64 0, .int .i64 0, .int .i64 0] 28)
      clear hAP9 hx9 b10a
      go_wp2_with fail
      generalize hw10 : w9.alloc (.cells #[.int .i64 0, .int .i64 0, .int .i64 0] 28) = w10 at *
      clear hw10 z0 z1 hlz
      refine (HAP10.out.callB 3 _ zs HAP10.out.z HW0.out).mono ?_
      rintro e w11 ⟨rfl, hAP11, hx11⟩
      have n11 := hAP11.le
      have F11 := F10.out.ext hx11 (by have := HSZ.out; have := HSZ2.out; omega)
      have z0 : w11.cell? ⟨w3.heap.size, 0, none⟩ = some (.int .u64 1) := cell_of_row _ _ 0 _ _ _ hAP11.hd
      have z1 : w11.cell? ⟨w3.heap.size, 1, none⟩ = some (.slice da ds.length dcap) := cell_of_row _ _ 1 _ _ _ hAP11.hd
      have hlz := block_lt hAP11.hd
      have HAP12 := Lib.hid (hAP11.kept ((Below.refl _ w11).alloc n11 (.cells #[.int .i64 0, .int .i64 0, .int .i64 0] 28)))
      have b12a : Below w11.heap.size w11 (w11.alloc (.cells #[.int .i64 0, .int .i64 0, .int .i64 0] 28)) := (Below.refl _ w11).alloc (Nat.le_refl _) _
      have F12 := Lib.hid (F11.below b12a)
      have G12 : Hid (ZeroF (w11.alloc (.cells #[.int .i64 0, .int .i64 0, .int .i64 0] 28)) w11.heap.size) := Lib.hid (heap_new w11 _)
      have s12 := World.size_alloc w11 (.cells #[.int .i64 0, .int .i64 0, .int .i64 0] 28)
      clear hAP11 hx11 b12a F11
      go_wp2_with fail
      generalize hw12 : w11.alloc (.cells #[.int .i64 0, .int .i64 0, .int .i64 0] 28) = w12 at *
      clear hw12 z0 z1 hlz
      refine (HAP12.out.callA 1 _ ds HAP12.out.d HW1.out).mono ?_
      rintro e w13 ⟨rfl, hAP13, hx13⟩
      have n13 := hAP13.le
      have F13 := F12.out.ext hx13 (by have := HSZ.out; have := HSZ2.out; omega)
      have G13 := G12.out.ext hx13 (by have := HSZ.out; have := HSZ2.out; omega)
      obtain ⟨c0, c1, c2⟩ := F13.cells
      obtain ⟨d0, d1, d2⟩ := G13.cells
      have lf := block_lt F13
      have lg := block_lt G13
      have b15 : Below w13.heap.size w13 ((w13.alloc (.cells #[.int .i64 0, .int .i64 0, .int .i64 0] 28)).alloc (.cells #[.int .i64 0, .int .i64 0, .int .i64 0] 28)) := ((Below.refl _ w13).alloc (Nat.le_refl _) _).alloc (by simp) _
      have HAP15 := Lib.hid (hAP13.kept (b15.mono n13))
      have HF15 := Lib.hid (F13.below b15)
      have HG15 := Lib.hid (G13.below b15)
      have HH15 : Hid (ZeroF ((w13.alloc (.cells #[.int .i64 0, .int .i64 0, .int .i64 0] 28)).alloc (.cells #[.int .i64 0, .int .i64 0, .int .i64 0] 28)) w13.heap.size) := Lib.hid (heap_old (w13.alloc (.cells #[.int .i64 0, .int .i64 0, .int .i64 0] 28)) (.cells #[.int .i64 0, .int .i64 0, .int .i64 0] 28) (heap_new w13 _))
      have HN15 : Hid (ZeroF ((w13.alloc (.cells #[.int .i64 0, .int .i64 0, .int .i64 0] 28)).alloc (.cells #[.int .i64 0, .int .i64 0, .int .i64 0] 28)) (w13.heap.size + 1)) := Lib.hid (by have := heap_new (w13.alloc (.cells #[.int .i64 0, .int .i64 0, .int .i64 0] 28)) (.cells #[.int .i64 0, .int .i64 0, .int .i64 0] 28); rw [World.size_alloc] at this; exact this)
      have s15 : ((w13.alloc (.cells #[.int .i64 0, .int .i64 0, .int .i64 0] 28)).alloc (.cells #[.int .i64 0, .int .i64 0, .int .i64 0] 28)).heap.size = w13.heap.size + 2 := by simp
      have HUS8 : us.length ≤ 8 := by omega
      have HD13 := Lib.hid hAP13.hd
      have HE13 := Lib.hid hAP13.he
      clear hAP13 hx13 F13 G13 b15
      have z0 : w13.cell? ⟨w3.heap.size, 0, none⟩ = some (.int .u64 1) := cell_of_row _ _ 0 _ _ _ HD13.out
      have z1 : w13.cell? ⟨w3.heap.size, 1, none⟩ = some (.slice da ds.length dcap) := cell_of_row _ _ 1 _ _ _ HD13.out
      have lz := block_lt HD13.out
      have e0 : w13.cell? ⟨w5.heap.size, 0, none⟩ = some (.int .u64 2) := cell_of_row _ _ 0 _ _ _ HE13.out
      have e1 : w13.cell? ⟨w5.heap.size, 1, none⟩ = some (.slice ea es.length ecap) := cell_of_row _ _ 1 _ _ _ HE13.out
      have fe1 : w13.frozen? ⟨w5.heap.size, 1, none⟩ = false := frozen_of_row _ _ 1 _ _ HE13.out
      have le := block_lt HE13.out
      have hfold : ∀ S : List E, foldS S [] = S := fun _ => rfl
      have HFO := Lib.hid hfold
      clear hfold
      rcases Classical.em (us = []) with hus | hus
      focus
        have hul0 : ¬ (0 : Int) < us.length := by rw [hus]; simp
        have HUE := Lib.hid hus
        clear hus
        clear e0 e1 fe1
        go_wp2_with fail
        generalize hw15 : (w13.alloc (.cells #[.int .i64 0, .int .i64 0, .int .i64 0] 28)).alloc (.cells #[.int .i64 0, .int .i64 0, .int .i64 0] 28) = wt at *
        have HLA : Hid ((foldS (foldS [] zs) ds).length ≤ 1000000000 ∧ sizeS (foldS (foldS [] zs) ds) ≤ 4611686018427387904) := Lib.hid (by
          rw [← foldS_append]
          refine small_fold _ (by rw [List.length_append]; omega) fun o ho => ?_
          rcases List.mem_append.1 ho with h | h
          · exact opN_small HW0.out o h
          · exact opN_small HW1.out o h)
        have HAPt := HAP15
        have HHt := HH15
        have HNt := HN15
        obtain ⟨SA, hSA⟩ : ∃ SA, SA = foldS (foldS [] zs) ds := ⟨_, rfl⟩
        obtain ⟨SB, hSB⟩ : ∃ SB, SB = foldS [] zs := ⟨_, rfl⟩
        rw [← hSB] at hSA
        rw [← hSB, ← hSA] at HAPt HLA
        have HEQ : Hid (foldS SB ds = SA) := Lib.hid hSA.symm
        clear hw15 HAP15 HF15 HG15 HH15 HN15 s15 HUE hSA hSB
      rotate_left
      focus
        have hul0 : (0 : Int) < us.length := by have := List.length_pos_iff.2 hus; omega
        have HWU := Lib.hid (HW2.out (keysOf ds) (by rw [← HUS.out]; exact hus))
        have hwu := HWU.out
        rw [← HUS.out] at hwu
        have HWU2 := Lib.hid hwu
        clear hus hwu HWU
        have HAP16 := Lib.hid HAP15.out.setE
        have x0 : (((w13.alloc (.cells #[.int .i64 0, .int .i64 0, .int .i64 0] 28)).alloc (.cells #[.int .i64 0, .int .i64 0, .int .i64 0] 28)).setCell ⟨w5.heap.size, 1, none⟩ (.slice fa us.length fcap)).cell? ⟨w5.heap.size, 0, none⟩ = some (.int .u64 2) := cell_of_row _ _ 0 _ _ _ HAP16.out.he
        have x1 : (((w13.alloc (.cells #[.int .i64 0, .int .i64 0, .int .i64 0] 28)).alloc (.cells #[.int .i64 0, .int .i64 0, .int .i64 0] 28)).setCell ⟨w5.heap.size, 1, none⟩ (.slice fa us.length fcap)).cell? ⟨w5.heap.size, 1, none⟩ = some (.slice fa us.length fcap) := cell_of_row _ _ 1 _ _ _ HAP16.out.he
        have hne16 : ∀ j, j ≠ w5.heap.size → (((w13.alloc (.cells #[.int .i64 0, .int .i64 0, .int .i64 0] 28)).alloc (.cells #[.int .i64 0, .int .i64 0, .int .i64 0] 28)).setCell ⟨w5.heap.size, 1, none⟩ (.slice fa us.length fcap)).heap[j]? = ((w13.alloc (.cells #[.int .i64 0, .int .i64 0, .int .i64 0] 28)).alloc (.cells #[.int .i64 0, .int .i64 0, .int .i64 0] 28)).heap[j]? := fun j hj => Below.heap_setCell _ _ _ j hj
        have HF16 : Hid (ZeroF (((w13.alloc (.cells #[.int .i64 0, .int .i64 0, .int .i64 0] 28)).alloc (.cells #[.int .i64 0, .int .i64 0, .int .i64 0] 28)).setCell ⟨w5.heap.size, 1, none⟩ (.slice fa us.length fcap)) w9.heap.size) := Lib.hid ((hne16 _ (by have := HSZ.out; have := HSZ2.out; omega)).trans HF15.out)
        have HG16 : Hid (ZeroF (((w13.alloc (.cells #[.int .i64 0, .int .i64 0, .int .i64 0] 28)).alloc (.cells #[.int .i64 0, .int .i64 0, .int .i64 0] 28)).setCell ⟨w5.heap.size, 1, none⟩ (.slice fa us.length fcap)) w11.heap.size) := Lib.hid ((hne16 _ (by have := HSZ.out; have := HSZ2.out; omega)).trans HG15.out)
        have HH16 : Hid (ZeroF (((w13.alloc (.cells #[.int .i64 0, .int .i64 0, .int .i64 0] 28)).alloc (.cells #[.int .i64 0, .int .i64 0, .int .i64 0] 28)).setCell ⟨w5.heap.size, 1, none⟩ (.slice fa us.length fcap)) w13.heap.size) := Lib.hid ((hne16 _ (by have := HSZ.out; have := HSZ2.out; omega)).trans HH15.out)
        have HN16 : Hid (ZeroF (((w13.alloc (.cells #[.int .i64 0, .int .i64 0, .int .i64 0] 28)).alloc (.cells #[.int .i64 0, .int .i64 0, .int .i64 0] 28)).setCell ⟨w5.heap.size, 1, none⟩ (.slice fa us.length fcap)) (w13.heap.size + 1)) := Lib.hid ((hne16 _ (by have := HSZ.out; have := HSZ2.out; omega)).trans HN15.out)
        have EW : Hid (((w13.setCell ⟨w5.heap.size, 1, none⟩ (.slice fa us.length fcap)).alloc (.cells #[.int .i64 0, .int .i64 0, .int .i64 0] 28)).alloc (.cells #[.int .i64 0, .int .i64 0, .int .i64 0] 28) = ((w13.alloc (.cells #[.int .i64 0, .int .i64 0, .int .i64 0] 28)).alloc (.cells #[.int .i64 0, .int .i64 0, .int .i64 0] 28)).setCell ⟨w5.heap.size, 1, none⟩ (.slice fa us.length fcap)) := Lib.hid (by rw [World.setCell_alloc_past _ _ _ _ (by rw [World.size_alloc]; omega), World.setCell_alloc_past _ _ _ _ le])
        clear hne16 HAP15 HF15 HG15 HH15 HN15
        go_wp2_with fail
        rw [EW.out]
        generalize hw16 : ((w13.alloc (.cells #[.int .i64 0, .int .i64 0, .int .i64 0] 28)).alloc (.cells #[.int .i64 0, .int .i64 0, .int .i64 0] 28)).setCell ⟨w5.heap.size, 1, none⟩ (.slice fa us.length fcap) = w16 at *
        clear hw16 EW x0 x1 z0 z1 e0 e1 fe1 s15
        refine (HAP16.out.callA 2 _ us HAP16.out.e HWU2.out).mono ?_
        rintro e w17 ⟨rfl, hAP17, hx17⟩
        have F17 := HF16.out.ext hx17 (by have := HSZ.out; have := HSZ2.out; omega)
        have HG17 := Lib.hid (HG16.out.ext hx17 (by have := HSZ.out; have := HSZ2.out; omega))
        have HH17 := Lib.hid (HH16.out.ext hx17 (by have := HSZ.out; have := HSZ2.out; omega))
        have HN17 := Lib.hid (HN16.out.ext hx17 (by have := HSZ.out; have := HSZ2.out; omega))
        have n17 := hAP17.le
        have bF : Below (w7.heap.size + 1) w17 (set3z w17 w9.heap.size) := set3z_below _ (by omega) _
        have HAP18 := Lib.hid (hAP17.kept bF)
        have HF18 := Lib.hid (ZeroF.set w17 w9.heap.size _ F17)
        have HG18 := Lib.hid (ZeroF.set w17 w9.heap.size _ HG17.out)
        have HH18 := Lib.hid (ZeroF.set w17 w9.heap.size _ HH17.out)
        have HN18 := Lib.hid (ZeroF.set w17 w9.heap.size _ HN17.out)
        obtain ⟨f0, f1, f2⟩ := F17.cells
        obtain ⟨g0, g1, g2⟩ := F17.frozen
        have lf := block_lt F17
        have x0 : (set3z w17 w9.heap.size).cell? ⟨w5.heap.size, 0, none⟩ = some (.int .u64 2) := cell_of_row _ _ 0 _ _ _ HAP18.out.he
        have x1 : (set3z w17 w9.heap.size).cell? ⟨w5.heap.size, 1, none⟩ = some (.slice fa us.length fcap) := cell_of_row _ _ 1 _ _ _ HAP18.out.he
        clear hAP17 hx17 bF F17 HF16 HG16 HH16 HN16 HG17 HH17 HN17 HAP16
        unfold set3z at x0 x1 HAP18 HF18 HG18 HH18 HN18
        go_wp2_with fail
        generalize hw18 : (((w17.setCell ⟨w9.heap.size, 0, none⟩ (.int .i64 0)).setCell ⟨w9.heap.size, 1, none⟩ (.int .i64 0)).setCell ⟨w9.heap.size, 2, none⟩ (.int .i64 0)) = w18 at *
        clear hw18 f0 f1 f2 g0 g1 g2 lf x0 x1
        refine (HAP18.out.callB 2 _ us HAP18.out.e HWU2.out).mono ?_
        rintro e w19 ⟨rfl, hAP19, hx19⟩
        have F19 := HF18.out.ext hx19 (by have := HSZ.out; have := HSZ2.out; omega)
        have G19 := HG18.out.ext hx19 (by have := HSZ.out; have := HSZ2.out; omega)
        have H19 := HH18.out.ext hx19 (by have := HSZ.out; have := HSZ2.out; omega)
        have N19 := HN18.out.ext hx19 (by have := HSZ.out; have := HSZ2.out; omega)
        have n19 := hAP19.le
        have bG : Below (w7.heap.size + 1) w19 (set3z w19 w11.heap.size) := set3z_below _ (by omega) _
        have HAPt := Lib.hid (hAP19.kept bG)
        have F20 := ZeroF.set w19 w11.heap.size _ F19
        have G20 := ZeroF.set w19 w11.heap.size _ G19
        have HHt := Lib.hid (ZeroF.set w19 w11.heap.size _ H19)
        have N20 := ZeroF.set w19 w11.heap.size _ N19
        have HNt := Lib.hid N20
        obtain ⟨g0, g1, g2⟩ := G19.cells
        obtain ⟨k0, k1, k2⟩ := G19.frozen
        have lg := block_lt G19
        obtain ⟨f0, f1, f2⟩ := F20.cells
        obtain ⟨h0, h1, h2⟩ := G20.cells
        obtain ⟨m0, m1, m2⟩ := N20.cells
        have x0 : (set3z w19 w11.heap.size).cell? ⟨w3.heap.size, 0, none⟩ = some (.int .u64 1) := cell_of_row _ _ 0 _ _ _ HAPt.out.hd
        have x1 : (set3z w19 w11.heap.size).cell? ⟨w3.heap.size, 1, none⟩ = some (.slice da ds.length dcap) := cell_of_row _ _ 1 _ _ _ HAPt.out.hd
        clear hAP19 hx19 bG F19 G19 H19 N19 F20 G20 N20 HF18 HG18 HH18 HN18 HAP18
        unfold set3z at f0 f1 f2 h0 h1 h2 m0 m1 m2 x0 x1 HAPt HHt HNt
        go_wp2_with fail
        generalize hwt : (((w19.setCell ⟨w11.heap.size, 0, none⟩ (.int .i64 0)).setCell ⟨w11.heap.size, 1, none⟩ (.int .i64 0)).setCell ⟨w11.heap.size, 2, none⟩ (.int .i64 0)) = wt at *
        have HEQ : Hid (foldS (foldS (foldS [] zs) us) ds = foldS (foldS (foldS [] zs) ds) us) := Lib.hid (fold_comm ds us (sorted_fold zs SortedE.nil) (by rw [HUS.out]; exact few_apart ds es)).symm
        have HLA : Hid ((foldS (foldS (foldS [] zs) ds) us).length ≤ 1000000000 ∧ sizeS (foldS (foldS (foldS [] zs) ds) us) ≤ 4611686018427387904) := Lib.hid (by
          rw [← foldS_append, ← foldS_append]
          refine small_fold _ (by rw [List.length_append, List.length_append]; omega) fun o ho => ?_
          rcases List.mem_append.1 ho with h | h
          · exact opN_small HW0.out o h
          · rcases List.mem_append.1 h with h | h
            · exact opN_small HW1.out o h
            · exact opN_small HWU2.out o h)
        obtain ⟨SA, hSA⟩ : ∃ SA, SA = foldS (foldS (foldS [] zs) ds) us := ⟨_, rfl⟩
        obtain ⟨SB, hSB⟩ : ∃ SB, SB = foldS (foldS [] zs) us := ⟨_, rfl⟩
        rw [← hSB, ← hSA] at HEQ HAPt
        rw [← hSA] at HLA
        clear hwt hSA hSB f0 f1 f2 h0 h1 h2 m0 m1 m2 x0 x1 g0 g1 g2 k0 k1 k2 lg
      all_goals
        refine (HAPt.out.callB 1 _ ds HAPt.out.d HW1.out).mono ?_
        rintro e w21 ⟨rfl, hAP21, hx21⟩
        rw [HEQ.out] at hAP21
        have H21 := HHt.out.ext hx21 (by have := HSZ.out; have := HSZ2.out; omega)
        have N21 := HNt.out.ext hx21 (by have := HSZ.out; have := HSZ2.out; omega)
        have n21 := hAP21.le
        have bH : Below (w7.heap.size + 1) w21 (set3z w21 w13.heap.size) := set3z_below _ (by omega) _
        have HAP22 := Lib.hid (hAP21.kept bH)
        have H22 := Lib.hid (ZeroF.set w21 w13.heap.size _ H21)
        have N22 := Lib.hid (ZeroF.set w21 w13.heap.size _ N21)
        obtain ⟨h0, h1, h2⟩ := H21.cells
        obtain ⟨k0, k1, k2⟩ := H21.frozen
        have lh := block_lt H21
        clear hAP21 hx21 bH H21 N21 HHt HNt HAPt
        unfold set3z at HAP22 H22 N22
        go_wp2_with fail
        generalize hw22 : (((w21.setCell ⟨w13.heap.size, 0, none⟩ (.int .i64 0)).setCell ⟨w13.heap.size, 1, none⟩ (.int .i64 0)).setCell ⟨w13.heap.size, 2, none⟩ (.int .i64 0)) = w22 at *
        clear hw22 h0 h1 h2 k0 k1 k2 lh
        refine (foldedEntries_any _ _ _ SA w22 HAP22.out.ta HLA.out.1).mono ?_
        rintro e w23 ⟨lv, rfl, hl23, hb23⟩
        obtain ⟨la, lcap, rfl, -⟩ := hl23.opened
        have HL23 := Lib.hid hl23
        clear hl23
        go_wp2_with fail
        refine (foldedEntries_any _ _ _ SA w23 (HAP22.out.tb.below hb23) HLA.out.1).mono ?_
        rintro e w24 ⟨mv, rfl, hm24, hb24⟩
        obtain ⟨ma, mcap, rfl, -⟩ := hm24.opened
        have HM24 := Lib.hid hm24
        clear hm24
        go_wp2_with fail
        refine (sameEntries_true _ _ SA w24 (SliceAt.below HL23.out hb24) HM24.out HLA.out.1).mono ?_
        rintro e w25 ⟨rfl, hb25⟩
        have b25 : Below w22.heap.size w22 w25 := (hb23.trans (hb24.mono hb23.size)).trans (hb25.mono (Nat.le_trans hb23.size hb24.size))
        obtain ⟨h0, h1, h2⟩ := (H22.out.below b25).cells
        obtain ⟨m0, m1, m2⟩ := (N22.out.below b25).cells
        have HTA := Lib.hid (HAP22.out.ta.below b25)
        have HTB := Lib.hid (HAP22.out.tb.below b25)
        have bw25 : Below w.heap.size w w25 := HAP22.out.bw.trans (b25.mono HAP22.out.bw.size)
        go_wp2_with fail
        refine (foldedSize_any _ _ _ SA w25 HTA.out HLA.out.2).mono ?_
        rintro e w26 ⟨rfl, hb26⟩
        go_wp2_with fail
        refine (foldedSize_any _ _ _ SA w26 (HTB.out.below hb26) HLA.out.2).mono ?_
        rintro e w27 ⟨rfl, hb27⟩
        go_wp2
        go_ret
        exact ⟨rfl, (bw25.trans (hb26.mono bw25.size)).trans (hb27.mono (Nat.le_trans bw25.size hb26.size))⟩
end Go.Proofs.YtkkfmkhbdoeglaaDoor
