/- The walk of package overlay's DecodeAll. No condition. -/
import Derived.Test.YtkkfmkhbdoeglaaGreatDoorDecAll
namespace Go.Proofs.YtkkfmkhbdoeglaaGreatDoor
open Go.RowKit

/-- what DecodeAll tells -/
def DecAllPost (l : List UInt8) (w : World) (e : Ending) (w' : World) : Prop :=
  Below w.heap.size w w' ∧ match decAllB l with
    | .inl (n, S) => ∃ r, e = .returned (.tuple #[.int .u64 n, .pointer (some ⟨r + 1, 0, none⟩), .nilIface]) ∧ EntAt w' (r + 1) 0 r S ∧ w.heap.size ≤ r
    | .inr (k, p) => ∃ ev, e = .returned (.tuple #[.int .u64 0, .pointer none, ev]) ∧ FaultAt w' w.heap.size ev k p
theorem ended_f {c : Cu} (h : c.ended.f = none) : c.f = none := by
  obtain ⟨l, a, t, f⟩ := c
  cases f with
  | some f => simp [Cu.ended] at h
  | none => rfl
theorem i64_or_nat (a b : Nat) (ha : a < 65536) (hb : b < 65536) : bits .or .i64 (a : Int) (b : Int) = ((a ||| b : Nat) : Int) := by
  have hx : a ||| b < 2 ^ 16 := Nat.or_lt_two_pow (by omega) (by omega)
  have key : ∀ x : Nat, x < 65536 → (BitVec.ofInt 64 (x : Int)).toNat = x := fun x hx => by
    rw [BitVec.ofInt_natCast, BitVec.toNat_ofNat]; exact Nat.mod_eq_of_lt (by omega)
  show IntKind.i64.wrap ((BitVec.ofInt 64 (a : Int) ||| BitVec.ofInt 64 (b : Int)).toNat : Int) = _
  rw [BitVec.toNat_or, key a ha, key b hb]
  exact IntWalk.i64_in _ (by omega)
theorem or_bytes (x y : UInt8) : bits BinOp.or IntKind.i64 ((x.toNat : Int) * 256) (y.toNat : Int) = ((x.toNat * 256 + y.toNat : Nat) : Int) := by
  have h1 := x.toNat_lt
  have h2 := y.toNat_lt
  have j : x.toNat * 256 ||| y.toNat = x.toNat * 256 + y.toNat := nat_join 8 _ _ (by omega) (by omega)
  rw [show ((x.toNat : Int) * 256) = ((x.toNat * 256 : Nat) : Int) by omega, i64_or_nat _ _ (by omega) (by omega), j]
/-- how DecodeAll's loop is left -/
def AllEnd (w5 : World) (base c r Bl n : Nat) (C : Cu) (W : World) : Prop :=
  ∃ cu last S, (allLoop n C (-1, []) []).1 = cu ∧ (cu.f = none → (allLoop n C (-1, []) []).2 = S) ∧ AllSt w5 base c r Bl cu last S W
/-- what holds at the head of DecodeAll's loop -/
def AllRel (w5 : World) (base c r Bl n : Nat) (C : Cu) (i : Value) (W : World) : Prop :=
  ∃ m cu last S, m ≤ n ∧ i = .int .i64 ((m : Nat) : Int) ∧ allLoop n C (-1, []) [] = allLoop m cu last S ∧ AllSt w5 base c r Bl cu last S W
set_option maxRecDepth 100000 in
set_option maxHeartbeats 4000000 in
theorem DecodeAll_any (v : Value) (l : List UInt8) (w : World) (hv : BytesAt w v l) (hvb : ∀ b, v.ownBlock = some b → b < w.heap.size) (hl : l.length ≤ maxB) (hg : ShapesVar w) :
    Calls Tryz.prog 111 #[v] w (DecAllPost l w) := by
  obtain ⟨va, vcap, rfl, -, -⟩ := hv.opened
  have htwo := hg.two
  have HG := Lib.hid hg
  have hb0 : Below w.heap.size w (w.alloc (.cells #[.slice va l.length vcap, .int .i64 0, .int .i64 0, .pointer none] 211)) := (Below.refl _ w).alloc (Nat.le_refl _) _
  have hv0 : BytesAt (w.alloc (.cells #[.slice va l.length vcap, .int .i64 0, .int .i64 0, .pointer none] 211)) (.slice va l.length vcap) l := hv.below hb0
  have HC0 : Hid (CurAt (w.alloc (.cells #[.slice va l.length vcap, .int .i64 0, .int .i64 0, .pointer none] 211)) w.heap.size w.heap.size ⟨l, 0, 0, none⟩) :=
    Lib.hid ⟨Nat.zero_le _, Nat.le_refl _, hl, Nat.le_refl _, .slice va l.length vcap, none, heap_new w _, hv0, fun b hb => hvb b hb, rfl⟩
  clear hv0 hg
  obtain ⟨a, hA⟩ : ∃ a, a = Cu.take ⟨l, 0, 0, none⟩ 8 := ⟨_, rfl⟩
  have HA := Lib.hid hA
  clear hA
  go_enter Tryz.func111, Tryz.ntmps111
  go_wp2_with fail
  refine (curNumber_any w.heap.size w.heap.size ⟨l, 0, 0, none⟩ _ HC0.out (by simp)).mono ?_
  rintro e w1 ⟨rfl, hcu1, hg1⟩
  rw [← HA.out] at hcu1 ⊢
  have hs1 : w.heap.size + 1 ≤ w1.heap.size := by simpa using hg1.size
  have b1 : Below w.heap.size w w1 := ⟨hg1.os, hg1.tape, hg1.output, by omega, fun k hk => (hg1.block k (by simp; omega) (fun e => by cases e; omega)).trans (heap_alloc_old _ _ hk)⟩
  obtain ⟨V, hV⟩ : ∃ V, V = numB a.2 := ⟨_, rfl⟩
  have HV := Lib.hid hV
  rw [← hV]
  clear hV
  go_wp2_with fail
  refine (isVersion_any V _).mono ?_
  rintro e w2 ⟨rfl, rfl⟩
  go_wp2_with fail
  refine (must_any w.heap.size w.heap.size a.1 (isVersionB V) 4 _ hcu1 (by omega)).mono ?_
  rintro e w2 ⟨rfl, hcu2, hg2⟩
  have hs2 := hg2.size
  have b2 : Below w.heap.size w w2 := ⟨hg2.os.trans b1.os, hg2.tape.trans b1.tape, hg2.output.trans b1.output, by omega, fun k hk => (hg2.block k (by omega) (fun e => by cases e; omega)).trans (b1.block k hk)⟩
  obtain ⟨b, hB⟩ : ∃ b, b = (a.1.must (isVersionB V) 4).take 2 := ⟨_, rfl⟩
  have HB := Lib.hid hB
  clear hB
  go_wp2_with fail
  refine (take_any w.heap.size w.heap.size _ 2 _ hcu2 (by omega) (by decide) (by decide)).mono ?_
  rintro e w3 ⟨vv, rfl, hv3, -, hcu3, hg3⟩
  rw [← HB.out] at hv3 hcu3
  have hs3 := hg3.size
  have b3 : Below w.heap.size w w3 := ⟨hg3.os.trans b2.os, hg3.tape.trans b2.tape, hg3.output.trans b2.output, by omega, fun k hk => (hg3.block k (by omega) (fun e => by cases e; omega)).trans (b2.block k hk)⟩
  obtain ⟨x, y, hxy⟩ := length2 (show b.2.length = 2 by rw [HB.out, Cu.take_length])
  rw [hxy] at hv3
  have HXY := Lib.hid hxy
  obtain ⟨va3, cap3, rfl, hcap3, hxx⟩ := hv3.opened
  obtain ⟨xb, xo, rfl, hc0⟩ := hxx 0 (by simp)
  obtain ⟨xb', xo', he, hc1⟩ := hxx 1 (by simp)
  cases he
  simp only [Nat.add_zero, List.getElem_cons_zero, List.getElem_cons_succ] at hc0 hc1
  have hlt3 := cell_lt hc0
  have hx8 := x.toNat_lt
  have hy8 := y.toNat_lt
  simp only [List.length_cons, List.length_nil] at hcap3
  clear hxx hv3 hxy
  have HT := Lib.hid (newTables_any w3)
  clear hcu1 hcu2
  go_wp2_with fail
  refine HT.out.mono ?_
  rintro e w4 ⟨rfl, he4, hb4, hs4⟩
  have HE4 := Lib.hid he4
  have HS4 := Lib.hid hs4
  have hc04 := (hb4.cell (p := ⟨xb, xo, none⟩) hlt3).trans hc0
  have hc14 := (hb4.cell (p := ⟨xb, xo + 1, none⟩) hlt3).trans hc1
  have hlt4 : xb < w4.heap.size := by omega
  have hsz4 : w3.heap.size + 2 ≤ w4.heap.size := by omega
  clear he4 hs4 hc0 hc1 HT
  go_wp2_with fail
  generalize hw5 : w4.alloc (.cells #[.int .i64 (-1), .string ⟨#[]⟩] 94) = w5
  have t5 : Below w4.heap.size w4 w5 := by rw [← hw5]; exact (Below.refl _ w4).alloc (Nat.le_refl _) _
  have B5 : Hid (w5.heap[w4.heap.size]? = some (.cells #[.int .i64 (-1), .string ⟨#[]⟩] 94 (0, 0))) := Lib.hid (by rw [← hw5]; exact heap_new w4 _)
  have s5 : w5.heap.size = w4.heap.size + 1 := by rw [← hw5]; simp
  clear hw5
  have hc05 := (t5.cell (p := ⟨xb, xo, none⟩) hlt4).trans hc04
  have hc15 := (t5.cell (p := ⟨xb, xo + 1, none⟩) hlt4).trans hc14
  have hlt5 : xb < w5.heap.size := by omega
  clear hc04 hc14
  obtain ⟨n, hn⟩ : ∃ n, n = x.toNat * 256 + y.toNat := ⟨_, rfl⟩
  have hor : bits BinOp.or IntKind.i64 ((x.toNat : Int) * 256) (y.toNat : Int) = ((n : Nat) : Int) := by rw [hn]; exact or_bytes x y
  have hnb : n < 65536 := by omega
  have HN := Lib.hid hn
  clear hn
  go_quiet (fail)
  have hw5b : Below w.heap.size w (w5.drewN nq) := ((b3.tn hb4).tn t5).drewN nq
  have hcuC : CurAt (w5.drewN nq) w.heap.size w.heap.size b.1 := (((hcu3.old hb4).old t5).old ((Below.refl _ w5).drewN nq))
  have HST : Hid (AllSt (w5.drewN nq) w.heap.size w.heap.size w3.heap.size w4.heap.size b.1 (-1, []) [] (w5.drewN nq)) :=
    Lib.hid ⟨hcuC, ((HE4.out.below t5).tab.old rfl), ((HE4.out.below t5).below ((Below.refl _ w5).drewN nq)).cell, B5.out, HG.out.new hw5b, Ext.refl _ _, htwo, Nat.le_refl _, by omega, by omega, by show _ < w5.heap.size; omega⟩
  obtain ⟨W5, hW5⟩ : ∃ W5, W5 = w5.drewN nq := ⟨_, rfl⟩
  rw [← hW5] at HST hw5b ⊢
  obtain ⟨r, hr⟩ : ∃ r, r = w3.heap.size := ⟨_, rfl⟩
  obtain ⟨Bl, hBl⟩ : ∃ Bl, Bl = w4.heap.size := ⟨_, rfl⟩
  have hwr : w.heap.size < r := by omega
  have HC : Hid (b.2.getD 0 0 = x ∧ b.2.getD 1 0 = y) := Lib.hid (by rw [HXY.out]; exact ⟨rfl, rfl⟩)
  rw [← hr, ← hBl] at HST ⊢
  clear hW5 hr hBl hcuC hc05 hc15 hor HE4 HS4 HXY hcu3 B5 hlt3 hlt4 hlt5 s5 hg1 hg2 hg3 b1 b2 b3 hb4 t5 hs1 hs2 hs3 hsz4 hcap3 hx8 hy8
  obtain ⟨base, hbase⟩ : ∃ base, base = w.heap.size := ⟨_, rfl⟩
  rw [← hbase] at HST hw5b hwr ⊢
  have HBASE := Lib.hid hbase
  clear hbase
  go_upto_block 0 with fail
  go_cut [] from 36 to 104 (fun wx => AllEnd W5 base base r Bl n b.1 wx)
  case first =>
    go_wp2_with fail
    go_loopw [10] (fun i wr => AllRel W5 base base r Bl n b.1 i wr) (fun i _ => (intOf i).toNat)
    case atStart => exact ⟨n, b.1, (-1, []), [], Nat.le_refl _, rfl, rfl, HST.out⟩
    case round =>
      clear HST
      obtain ⟨m, cu, last, S, hm, rfl, hal, hst⟩ := hrel
      have HAL := Lib.hid hal
      clear hal
      by_cases hgo : 0 < m ∧ cu.f = none
      · obtain ⟨hm0, hf⟩ := hgo
        obtain ⟨m', rfl⟩ : ∃ m', m = m' + 1 := ⟨m - 1, by omega⟩
        have hm0' : (0 : Int) < ((m' + 1 : Nat) : Int) := by omega
        have k3 := hst.cur.noFault hf
        have hgeo := hst.geo
        have hszr := hst.size
        obtain ⟨h2b, -, hbr, hrB, hB5⟩ := hgeo
        go_wp2_with fail
        refine (take_any base base cu 1 _ hst.cur (by omega) (by decide) (by decide)).mono ?_
        rintro e w6 ⟨v6, rfl, hv6, -, hcu6, hg6⟩
        obtain ⟨t, ht⟩ := length1 (show (cu.take 1).2.length = 1 by rw [Cu.take_length])
        rw [ht] at hv6
        have HT := Lib.hid ht
        clear ht
        have hst6 := hst.curs hg6 hcu6
        have hsz6 := hst6.size
        obtain ⟨va6, cap6, rfl, hcap6, hxx6⟩ := hv6.opened
        obtain ⟨tb, tq, rfl, hc6⟩ := hxx6 0 (by simp)
        simp only [Nat.add_zero, List.getElem_cons_zero] at hc6
        have hlt6 := cell_lt hc6
        have ht8 := t.toNat_lt
        simp only [List.length_cons, List.length_nil] at hcap6
        clear hxx6 hv6 k3
        go_wp2_with fail
        generalize hw7 : w6.alloc (.cells #[.int .i64 (t.toNat : Int), .string ⟨#[]⟩] 94) = w7
        have t7 : Below w6.heap.size w6 w7 := by rw [← hw7]; exact (Below.refl _ w6).alloc (Nat.le_refl _) _
        have K7 : Hid (w7.heap[w6.heap.size]? = some (.cells #[.int .i64 (t.toNat : Int), .string ⟨#[]⟩] 94 (0, 0))) := Lib.hid (by rw [← hw7]; exact heap_new w6 _)
        clear hw7 hc6
        have hst7 := hst6.fresh t7
        have hsz7 := hst7.size
        obtain ⟨Bk, hBk⟩ : ∃ Bk, Bk = w6.heap.size := ⟨_, rfl⟩
        rw [← hBk] at K7 ⊢
        have hBkc : Bl < Bk := by omega
        have h5k : W5.heap.size ≤ Bk := by omega
        have hBk6 : Bk < w7.heap.size := block_lt K7.out
        clear hBk
        go_wp2_with fail
        refine (must_any base base _ (decide ((t.toNat : Int) < 3)) 6 _ hst7.cur (by omega)).mono ?_
        rintro e w8 ⟨rfl, hcu8, hg8⟩
        have hst8 := hst7.curs hg8 hcu8
        have hsz8 := hst8.size
        have K8 := Lib.hid (hst7.boxes K7.out (by omega) hg8)
        clear hcu6 hcu8 hst6 hst7 hg6 hg8 K7 t7 hst
        obtain ⟨c1, hc1⟩ : ∃ c1, c1 = (cu.take 1).1.must (decide ((t.toNat : Int) < 3)) 6 := ⟨_, rfl⟩
        rw [← hc1] at hst8
        have HC1 := Lib.hid hc1
        clear hc1
        cases hf8 : c1.f with
        | some f =>
          obtain ⟨g8, hc8⟩ := hst8.cur.faultCell (by rw [hf8]; simp)
          go_wp2_with fail
          go_meet
          have hbr2 : allLoop n b.1 (-1, []) [] = (c1, S) := by
            rw [HAL.out, allLoop_break hf (c' := c1)]
            have := ent_break (last := last) HT.out (f := f) (by rw [← HC1.out]; exact hf8)
            rw [HC1.out]
            exact this
          exact ⟨c1, last, S, by rw [hbr2], (fun h => by rw [hf8] at h; cases h), hst8⟩
        | none =>
          have k8 := hst8.cur.noFault hf8
          have hT3 : t.toNat < 3 := by
            have := (must_f (HC1.out ▸ hf8)).2
            have := of_decide_eq_true this
            omega
          have hT3' : (t.toNat : Int) < 3 := by omega
          have hT0' : (0 : Int) ≤ t.toNat := by omega
          have x0 := cell_of_row _ _ 0 _ _ _ K8.out
          have x1 := cell_of_row _ _ 1 _ _ _ K8.out
          have fx1 := frozen_of_row _ _ 1 _ _ K8.out
          have lx := block_lt K8.out
          have sk := shapes_key hst8.shp t hT3
          have sv := shapes_val hst8.shp t hT3
          go_wp2_with fail
          obtain ⟨b2, hb2⟩ : ∃ b2, b2 = c1.take (keyLen (t.toNat : Int)) := ⟨_, rfl⟩
          refine (take_any base base c1 (keyLen (t.toNat : Int)) _ hst8.cur (by omega) (keyLen_le _) (keyLen_pos _)).mono ?_
          rintro e w9 ⟨v9, rfl, hv9, -, hcu9, hg9⟩
          rw [← hb2] at hv9 hcu9
          have hst9 := hst8.curs hg9 hcu9
          have hsz9 := hst9.size
          have K9 := Lib.hid (hst8.boxes K8.out (by omega) hg9)
          have x0 := cell_of_row _ _ 0 _ _ _ K9.out
          have x1 := cell_of_row _ _ 1 _ _ _ K9.out
          have fx1 := frozen_of_row _ _ 1 _ _ K9.out
          have lx := block_lt K9.out
          have hl2 : b2.2.length ≤ 100 := by rw [hb2, Cu.take_length]; exact keyLen_le _
          obtain ⟨va9, cap9, rfl, hcap9, -⟩ := hv9.opened
          have hcv9 := hv9.convert
          have HB2 := Lib.hid hb2
          clear hb2 hcu9 sk sv K8 k8 hv9
          go_wp2_with fail
          have hg10 : w9.grownBy (w9.setCell ⟨Bk, 1, none⟩ (.string ⟨b2.2.toArray⟩)) (some Bk) := grownBy_set (Below.refl _ w9) 1 _
          have hst10 := hst9.mine K9.out hBkc (by decide) hg10 h5k
          have K10 := Lib.hid (heap_setCell w9 Bk 1 (.string ⟨b2.2.toArray⟩) K9.out)
          have hsz10 := hg10.size
          generalize w9.setCell ⟨Bk, 1, none⟩ (.string ⟨b2.2.toArray⟩) = w10 at hst10 K10 hsz10 ⊢
          clear hg10 hcv9 x0 x1 fx1
          have x0 := cell_of_row _ _ 0 _ _ _ K10.out
          have x1 := cell_of_row _ _ 1 _ _ _ K10.out
          go_wp2_with fail
          refine (isKey_any (t.toNat : Int) b2.2 _ hst10.shp hT0' hT3' (by unfold maxB; omega)).mono ?_
          rintro e w11 ⟨rfl, hb11⟩
          have hst11 := hst10.fresh hb11
          have K11 := Lib.hid (below_at hb11 (block_lt K10.out) K10.out)
          have hsz11 := hst11.size
          clear x0 x1
          go_wp2_with fail
          refine (must_any base base _ (isKeyB (t.toNat : Int) b2.2) 7 _ hst11.cur (by omega)).mono ?_
          rintro e w12 ⟨rfl, hcu12, hg12⟩
          have hst12 := hst11.curs hg12 hcu12
          have K12 := Lib.hid (hst11.boxes K11.out (by omega) hg12)
          have hsz12 := hst12.size
          have x0 := cell_of_row _ _ 0 _ _ _ K12.out
          have x1 := cell_of_row _ _ 1 _ _ _ K12.out
          have y0 := cell_of_row _ _ 0 _ _ _ hst12.box
          have y1 := cell_of_row _ _ 1 _ _ _ hst12.box
          have lx := block_lt K12.out
          have ly := block_lt hst12.box
          clear hcu12
          go_wp2_with fail
          refine (order_any last ((t.toNat : Int), b2.2) _).mono ?_
          rintro e w13 ⟨rfl, gq, gos, hw13⟩
          have hb13 : Below w12.heap.size w12 w13 := by rw [hw13]; exact grow_below _ _ _
          clear hw13
          have hst13 := hst12.fresh hb13
          have K13 := Lib.hid (below_at hb13 (block_lt K12.out) K12.out)
          have hsz13 := hst13.size
          clear x0 x1 y0 y1
          go_wp2_with fail
          refine (must_any base base _ (decide (cmpK last ((t.toNat : Int), b2.2) < 0)) 14 _ hst13.cur (by omega)).mono ?_
          rintro e w14 ⟨rfl, hcu14, hg14⟩
          have hst14 := hst13.curs hg14 hcu14
          have K14 := Lib.hid (hst13.boxes K13.out (by omega) hg14)
          have hsz14 := hst14.size
          obtain ⟨c2, hc2⟩ : ∃ c2, c2 = (b2.1.must (isKeyB (t.toNat : Int) b2.2) 7).must (decide (cmpK last ((t.toNat : Int), b2.2) < 0)) 14 := ⟨_, rfl⟩
          rw [← hc2] at hst14
          have HC2 := Lib.hid hc2
          have x0 := cell_of_row _ _ 0 _ _ _ K14.out
          have x1 := cell_of_row _ _ 1 _ _ _ K14.out
          have sv := shapes_val hst14.shp t hT3
          have lx := block_lt K14.out
          clear hcu14 hc2 hst8 hst9 hst10 hst11 hst12 hst13 K9 K10 K11 K12 K13
          go_wp2_with fail
          obtain ⟨d2, hd2⟩ : ∃ d2, d2 = c2.take (valLen (t.toNat : Int)) := ⟨_, rfl⟩
          refine (take_any base base c2 (valLen (t.toNat : Int)) _ hst14.cur (by omega) (valLen_le _) (valLen_pos _)).mono ?_
          rintro e w15 ⟨v15, rfl, hv15, -, hcu15, hg15⟩
          rw [← hd2] at hv15 hcu15
          have hst15 := hst14.curs hg15 hcu15
          have hsz15 := hst15.size
          have K15 := Lib.hid (hst14.boxes K14.out (by omega) hg15)
          have x0 := cell_of_row _ _ 0 _ _ _ K15.out
          have lx := block_lt K15.out
          have hl3 : d2.2.length ≤ 100 := by rw [hd2, Cu.take_length]; exact valLen_le _
          obtain ⟨va15, cap15, rfl, hcap15, -⟩ := hv15.opened
          have hcv15 := hv15.convert
          have HD2 := Lib.hid hd2
          clear hd2 hcu15 sv hv15 x1
          go_wp2_with fail
          refine (isValue_any (t.toNat : Int) d2.2 _ hst15.shp hT0' hT3' (by unfold maxB; omega)).mono ?_
          rintro e w16 ⟨rfl, hb16⟩
          have hst16 := hst15.fresh hb16
          have K16 := Lib.hid (below_at hb16 (block_lt K15.out) K15.out)
          have hsz16 := hst16.size
          clear x0 hcv15
          go_wp2_with fail
          refine (must_any base base _ (isValueB (t.toNat : Int) d2.2) 9 _ hst16.cur (by omega)).mono ?_
          rintro e w17 ⟨rfl, hcu17, hg17⟩
          have hst17 := hst16.curs hg17 hcu17
          have K17 := Lib.hid (hst16.boxes K16.out (by omega) hg17)
          have hsz17 := hst17.size
          have x0 := cell_of_row _ _ 0 _ _ _ K17.out
          have x1 := cell_of_row _ _ 1 _ _ _ K17.out
          have lx := block_lt K17.out
          have cq := hst17.cell
          have lq := cell_lt cq
          clear hcu17
          obtain ⟨W1, hu, ht1, hgp, hsp⟩ := hst17.tab.put (mt := 107) Tryz.underlying107 ((t.toNat : Int), b2.2) d2.2
          have hu1 := hu 1
          have hdr : ∀ w : World, w.drewN 1 = w.drew := fun _ => rfl
          rw [hdr, hdr] at hu1
          simp only [kV, keyV, strV] at hu1
          have hst18 := hst17.put hgp ht1
          have K18 : Hid (W1.heap[Bk]? = some (.cells #[.int .i64 (t.toNat : Int), .string ⟨b2.2.toArray⟩] 94 (0, 0))) := Lib.hid ((hgp.block Bk lx (fun e => by cases e; omega)).trans K17.out)
          clear hu hdr
          have HENT : Hid (allLoop n b.1 (-1, []) [] = allLoop m' (d2.1.must (isValueB (t.toNat : Int) d2.2) 9) ((t.toNat : Int), b2.2) (putS ((t.toNat : Int), b2.2) d2.2 S)) := Lib.hid (by
            rw [HAL.out]
            exact allLoop_step hf (ent_go HT.out HC1.out hf8 rfl HB2.out HC2.out HD2.out))
          have hst19 := (hst18.fresh ((Below.refl _ W1).drew)).step ((t.toNat : Int), b2.2)
          have HST19 := Lib.hid hst19
          have z0 := cell_of_row _ _ 0 _ _ _ K18.out
          have z1 := cell_of_row _ _ 1 _ _ _ K18.out
          have y0 := cell_of_row _ _ 0 _ _ _ hst18.box
          have y1 := cell_of_row _ _ 1 _ _ _ hst18.box
          have fy0 := frozen_of_row _ _ 0 _ _ hst18.box
          have fy1 := frozen_of_row _ _ 1 _ _ hst18.box
          have lx18 := block_lt K18.out
          have ly18 := block_lt hst18.box
          clear hst19 hst14 hst15 hst16 K14 K15 K16 hg14 hg15 hg17 hb16 hb11 hb13 hg12 hst17 K17
          go_wp2_with fail
          go_region
          go_wp2
          refine ⟨⟨m', _, _, _, by omega, rfl, HENT.out, (hst18.step ((t.toNat : Int), b2.2)).fresh ((Below.refl _ _).drew)⟩, ?_⟩
          simp [intOf]
      · have hend : (allLoop n b.1 (-1, []) []).1 = cu ∧ (cu.f = none → (allLoop n b.1 (-1, []) []).2 = S) := by
          rw [HAL.out]
          by_cases h0 : 0 < m
          · cases hf : cu.f with
            | none => exact absurd ⟨h0, hf⟩ hgo
            | some f => exact ⟨allLoop_fault hf, fun h => by cases h⟩
          · rw [show m = 0 by omega]
            exact ⟨rfl, fun _ => rfl⟩
        have HEND := Lib.hid hend
        have htest : (¬ (0 : Int) < m) ∨ ((0 : Int) < m ∧ ∃ g, wr.cell? ⟨base, 3, none⟩ = some (.pointer (some ⟨g, 0, none⟩))) := by
          by_cases h0 : 0 < m
          · cases hf : cu.f with
            | none => exact absurd ⟨h0, hf⟩ hgo
            | some f => exact .inr ⟨by omega, hst.cur.faultCell (by rw [hf]; simp)⟩
          · exact .inl (by omega)
        clear hend hgo
        have lc := hst.cur.lt
        rcases htest with h0 | ⟨h0, gg, hc3⟩
        all_goals
          go_wp2_with fail
          go_meet
          exact ⟨cu, last, S, HEND.out.1, HEND.out.2, hst⟩
  case rest =>
    obtain ⟨cu, last, S, hE1, hE2, hst⟩ := hcut
    have hszc := hst.size
    have hsw := hw5b.size
    have HST := Lib.hid hst
    have HDEC : Hid (decAllB l = match cu.ended.f with | some f => .inr f | none => .inl (V, (allLoop n b.1 (-1, []) []).2)) := Lib.hid (by
      unfold decAllB
      simp only [← HA.out, ← HV.out, ← HB.out, HC.out.1, HC.out.2, ← HN.out, hE1]
      cases cu.ended.f <;> rfl)
    have HE2 := Lib.hid hE2
    clear hE1 hE2
    go_wp2_with fail
    refine (ended_any base base cu _ hst.cur (by have := HBASE.out; omega)).mono ?_
    rintro e w8 ⟨rfl, hcu8, hg8⟩
    have hst8 := hst.curs hg8 hcu8
    have hlc8 := hcu8.lt
    have hB8 : Below base w w8 := by
      have h1 := hst8.ext
      have h2 := hst8.geo
      exact hw5b.trans (h1.below (by have := HBASE.out; omega) (fun j hj e => by rcases e with e | e | e <;> omega))
    cases hE : cu.ended.f with
    | some kp =>
      obtain ⟨kk, pp⟩ := kp
      obtain ⟨g, hc8, hgb, hgf⟩ := hcu8.fault hE
      have HP : Hid (decAllB l = .inr (kk, pp)) := Lib.hid (by rw [HDEC.out, hE])
      have HGF := Lib.hid hgf
      have HBB := Lib.hid HBASE.out
      clear hE hgf
      go_wp2_with fail
      go_quiet (fail)
      go_wp2
      go_ret3
      unfold DecAllPost
      rw [HP.out, ← HBASE.out]
      exact ⟨hB8.drewN _, _, rfl, g, rfl, hgb, HGF.out⟩
    | none =>
      have k3 := hcu8.noFault hE
      have HP : Hid (decAllB l = .inl (V, S)) := Lib.hid (by rw [HDEC.out, hE, HE2.out (ended_f hE)])
      go_wp2
      go_ret3
      unfold DecAllPost
      rw [HP.out, ← HBASE.out]
      exact ⟨hB8, r, rfl, ⟨hst8.cell, hst8.tab⟩, by omega⟩
end Go.Proofs.YtkkfmkhbdoeglaaGreatDoor

/- The contract of package plain's DecodeAll. Condition: errors.As's variable. -/
namespace Go.Proofs.YtkkfmkhbdoeglaaGreatDoor
open Go.RowKit

/-- what plain.DecodeAll tells -/
def PlainDecAll (l : List UInt8) (w : World) (e : Ending) (w' : World) : Prop :=
  Below w.heap.size w w' ∧ match decAllB l with
    | .inl (n, S) => ∃ sv, e = .returned (.tuple #[.int .u64 n, sv, faultV 0 0 0]) ∧ EntsAt w' sv S
    | .inr (k, p) => e = .returned (.tuple #[.int .u64 0, .slice none 0 0, faultV k p 0])
theorem EntsAt.apart {w : World} {v : Value} {S : List E} (h : EntsAt w v S) {B : Nat} {k k' k'' : IntKind} {a b c : Int} {T : TypeId} {fz : Nat × Nat} (hB : w.heap[B]? = some (.cells #[.int k a, .int k' b, .int k'' c] T fz)) : S = [] ∨ v.ownBlock ≠ some B := by
  cases S with
  | nil => exact .inl rfl
  | cons x S =>
    refine .inr fun e => ?_
    obtain ⟨a', cap, rfl, -, hx⟩ := h.opened
    obtain ⟨g, off, rfl, -, c1, -⟩ := hx 0 (by simp)
    obtain rfl : g = B := by simpa [Value.ownBlock] using e
    rw [cell_of_row _ _ _ _ _ _ hB] at c1
    have hlt := (Array.getElem?_eq_some_iff.1 c1).1
    simp at hlt
    have : off = 0 ∨ off = 1 := by omega
    rcases this with rfl | rfl <;> simp at c1
theorem EntsAt.setCell_other {w : World} {v : Value} {S : List E} (h : EntsAt w v S) (p : Addr) (u : Value) (hp : v.ownBlock ≠ some p.block) : EntsAt (w.setCell p u) v S := SliceAt.setCell_other h p u hp
set_option maxRecDepth 100000 in
set_option maxHeartbeats 2000000 in
theorem plainDecodeAll_bad (l : List UInt8) (w : World) (hl : l.length ≤ maxB) (hg : ShapesVar w) (hge : ErrVar w) (k p : Nat) (hd : decAllB l = .inr (k, p)) (hk : 0 < k ∧ k < 15) :
    Calls Tryz.prog 74 #[.string ⟨l.toArray⟩] w fun e w' => e = .returned (.tuple #[.int .u64 0, .slice none 0 0, faultV k p 0]) ∧ Below w.heap.size w w' := by
  have HD := Lib.hid hd
  clear hd
  have R0 := Lib.hid (heap_new w (.cells #[.int .i64 0, .int .i64 0, .int .i64 0] 38))
  have HG := Lib.hid hg
  have HGE := Lib.hid hge
  clear hg hge
  go_enter Tryz.func74, Tryz.ntmps74
  go_wp2_with (refine wpList_bytes_of rfl (.tmp 12) rfl l rfl hl ?_; intro cap w1 hown1 hb1 hs1; have R1 := Lib.hid (below_at hb1 (by simp) R0.out); simp only [World.size_alloc] at hown1 hb1 hs1)
  have b1 : Below w.heap.size w w1 := ((Below.refl _ w).alloc (Nat.le_refl _) _).trans (hb1.mono (by omega))
  refine (DecodeAll_any _ l _ (by exact hown1.bytes) (fun b hb => by cases hb; omega) hl (HG.out.new b1)).mono ?_
  rintro e w2 ⟨hb2, hpost⟩
  rw [HD.out] at hpost
  obtain ⟨ev, rfl, ⟨gf, rfl, hgf, hfa⟩⟩ := hpost
  have HFA := Lib.hid hfa
  have HGE2 := Lib.hid ((HGE.out.new b1).new hb2)
  have R2 := Lib.hid (below_at hb2 (block_lt R1.out) R1.out)
  have b2 := b1.tn hb2
  clear hfa
  go_wp2_with fail
  refine (parts_fault gf k p _ HGE2.out HFA.out (by omega) (by omega)).mono ?_
  rintro e w3 ⟨rfl, hb3⟩
  have b3 := b2.tn hb3
  have R3 := Lib.hid (below_at hb3 (block_lt R2.out) R2.out)
  go_wp2_with fail
  generalize hw4 : w3.alloc (.cells #[.int .i64 k, .int .i64 p, .int .i64 0] 38) = w4
  have t4 : Below w3.heap.size w3 w4 := by rw [← hw4]; exact (Below.refl _ w3).alloc (Nat.le_refl _) _
  have F4 : Hid (w4.heap[w3.heap.size]? = some (.cells #[.int .i64 k, .int .i64 p, .int .i64 0] 38 (0, 0))) := Lib.hid (by rw [← hw4]; exact heap_new w3 _)
  clear hw4
  have b4 := b3.tn t4
  have R4 := Lib.hid (below_at t4 (block_lt R3.out) R3.out)
  have f0 : w4.cell? ⟨w3.heap.size, 0, none⟩ = some (.int .i64 k) := cell_of_row _ _ 0 _ _ _ F4.out
  have f1 : w4.cell? ⟨w3.heap.size, 1, none⟩ = some (.int .i64 p) := cell_of_row _ _ 1 _ _ _ F4.out
  have f2 : w4.cell? ⟨w3.heap.size, 2, none⟩ = some (.int .i64 0) := cell_of_row _ _ 2 _ _ _ F4.out
  have r0 : w4.cell? ⟨w.heap.size, 0, none⟩ = some (.int .i64 0) := cell_of_row _ _ 0 _ _ _ R4.out
  have r1 : w4.cell? ⟨w.heap.size, 1, none⟩ = some (.int .i64 0) := cell_of_row _ _ 1 _ _ _ R4.out
  have r2 : w4.cell? ⟨w.heap.size, 2, none⟩ = some (.int .i64 0) := cell_of_row _ _ 2 _ _ _ R4.out
  have z0 := frozen_of_row _ _ 0 _ _ R4.out
  have z1 := frozen_of_row _ _ 1 _ _ R4.out
  have z2 := frozen_of_row _ _ 2 _ _ R4.out
  have hlR := block_lt R4.out
  have hlF := block_lt F4.out
  have hs3 := hb3.size
  have hs2 := hb2.size
  have hneF : w3.heap.size ≠ w.heap.size := by omega
  have x0 : (((w4.setCell ⟨w.heap.size, 0, none⟩ (.int .i64 k)).setCell ⟨w.heap.size, 1, none⟩ (.int .i64 p)).setCell ⟨w.heap.size, 2, none⟩ (.int .i64 0)).cell? ⟨w.heap.size, 0, none⟩ = some (.int .i64 k) := cell_of_row _ _ 0 _ _ _ (heap_setCell _ _ 2 _ (heap_setCell _ _ 1 _ (heap_setCell _ _ 0 _ R4.out)))
  have x1 : (((w4.setCell ⟨w.heap.size, 0, none⟩ (.int .i64 k)).setCell ⟨w.heap.size, 1, none⟩ (.int .i64 p)).setCell ⟨w.heap.size, 2, none⟩ (.int .i64 0)).cell? ⟨w.heap.size, 1, none⟩ = some (.int .i64 p) := cell_of_row _ _ 1 _ _ _ (heap_setCell _ _ 2 _ (heap_setCell _ _ 1 _ (heap_setCell _ _ 0 _ R4.out)))
  have x2 : (((w4.setCell ⟨w.heap.size, 0, none⟩ (.int .i64 k)).setCell ⟨w.heap.size, 1, none⟩ (.int .i64 p)).setCell ⟨w.heap.size, 2, none⟩ (.int .i64 0)).cell? ⟨w.heap.size, 2, none⟩ = some (.int .i64 0) := cell_of_row _ _ 2 _ _ _ (heap_setCell _ _ 2 _ (heap_setCell _ _ 1 _ (heap_setCell _ _ 0 _ R4.out)))
  go_wp2_with fail
  go_region
  all_goals
    go_wp2
    refine bodyPost_ret (v := .tuple #[.int .u64 0, .slice none 0 0, .agg #[.int .i64 k, .int .i64 p, .int .i64 0]]) (by simp [results, Tryz.results74, go_sem, x0, x1, x2]) rfl ⟨rfl, ?_⟩
    have hB := ((b4.setCell (p := ⟨w.heap.size, 0, none⟩) (Nat.le_refl _) (.int .i64 k)).setCell (p := ⟨w.heap.size, 1, none⟩) (Nat.le_refl _) (.int .i64 p)).setCell (p := ⟨w.heap.size, 2, none⟩) (Nat.le_refl _) (.int .i64 0)
    exact ⟨hB.os, hB.tape, hB.output, hB.size, hB.block⟩
set_option maxRecDepth 100000 in
set_option maxHeartbeats 2000000 in
theorem plainDecodeAll_good (l : List UInt8) (w : World) (hl : l.length ≤ maxB) (hg : ShapesVar w) (n : Nat) (S : List E) (hd : decAllB l = .inl (n, S)) (hS : S.length ≤ 1000000000) :
    Calls Tryz.prog 74 #[.string ⟨l.toArray⟩] w fun e w' => (∃ sv, e = .returned (.tuple #[.int .u64 n, sv, faultV 0 0 0]) ∧ EntsAt w' sv S) ∧ Below w.heap.size w w' := by
  have HD := Lib.hid hd
  clear hd
  have R0 := Lib.hid (heap_new w (.cells #[.int .i64 0, .int .i64 0, .int .i64 0] 38))
  have HG := Lib.hid hg
  clear hg
  go_enter Tryz.func74, Tryz.ntmps74
  go_wp2_with (refine wpList_bytes_of rfl (.tmp 12) rfl l rfl hl ?_; intro cap w1 hown1 hb1 hs1; have R1 := Lib.hid (below_at hb1 (by simp) R0.out); simp only [World.size_alloc] at hown1 hb1 hs1)
  have b1 : Below w.heap.size w w1 := ((Below.refl _ w).alloc (Nat.le_refl _) _).trans (hb1.mono (by omega))
  refine (DecodeAll_any _ l _ (by exact hown1.bytes) (fun b hb => by cases hb; omega) hl (HG.out.new b1)).mono ?_
  rintro e w2 ⟨hb2, hpost⟩
  rw [HD.out] at hpost
  obtain ⟨r, rfl, he2, hwr⟩ := hpost
  have HE2 := Lib.hid he2
  have R2 := Lib.hid (below_at hb2 (block_lt R1.out) R1.out)
  have b2 := b1.tn hb2
  clear he2
  go_wp2_with fail
  refine (parts_nil _).mono ?_
  rintro e w3 ⟨rfl, hb3⟩
  have b3 := b2.tn hb3
  have R3 := Lib.hid (below_at hb3 (block_lt R2.out) R2.out)
  have HE3 := Lib.hid (HE2.out.below hb3)
  go_wp2_with fail
  generalize hw4 : w3.alloc (.cells #[.int .i64 0, .int .i64 0, .int .i64 0] 38) = w4
  have t4 : Below w3.heap.size w3 w4 := by rw [← hw4]; exact (Below.refl _ w3).alloc (Nat.le_refl _) _
  have F4 : Hid (w4.heap[w3.heap.size]? = some (.cells #[.int .i64 0, .int .i64 0, .int .i64 0] 38 (0, 0))) := Lib.hid (by rw [← hw4]; exact heap_new w3 _)
  clear hw4
  have b4 := b3.tn t4
  have R4 := Lib.hid (below_at t4 (block_lt R3.out) R3.out)
  have HE4 := Lib.hid (HE3.out.below t4)
  have hs4 := b4.size
  have hlF4 := block_lt F4.out
  have hs3 := hb3.size
  have hs2 := hb2.size
  obtain ⟨Bf, hBf⟩ : ∃ Bf, Bf = w3.heap.size := ⟨_, rfl⟩
  have hneF : Bf ≠ w.heap.size := by omega
  rw [← hBf] at F4 hlF4 ⊢
  clear hBf
  go_wp2_with fail
  refine (entsFn_any (r + 1) 0 _).mono ?_
  rintro e w5 ⟨rfl, rfl⟩
  have t5 : Below w4.heap.size w4 (w4.alloc (.cells #[.pointer (some ⟨r + 1, 0, none⟩)] 173)) := (Below.refl _ w4).alloc (Nat.le_refl _) _
  go_wp2_with fail
  refine (listed_any w4.heap.size (r + 1) 0 r S _ (by simp) (cell_of_row _ _ 0 _ _ _ (heap_new w4 _)) (HE4.out.below t5) hS).mono ?_
  rintro e w6 ⟨sv, rfl, hsv, hb6⟩
  have b6 := (b4.tn t5).tn hb6
  have R6 := Lib.hid (below_at hb6 (block_lt (below_at t5 (block_lt R4.out) R4.out)) (below_at t5 (block_lt R4.out) R4.out))
  have F6 := Lib.hid (below_at hb6 (block_lt (below_at t5 (block_lt F4.out) F4.out)) (below_at t5 (block_lt F4.out) F4.out))
  obtain ⟨sa, scap, rfl, -, -⟩ := hsv.opened
  have HSV := Lib.hid hsv
  clear hsv
  have f0 : w6.cell? ⟨Bf, 0, none⟩ = some (.int .i64 0) := cell_of_row _ _ 0 _ _ _ F6.out
  have f1 : w6.cell? ⟨Bf, 1, none⟩ = some (.int .i64 0) := cell_of_row _ _ 1 _ _ _ F6.out
  have f2 : w6.cell? ⟨Bf, 2, none⟩ = some (.int .i64 0) := cell_of_row _ _ 2 _ _ _ F6.out
  have r0 : w6.cell? ⟨w.heap.size, 0, none⟩ = some (.int .i64 0) := cell_of_row _ _ 0 _ _ _ R6.out
  have r1 : w6.cell? ⟨w.heap.size, 1, none⟩ = some (.int .i64 0) := cell_of_row _ _ 1 _ _ _ R6.out
  have r2 : w6.cell? ⟨w.heap.size, 2, none⟩ = some (.int .i64 0) := cell_of_row _ _ 2 _ _ _ R6.out
  have z0 := frozen_of_row _ _ 0 _ _ R6.out
  have z1 := frozen_of_row _ _ 1 _ _ R6.out
  have z2 := frozen_of_row _ _ 2 _ _ R6.out
  have hlR := block_lt R6.out
  have hlF := block_lt F6.out
  have x0 : (((w6.setCell ⟨w.heap.size, 0, none⟩ (.int .i64 0)).setCell ⟨w.heap.size, 1, none⟩ (.int .i64 0)).setCell ⟨w.heap.size, 2, none⟩ (.int .i64 0)).cell? ⟨w.heap.size, 0, none⟩ = some (.int .i64 0) := cell_of_row _ _ 0 _ _ _ (heap_setCell _ _ 2 _ (heap_setCell _ _ 1 _ (heap_setCell _ _ 0 _ R6.out)))
  have x1 : (((w6.setCell ⟨w.heap.size, 0, none⟩ (.int .i64 0)).setCell ⟨w.heap.size, 1, none⟩ (.int .i64 0)).setCell ⟨w.heap.size, 2, none⟩ (.int .i64 0)).cell? ⟨w.heap.size, 1, none⟩ = some (.int .i64 0) := cell_of_row _ _ 1 _ _ _ (heap_setCell _ _ 2 _ (heap_setCell _ _ 1 _ (heap_setCell _ _ 0 _ R6.out)))
  have x2 : (((w6.setCell ⟨w.heap.size, 0, none⟩ (.int .i64 0)).setCell ⟨w.heap.size, 1, none⟩ (.int .i64 0)).setCell ⟨w.heap.size, 2, none⟩ (.int .i64 0)).cell? ⟨w.heap.size, 2, none⟩ = some (.int .i64 0) := cell_of_row _ _ 2 _ _ _ (heap_setCell _ _ 2 _ (heap_setCell _ _ 1 _ (heap_setCell _ _ 0 _ R6.out)))
  go_wp2_with fail
  go_region
  have hS6 : EntsAt (((w6.setCell ⟨w.heap.size, 0, none⟩ (.int .i64 0)).setCell ⟨w.heap.size, 1, none⟩ (.int .i64 0)).setCell ⟨w.heap.size, 2, none⟩ (.int .i64 0)) (.slice sa S.length scap) S := by
    rcases HSV.out.apart R6.out with rfl | hne
    · exact SliceAt.nil _ _ _ _
    · exact (((HSV.out.setCell_other ⟨w.heap.size, 0, none⟩ (.int .i64 0) hne).setCell_other ⟨w.heap.size, 1, none⟩ (.int .i64 0) hne).setCell_other ⟨w.heap.size, 2, none⟩ (.int .i64 0) hne)
  all_goals
    go_wp2
    refine bodyPost_ret (v := .tuple #[.int .u64 n, .slice sa S.length scap, .agg #[.int .i64 0, .int .i64 0, .int .i64 0]]) (by simp [results, Tryz.results74, go_sem, x0, x1, x2]) rfl ⟨⟨_, rfl, hS6⟩, ?_⟩
    have hB := ((b6.setCell (p := ⟨w.heap.size, 0, none⟩) (Nat.le_refl _) (.int .i64 0)).setCell (p := ⟨w.heap.size, 1, none⟩) (Nat.le_refl _) (.int .i64 0)).setCell (p := ⟨w.heap.size, 2, none⟩) (Nat.le_refl _) (.int .i64 0)
    exact ⟨hB.os, hB.tape, hB.output, hB.size, hB.block⟩
end Go.Proofs.YtkkfmkhbdoeglaaGreatDoor
