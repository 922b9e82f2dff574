/- The contract of package overlay's Decode. No condition. -/
import Derived.Test.YtkkfmkhbdoeglaaGreatDoorDeltaA
import Derived.Test.YtkkfmkhbdoeglaaGreatDoorHeap4
import Derived.Deep.DeepCutAuto
import Derived.Deep.RegionLaw
namespace Go.Proofs.YtkkfmkhbdoeglaaGreatDoor
open Go.RowKit

/-- what Decode tells -/
def DecodePost (l : List UInt8) (w : World) (e : Ending) (w' : World) : Prop :=
  Below w.heap.size w w' ∧ match decB l with
    | .inl (n, os) => ∃ sv, e = .returned (.tuple #[.agg #[.int .u64 n, sv], .nilIface]) ∧ OwnS w' w.heap.size 4 sv os.length (opCells os)
    | .inr (k, p) => ∃ ev, e = .returned (.tuple #[.agg #[.int .u64 0, .slice none 0 0], ev]) ∧ FaultAt w' w.heap.size ev k p
theorem run_nn (n : Nat) (hn : n < 256) : (decide (1 ≤ n) && decide (n ≤ 8)) = (decide ((1 : Int) ≤ n) && decide ((n : Int) ≤ 8)) := by
  rw [Bool.eq_iff_iff]; simp; omega
theorem CurAt.fault {w : World} {base c : Nat} {cu : Cu} {k p : Nat} (h : CurAt w base c cu) (hf : cu.f = some (k, p)) : ∃ g, w.cell? ⟨c, 3, none⟩ = some (.pointer (some ⟨g, 0, none⟩)) ∧ base ≤ g ∧ w.heap[g]? = some (.cells #[.int .i64 k, .int .i64 p, .nilIface] 166 (0, 0)) := by
  obtain ⟨h1, h2, h3, h4, v, fp, h5, h6, h7, h8⟩ := h
  rw [hf] at h8
  obtain ⟨g, rfl, hg, hx⟩ := h8
  exact ⟨g, cell_of_row w c 3 _ _ _ h5, hg, hx⟩
theorem OwnS.noFault {w : World} {base : Nat} {v : Value} {n : Nat} {xs : List Value} (h : OwnS w base 4 v n xs) (hn : 0 < n) : ∀ g, v.ownBlock = some g → ∀ k m : Int, w.heap[g]? ≠ some (.cells #[.int .i64 k, .int .i64 m, .nilIface] 166 (0, 0)) := by
  intro g hg k m e
  obtain ⟨_, ⟨rfl, _⟩ | ⟨g', off, cap, rfl, _, _, hc, _, _, hf⟩⟩ := h
  · cases hg
  · cases hg
    have := (hf 3 (by omega)).1
    unfold World.cell? at this
    rw [e] at this
    simp at this
/-- what holds at Decode's loop -/
def DecRel (w5 : World) (base c r D n V : Nat) (C : Cu) (i : Value) (wr : World) : Prop :=
  ∃ (k : Nat) (cu : Cu) (ks : List K) (os : List OpB) (sv : Value), k ≤ n ∧ i = .int .i64 k ∧ decLoop n C [] [] = decLoop (n - k) cu ks os ∧ os.length = k ∧ (k = 0 → sv = .slice none 0 0) ∧ CurAt wr base c cu ∧
    (cu.f = none → SeenAt wr r ks) ∧ wr.heap[D]? = some (.cells #[.int .u64 V, sv] 34 (0, 0)) ∧ OwnS wr (r + 1) 4 sv os.length (opCells os) ∧ Ext (fun i => i = c ∨ i = r ∨ i = D) w5 wr
theorem DecRel.step {w5 wr w6 w7 : World} {base c r D n V k : Nat} {C cu' : Cu} {ks : List K} {os : List OpB} {o : OpB} {sa sa7 : Option Addr} {scap cap7 : Nat} {X : Obj}
    (hdn : decLoop n C [] [] = decLoop (n - (k + 1)) cu' (ks ++ [(o.table, o.key)]) (os ++ [o])) (hk : k + 1 ≤ n) (hol : os.length = k) (hnil : k = 0 → Value.slice sa os.length scap = .slice none 0 0)
    (hcu6 : CurAt w6 base c cu') (hse6 : cu'.f = none → SeenAt w6 r (ks ++ [(o.table, o.key)])) (D6 : w6.heap[D]? = some (.cells #[.int .u64 V, .slice sa os.length scap] 34 (0, 0)))
    (hown6 : OwnS w6 (r + 1) 4 (.slice sa os.length scap) os.length (opCells os)) (hown7 : OwnS w7 (r + 1) 4 (.slice sa7 (os.length + 1) cap7) (os.length + 1) (opCells (os ++ [o])))
    (hg7 : (w6.alloc X).grownBy w7 (Value.slice sa os.length scap).ownBlock) (hx : Ext (fun i => i = c ∨ i = r ∨ i = D) w5 wr) (hx6 : Ext (fun i => i = c ∨ i = r) wr.drew w6)
    (hcD : c < D) (hDr : D < r) (_hr : r < wr.heap.size) (hs5 : w5.heap.size = r + 1) :
    DecRel w5 base c r D n V C (.int .i64 ((k + 1 : Nat) : Int)) (w7.setCell ⟨D, 1, none⟩ (.slice sa7 (os.length + 1) cap7)) := by
  have hs6 : wr.heap.size ≤ w6.heap.size := hx6.size
  have hs7 : w6.heap.size ≤ w7.heap.size := Nat.le_trans (by simp) hg7.size
  have hgD : w7.grownBy (w7.setCell ⟨D, 1, none⟩ (.slice sa7 (os.length + 1) cap7)) (some D) := grownBy_set (Below.refl _ w7) 1 _
  have hge : ∀ b, (Value.slice sa os.length scap).ownBlock = some b → r + 1 ≤ b := hown6.ownBlock_ge
  have hD7 : w7.heap[D]? = some (.cells #[.int .u64 V, .slice sa os.length scap] 34 (0, 0)) :=
    (hg7.block D (by simp; have := block_lt D6; omega) (fun e => by have := hge D e.symm; omega)).trans (heap_old w6 X D6)
  have hcu7 : CurAt w7 base c cu' := by
    have ha := hcu6.old ((Below.refl _ w6).alloc (Nat.le_refl _) X)
    cases hob : (Value.slice sa os.length scap).ownBlock with
    | none =>
      rw [hob] at hg7
      exact ha.old ⟨hg7.os, hg7.tape, hg7.output, hg7.size, fun j hj => hg7.block j hj (by simp)⟩
    | some b =>
      rw [hob] at hg7
      have hb := hge b hob
      have hpos : 0 < os.length := by
        by_cases h0 : k = 0
        · rw [hnil h0] at hob; cases hob
        · omega
      refine ha.grown hg7 (by omega) (fun k' m' e => ?_)
      have hlt := hown6.ownBlock_lt b hob
      rw [heap_alloc_old w6 X hlt] at e
      exact hown6.noFault hpos b hob k' m' e
  refine ⟨k + 1, cu', ks ++ [(o.table, o.key)], os ++ [o], .slice sa7 (os.length + 1) cap7, hk, rfl, hdn, by simp [hol], fun h => absurd h (by omega), ?_, fun hf => ?_, ?_, ?_, ?_⟩
  · exact hcu7.grown hgD hcD (fun k' m' e => by rw [hD7] at e; simp at e)
  · have h1 := hse6 hf
    refine MapAt.old h1 ?_
    have hl := h1.lt
    exact (hgD.block r (by omega) (fun e => by cases e; omega)).trans ((hg7.block r (by simp; omega) (fun e => by have := hge r e.symm; omega)).trans (heap_alloc_old w6 X hl))
  · exact heap_setCell w7 D 1 _ hD7
  · have e : (os ++ [o]).length = os.length + 1 := by simp
    rw [e]
    exact hown7.frame (by rw [size_setCell]; exact Nat.le_refl _) (fun b hb hlt => hgD.block b hlt (fun e => by cases e; have := hown7.ownBlock_ge _ hb; omega))
  · have x1 : Ext (fun i => i = c ∨ i = r ∨ i = D) w5 w6 := hx.trans' (T := fun i => i = c ∨ i = r) ⟨hx6.os, hx6.tape, hx6.output, hx6.size, hx6.block⟩ (fun i e => .inl (by rcases e with e | e; exact .inl e; exact .inr (.inl e)))
    have x2 := x1.alloc X
    have x3 : Ext (fun i => i = c ∨ i = r ∨ i = D) w5 w7 := by
      cases hob : (Value.slice sa os.length scap).ownBlock with
      | none =>
        rw [hob] at hg7
        exact x2.past ⟨hg7.os, hg7.tape, hg7.output, hg7.size, fun j hj => hg7.block j hj (by simp)⟩
      | some b =>
        rw [hob] at hg7
        exact x2.grow hg7 (.inr (by have := hge b hob; omega))
    exact x3.grow hgD (.inl (.inr (.inr rfl)))
theorem op_named (base c r : Nat) (cu cu' : Cu) (ks : List K) (o : OpB) (w : World) (h : CurAt w base c cu) (hm : SeenAt w r ks) (hg : ShapesVar w) (hb2 : 2 ≤ base) (hb : base ≤ w.heap.size) (hcr : c < r) (ho : cu.op ks = (cu', o)) :
    Calls Tryz.prog 144 #[.pointer (some ⟨c, 0, none⟩), .map (some r)] w fun e w' => e = .returned (.agg #[.int .i64 o.kind, .int .i64 o.table, .string ⟨o.key.toArray⟩, .string ⟨o.val.toArray⟩]) ∧ CurAt w' base c cu' ∧ (cu'.f = none → SeenAt w' r (ks ++ [(o.table, o.key)])) ∧ Ext (fun i => i = c ∨ i = r) w w' := by
  have h1 : cu' = (cu.op ks).1 := by rw [ho]
  have h2 : o = (cu.op ks).2 := by rw [ho]
  subst h1 h2
  exact op_any base c r cu ks w h hm hg hb2 hb hcr
theorem length1 {k : List UInt8} (h : k.length = 1) : ∃ a, k = [a] := by
  match k, h with
  | [a], _ => exact ⟨a, rfl⟩
set_option maxRecDepth 100000 in
set_option maxHeartbeats 2000000 in
theorem Decode_any (v : Value) (l : List UInt8) (w : World) (hv : BytesAt w v l) (hvb : ∀ b, v.ownBlock = some b → b < w.heap.size) (hl : l.length ≤ maxB) (hg : ShapesVar w) :
    Calls Tryz.prog 115 #[v] w (DecodePost l w) := by
  obtain ⟨va, vcap, rfl, -, -⟩ := hv.opened
  have htwo := hg.two
  have HG := Lib.hid hg
  -- the cursor
  have hv0 : BytesAt ((w.alloc (.cells #[.int .u64 0, .slice none 0 0] 34)).alloc (.cells #[.slice va l.length vcap, .int .i64 0, .int .i64 0, .pointer none] 211)) (.slice va l.length vcap) l := hv.below (((Below.refl _ w).alloc (Nat.le_refl _) _).alloc (by simp) _)
  have hc0 : CurAt ((w.alloc (.cells #[.int .u64 0, .slice none 0 0] 34)).alloc (.cells #[.slice va l.length vcap, .int .i64 0, .int .i64 0, .pointer none] 211)) w.heap.size (w.heap.size + 1) ⟨l, 0, 0, none⟩ := by
    refine ⟨Nat.zero_le _, Nat.le_refl _, hl, by omega, .slice va l.length vcap, none, ?_, hv0, fun b hb => by have := hvb b hb; omega, rfl⟩
    have := heap_new (w.alloc (.cells #[.int .u64 0, .slice none 0 0] 34)) (.cells #[.slice va l.length vcap, .int .i64 0, .int .i64 0, .pointer none] 211)
    simpa using this
  have HC0 := Lib.hid hc0
  clear hc0 hv0 hg
  obtain ⟨a, hA⟩ : ∃ a, a = Cu.take ⟨l, 0, 0, none⟩ 8 := ⟨_, rfl⟩
  have HA := Lib.hid hA
  go_enter Tryz.func115, Tryz.ntmps115
  go_wp2_with fail
  refine (curNumber_any w.heap.size (w.heap.size + 1) ⟨l, 0, 0, none⟩ _ HC0.out (by simp; omega)).mono ?_
  rintro e w1 ⟨rfl, hcu1, hg1⟩
  rw [← HA.out] at hcu1 ⊢
  clear hA
  have hs1 : w.heap.size + 1 + 1 ≤ w1.heap.size := by simpa using hg1.size
  have A1 : Hid (w1.heap[w.heap.size]? = some (.cells #[.int .u64 0, .slice none 0 0] 34 (0, 0))) := Lib.hid (carry hg1 (heap_old _ _ (heap_new w _)) (by omega))
  have b1 : Below w.heap.size w w1 := ⟨hg1.os, hg1.tape, hg1.output, by omega, fun k hk => (hg1.block k (by simp; omega) (fun e => by cases e; omega)).trans ((heap_alloc_old _ _ (by simp; omega)).trans (heap_alloc_old _ _ hk))⟩
  obtain ⟨V, hV⟩ : ∃ V, V = numB a.2 := ⟨_, rfl⟩
  have HV := Lib.hid hV
  rw [← hV]
  clear hV
  have D1 := heap_new w1 (.cells #[.int .u64 V, .slice none 0 0] 34)
  have HD1 := Lib.hid D1
  clear D1
  go_wp2_with fail
  refine (isVersion_any V _).mono ?_
  rintro e w2 ⟨rfl, rfl⟩
  go_wp2_with fail
  refine (must_any w.heap.size (w.heap.size + 1) a.1 (isVersionB V) 4 _ (hcu1.old ((Below.refl _ w1).alloc (Nat.le_refl _) _)) (by simp; omega)).mono ?_
  rintro e w2 ⟨rfl, hcu2, hg2⟩
  have hs2 : w1.heap.size + 1 ≤ w2.heap.size := by simpa using hg2.size
  have A2 := Lib.hid (carry hg2 (heap_old w1 _ A1.out) (by omega))
  have D2 := Lib.hid (carry hg2 HD1.out (by omega))
  have b2 : Below w.heap.size w w2 := ⟨hg2.os.trans b1.os, hg2.tape.trans b1.tape, hg2.output.trans b1.output, by omega, fun k hk => (hg2.block k (by simp; omega) (fun e => by cases e; omega)).trans ((heap_alloc_old _ _ (by omega)).trans (b1.block k hk))⟩
  obtain ⟨b, hB⟩ : ∃ b, b = (a.1.must (isVersionB V) 4).take 1 := ⟨_, rfl⟩
  have HB := Lib.hid hB
  clear hB
  go_wp2_with fail
  refine (take_any w.heap.size (w.heap.size + 1) _ 1 _ hcu2 (by omega) (by decide) (by decide)).mono ?_
  rintro e w3 ⟨vv, rfl, hv3, -, hcu3, hg3⟩
  rw [← HB.out] at hv3 hcu3
  have hs3 := hg3.size
  have A3 := Lib.hid (carry hg3 A2.out (by omega))
  have D3 := Lib.hid (carry hg3 D2.out (by omega))
  have b3 : Below w.heap.size w w3 := ⟨hg3.os.trans b2.os, hg3.tape.trans b2.tape, hg3.output.trans b2.output, by omega, fun k hk => (hg3.block k (by omega) (fun e => by cases e; omega)).trans (b2.block k hk)⟩
  obtain ⟨x, hx⟩ := length1 (show b.2.length = 1 by rw [HB.out, Cu.take_length])
  rw [hx] at hv3
  have HX := Lib.hid hx
  clear hx
  obtain ⟨va3, cap3, rfl, hcap3, hxx⟩ := hv3.opened
  obtain ⟨xb, xo, rfl, hc0⟩ := hxx 0 (by simp)
  simp only [Nat.add_zero, List.getElem_cons_zero] at hc0
  have hlt3 := cell_lt hc0
  have hx8 := x.toNat_lt
  simp only [List.length_cons, List.length_nil] at hcap3
  clear hxx hv3
  obtain ⟨C, hC⟩ : ∃ C, C = b.1.must (decide (1 ≤ x.toNat) && decide (x.toNat ≤ 8)) 5 := ⟨_, rfl⟩
  have HC := Lib.hid hC
  clear hC
  go_upto_region 5 with fail
  go_cut [] (fun wx => CurAt wx w.heap.size (w.heap.size + 1) C ∧ wx.heap[w.heap.size]? = some (.cells #[.int .u64 0, .slice none 0 0] 34 (0, 0)) ∧ wx.heap[w1.heap.size]? = some (.cells #[.int .u64 V, .slice none 0 0] 34 (0, 0)) ∧ Below w.heap.size w wx)
  case first =>
    have fin : ∀ (w4 : World), w3.grownBy w4 (some (w.heap.size + 1)) → w4.heap[w.heap.size]? = some (.cells #[.int .u64 0, .slice none 0 0] 34 (0, 0)) ∧ w4.heap[w1.heap.size]? = some (.cells #[.int .u64 V, .slice none 0 0] 34 (0, 0)) ∧ Below w.heap.size w w4 := fun w4 hg4 =>
      ⟨carry hg4 A3.out (by omega), carry hg4 D3.out (by omega), hg4.os.trans b3.os, hg4.tape.trans b3.tape, hg4.output.trans b3.output, by have := hg4.size; omega, fun k hk => (hg4.block k (by omega) (fun e => by cases e; omega)).trans (b3.block k hk)⟩
    have FIN := Lib.hid fin
    clear fin
    by_cases h1 : x.toNat < 1
    · have h1' : (x.toNat : Int) < 1 := by omega
      have ec : Hid (C = b.1.must false 5) := Lib.hid (by rw [HC.out, show decide (1 ≤ x.toNat) = false from decide_eq_false (by omega)]; rfl)
      go_wp2_with fail
      refine (must_any w.heap.size (w.heap.size + 1) b.1 false 5 _ hcu3 (by omega)).mono ?_
      rintro e w4 ⟨rfl, hcu4, hg4⟩
      rw [← ec.out] at hcu4
      have hf4 := FIN.out w4 hg4
      go_wp2_with fail
      go_meet
      exact ⟨hcu4, hf4⟩
    · have h1' : (1 : Int) ≤ x.toNat := by omega
      have ec : Hid (C = b.1.must (decide ((x.toNat : Int) ≤ 8)) 5) := Lib.hid (by rw [HC.out, show decide (1 ≤ x.toNat) = true from decide_eq_true (by omega), Bool.true_and, show decide ((x.toNat : Int) ≤ 8) = decide (x.toNat ≤ 8) from by rw [Bool.eq_iff_iff, decide_eq_true_iff, decide_eq_true_iff]; omega])
      go_wp2_with fail
      refine (must_any w.heap.size (w.heap.size + 1) b.1 _ 5 _ hcu3 (by omega)).mono ?_
      rintro e w4 ⟨rfl, hcu4, hg4⟩
      rw [← ec.out] at hcu4
      have hf4 := FIN.out w4 hg4
      go_wp2_with fail
      go_meet
      exact ⟨hcu4, hf4⟩
  case rest =>
    obtain ⟨hcu4, hA4, hD4, hb4⟩ := hcut
    have hs4 : w1.heap.size < wc.heap.size := block_lt hD4
    have HDEC : Hid (decB l = match (decLoop x.toNat C [] []).1.ended.f with | some f => .inr f | none => .inl (V, (decLoop x.toNat C [] []).2)) := Lib.hid (by
      unfold decB
      simp only [← HA.out, ← HV.out, ← HB.out, HX.out, List.headD_cons, ← HC.out]
      generalize decLoop x.toNat C [] [] = L
      cases L.1.ended.f <;> rfl)
    obtain ⟨n, hn⟩ : ∃ n, n = x.toNat := ⟨_, rfl⟩
    rw [← hn] at HDEC hx8
    rw [← hn]
    obtain ⟨D, hD⟩ : ∃ D, D = w1.heap.size := ⟨_, rfl⟩
    rw [← hD] at hD4 hs4
    rw [← hD]
    have hDc : w.heap.size + 1 < D := by omega
    clear hn hD hc0 hlt3 hcu3 hcap3 HA HB HC HX HV hcu2 hcu1
    clear A3 D3 A2 D2 A1 HD1 hg1 hg2 hg3 b1 b2 b3
    have hmm := @run_makeMap Tryz.prog
    go_wp2
    generalize hw5 : wc.alloc (.map #[] 0) = w5
    have r5 : SeenAt w5 wc.heap.size [] := by rw [← hw5]; exact MapAt.new wc
    have s5 : wc.heap.size + 1 ≤ w5.heap.size := by rw [← hw5]; simp
    have t5 : Below wc.heap.size wc w5 := by rw [← hw5]; exact (Below.refl _ wc).alloc (Nat.le_refl _) _
    have s5' : Hid (w5.heap.size = wc.heap.size + 1) := Lib.hid (by rw [← hw5]; simp)
    clear hw5 hmm
    obtain ⟨r, hr⟩ : ∃ r, r = wc.heap.size := ⟨_, rfl⟩
    have b5 : Below w.heap.size w w5 := hb4.trans (t5.mono (by omega))
    have A5 := Lib.hid (below_at t5 (by omega) hA4)
    have h0 : DecRel w5 w.heap.size (w.heap.size + 1) r D n V C (.int .i64 0) w5 :=
      ⟨0, C, [], [], .slice none 0 0, Nat.zero_le _, rfl, rfl, rfl, fun _ => rfl, hcu4.old t5, fun _ => by rw [hr]; exact r5, below_at t5 hs4 hD4, OwnS.nil _ _ _, Ext.refl _ _⟩
    rw [← hr] at s5 s5' hs4
    rw [← hr]
    clear hr r5 t5 hcu4 hA4 hD4 hb4
    go_loopw [8] (fun i wr => DecRel w5 w.heap.size (w.heap.size + 1) r D n V C i wr) (fun i _ => n - (intOf i).toNat)
    case atStart => exact h0
    case round =>
      clear h0
      obtain ⟨k, cu, ks, os, sv, hkn, rfl, hdl, hol, hnil, hcu, hse, hDr, hown, hx⟩ := hrel
      obtain ⟨sa, scap, rfl⟩ := hown.shape
      have hsr := hx.size
      have hbr : Below w.heap.size w wr := b5.trans (hx.below (by have := b5.size; omega) (fun j hj e => by omega))
      have AR := Lib.hid (hx.at (fun e => by omega) A5.out)
      have HDR := Lib.hid hDr
      have HDL := Lib.hid hdl
      have HOL := Lib.hid hol
      have d1 : wr.cell? ⟨D, 1, none⟩ = some (.slice sa os.length scap) := cell_of_row _ _ 1 _ _ _ HDR.out
      have f1 := frozen_of_row _ _ 1 _ _ HDR.out
      have hlD := block_lt HDR.out
      clear hDr hdl hol
      have hcl := hcu.lt
      by_cases hgo : k < n ∧ cu.f = none
      · obtain ⟨hlt, hf⟩ := hgo
        have hlt' : (k : Int) < n := by omega
        have k3 := hcu.noFault hf
        obtain ⟨cu', o, ho⟩ : ∃ cu' o, cu.op ks = (cu', o) := ⟨_, _, rfl⟩
        have HDN : Hid (decLoop n C [] [] = decLoop (n - (k + 1)) cu' (ks ++ [(o.table, o.key)]) (os ++ [o])) := Lib.hid (by
          rw [HDL.out, show n - k = (n - (k + 1)) + 1 by omega, decLoop, hf, ho])
        have HOP := Lib.hid (fun W h1 h2 h3 h4 => op_named w.heap.size (w.heap.size + 1) r cu cu' ks o W h1 h2 h3 htwo h4 (by omega) ho)
        have hgr : ShapesVar wr := HG.out.new hbr
        have HSE := hse hf
        have hbase : w.heap.size ≤ wr.heap.size := hbr.size
        have hrr : r < wr.heap.size := HSE.lt
        have hok : os.length ≤ 300 := by have := HOL.out; omega
        have HNIL := Lib.hid hnil
        clear ho hse hnil
        go_wp2
        go_region_law
          ((first
            | (refine step_append_ops rfl (.tmp 47) (.tmp 51) rfl (r + 1) (.slice sa os.length scap) os rfl (by exact hown6.below ((Below.refl _ w6).alloc (Nat.le_refl _) _)) [o] (by exact oneOp_at w6 o) (by simp; omega) (by simp at hs6 ⊢; omega) ?_; intro v7 w7 hown7 hg7 hb7 hap7;
                obtain ⟨sa7, cap7, rfl⟩ := hown7.shape;
                have D7 := Lib.hid (below_at hb7 (by omega) (heap_old w6 (.cells #[.int .i64 o.kind, .int .i64 o.table, .string ⟨o.key.toArray⟩, .string ⟨o.val.toArray⟩] 96) D6.out));
                have d7 : w7.cell? ⟨D, 1, none⟩ = some (.slice sa os.length scap) := cell_of_row _ _ 1 _ _ _ D7.out;
                have f7 := frozen_of_row _ _ 1 _ _ D7.out; have hl7 := block_lt D7.out)
            | (go_simp; go_at_call 144; refine (HOP.out _ (by exact hcu) (by exact HSE) (by exact hgr.new ((Below.refl _ wr).drew)) (by exact hbase)).mono ?_; rintro e w6 ⟨rfl, hcu6, hse6, hx6⟩;
                have d6 : w6.cell? ⟨D, 1, none⟩ = some (.slice sa os.length scap) := hx6.cell (w := wr.drew) (by simp; omega) d1;
                have D6 := Lib.hid (hx6.at (w := wr.drew) (fun e => by rcases e with e | e <;> omega) HDR.out);
                have hown6 : OwnS w6 (r + 1) 4 (.slice sa os.length scap) os.length (opCells os) := OwnS.frame (w := wr.drew) hown hx6.size (fun b hb hlt => hx6.block b hlt (fun e => by have := hown.ownBlock_ge b hb; rcases e with e | e <;> omega));
                have hs6 := hx6.size; have hl6 := block_lt D6.out)))
        all_goals
          go_wp2
          go_roundw
          case rel =>
            have e7 : (os ++ [o]).length = os.length + 1 := by simp
            rw [e7] at hown7
            exact DecRel.step HDN.out hlt HOL.out HNIL.out hcu6 hse6 D6.out hown6 hown7 hg7 hx hx6 hDc hs4 hrr s5'.out
          case measure => simp [intOf]; omega
      · have hend : (decLoop n C [] []).1 = cu ∧ (cu.f = none → (decLoop n C [] []).2 = os) := by
          rw [HDL.out]
          by_cases hlt : k < n
          · cases hf : cu.f with
            | none => exact absurd ⟨hlt, hf⟩ hgo
            | some f => exact ⟨decLoop_some _ _ _ _ f hf, fun h => by cases h⟩
          · rw [show n - k = 0 by omega]
            exact ⟨rfl, fun _ => rfl⟩
        have HEND := Lib.hid hend
        clear hend
        have htest : (¬ (k : Int) < n) ∨ ((k : Int) < n ∧ ∃ g, wr.cell? ⟨w.heap.size + 1, 3, none⟩ = some (.pointer (some ⟨g, 0, none⟩))) := by
          by_cases hlt : k < n
          · cases hf : cu.f with
            | none => exact absurd ⟨hlt, hf⟩ hgo
            | some f => exact .inr ⟨by omega, hcu.faultCell (by rw [hf]; simp)⟩
          · exact .inl (by omega)
        have HR := Lib.hid HDR.out
        have hbase : w.heap.size ≤ wr.heap.size := hbr.size
        clear hgo d1 f1
        have HNDD := Lib.hid (fun W => ended_any w.heap.size (w.heap.size + 1) cu W)
        rcases htest with hlt | ⟨hlt, gg, hc3⟩
        all_goals
          go_wp2_with fail
          refine (HNDD.out _ hcu hbase).mono ?_
          rintro e w8 ⟨rfl, hcu8, hg8⟩
          have hs8 := hg8.size
          have A8 := Lib.hid (carry hg8 AR.out (by omega))
          have D8 := Lib.hid (carry hg8 HDR.out (by omega))
          have b8 : Below w.heap.size w w8 := ⟨hg8.os.trans hbr.os, hg8.tape.trans hbr.tape, hg8.output.trans hbr.output, by omega, fun j hj => (hg8.block j (by omega) (fun e => by cases e; omega)).trans (hbr.block j hj)⟩
          have hlc8 := hcu8.lt
          have p0 : w8.cell? ⟨w.heap.size, 0, none⟩ = some (.int .u64 0) := cell_of_row _ _ 0 _ _ _ A8.out
          have p1 : w8.cell? ⟨w.heap.size, 1, none⟩ = some (.slice none 0 0) := cell_of_row _ _ 1 _ _ _ A8.out
          have e0 := frozen_of_row _ _ 0 _ _ A8.out
          have e1 := frozen_of_row _ _ 1 _ _ A8.out
          have hlA := block_lt A8.out
          cases hE : cu.ended.f with
          | some kp =>
            obtain ⟨kk, pp⟩ := kp
            obtain ⟨g, hc8, hg8', hgf⟩ := hcu8.fault hE
            have HP : Hid (decB l = .inr (kk, pp)) := Lib.hid (by rw [HDEC.out, HEND.out.1, hE])
            have HGF := Lib.hid hgf
            clear hE hgf
            try clear hc3
            go_wp2
            go_region
            have x0 : ((w8.setCell ⟨w.heap.size, 0, none⟩ (.int .u64 0)).setCell ⟨w.heap.size, 1, none⟩ (.slice none 0 0)).cell? ⟨w.heap.size, 0, none⟩ = some (.int .u64 0) := cell_of_row _ _ 0 _ _ _ (heap_setCell _ _ 1 _ (heap_setCell _ _ 0 _ A8.out))
            have x1 : ((w8.setCell ⟨w.heap.size, 0, none⟩ (.int .u64 0)).setCell ⟨w.heap.size, 1, none⟩ (.slice none 0 0)).cell? ⟨w.heap.size, 1, none⟩ = some (.slice none 0 0) := cell_of_row _ _ 1 _ _ _ (heap_setCell _ _ 1 _ (heap_setCell _ _ 0 _ A8.out))
            have hgA : g ≠ w.heap.size := fun e => by have h1 := HGF.out; have h2 := A8.out; rw [e, h2] at h1; simp at h1
            have hGF : ((w8.setCell ⟨w.heap.size, 0, none⟩ (.int .u64 0)).setCell ⟨w.heap.size, 1, none⟩ (.slice none 0 0)).heap[g]? = some (.cells #[.int .i64 kk, .int .i64 pp, .nilIface] 166 (0, 0)) :=
              (Below.heap_setCell _ ⟨w.heap.size, 1, none⟩ _ g hgA).trans ((Below.heap_setCell w8 ⟨w.heap.size, 0, none⟩ _ g hgA).trans HGF.out)
            have hB : Below w.heap.size w ((w8.setCell ⟨w.heap.size, 0, none⟩ (.int .u64 0)).setCell ⟨w.heap.size, 1, none⟩ (.slice none 0 0)) := (b8.setCell (p := ⟨w.heap.size, 0, none⟩) (Nat.le_refl _) _).setCell (p := ⟨w.heap.size, 1, none⟩) (Nat.le_refl _) _
            all_goals
              go_wp2
              refine bodyPost_ret (v := .tuple #[.agg #[.int .u64 0, .slice none 0 0], .iface 114 (.pointer (some ⟨g, 0, none⟩))]) (by simp [results, Tryz.results115, go_sem, x0, x1]) rfl ?_
              refine ⟨⟨hB.os, hB.tape, hB.output, hB.size, hB.block⟩, ?_⟩
              rw [HP.out]
              exact ⟨_, rfl, g, rfl, hg8', hGF⟩
          | none =>
            have hfn : cu.f = none := by
              cases hf : cu.f with
              | none => rfl
              | some x => unfold Cu.ended at hE; rw [hf] at hE; simp only at hE; rw [hf] at hE; cases hE
            have HP : Hid (decB l = .inl (V, os)) := Lib.hid (by rw [HDEC.out, HEND.out.1, hE, HEND.out.2 hfn])
            have hc8 := hcu8.noFault hE
            have q0 : w8.cell? ⟨D, 0, none⟩ = some (.int .u64 V) := cell_of_row _ _ 0 _ _ _ D8.out
            have q1 : w8.cell? ⟨D, 1, none⟩ = some (.slice sa os.length scap) := cell_of_row _ _ 1 _ _ _ D8.out
            have hlD8 := block_lt D8.out
            have hown8 : OwnS w8 (r + 1) 4 (.slice sa os.length scap) os.length (opCells os) := hown.frame hs8 (fun b hb hlt => hg8.block b hlt (fun e => by cases e; have := hown.ownBlock_ge _ hb; omega))
            clear hE
            try clear hc3
            have x0 : ((w8.setCell ⟨w.heap.size, 0, none⟩ (.int .u64 V)).setCell ⟨w.heap.size, 1, none⟩ (.slice sa os.length scap)).cell? ⟨w.heap.size, 0, none⟩ = some (.int .u64 V) := cell_of_row _ _ 0 _ _ _ (heap_setCell _ _ 1 _ (heap_setCell _ _ 0 _ A8.out))
            have x1 : ((w8.setCell ⟨w.heap.size, 0, none⟩ (.int .u64 V)).setCell ⟨w.heap.size, 1, none⟩ (.slice sa os.length scap)).cell? ⟨w.heap.size, 1, none⟩ = some (.slice sa os.length scap) := cell_of_row _ _ 1 _ _ _ (heap_setCell _ _ 1 _ (heap_setCell _ _ 0 _ A8.out))
            have hgA : w8.grownBy ((w8.setCell ⟨w.heap.size, 0, none⟩ (.int .u64 V)).setCell ⟨w.heap.size, 1, none⟩ (.slice sa os.length scap)) (some w.heap.size) := grownBy_set2 (grownBy_set (Below.refl _ w8) 0 _) 1 _
            have hOW := (hown8.frame hgA.size (fun b hb hlt => hgA.block b hlt (fun e => by cases e; have := hown8.ownBlock_ge _ hb; omega))).mono (show w.heap.size ≤ r + 1 by omega)
            have hB : Below w.heap.size w ((w8.setCell ⟨w.heap.size, 0, none⟩ (.int .u64 V)).setCell ⟨w.heap.size, 1, none⟩ (.slice sa os.length scap)) := (b8.setCell (p := ⟨w.heap.size, 0, none⟩) (Nat.le_refl _) _).setCell (p := ⟨w.heap.size, 1, none⟩) (Nat.le_refl _) _
            go_wp2
            refine bodyPost_ret (v := .tuple #[.agg #[.int .u64 V, .slice sa os.length scap], .nilIface]) (by simp [results, Tryz.results115, go_sem, x0, x1]) rfl ?_
            refine ⟨hB, ?_⟩
            rw [HP.out]
            exact ⟨_, rfl, hOW⟩
end Go.Proofs.YtkkfmkhbdoeglaaGreatDoor
