/- An append to a slice of the call's own: what type of cells it lies in behind it. No program. No condition. -/
import Derived.Test.YtkkfmkhbdoeglaaGreatDoorHeap
import Derived.TacticsInMore
import Derived.LoopIn
import Derived.Test.YtkkfmkhbdoeglaaGreatDoorCodecA
namespace Go.Proofs.YtkkfmkhbdoeglaaGreatDoor
open Go.RowKit

/-- a slice's own block holds cells of that type -/
def CellsOf (w : World) (v : Value) (e : TypeId) : Prop := ∀ b, v.ownBlock = some b → ∃ C fz, w.heap[b]? = some (.cells C e fz)
theorem setCells_type (g : Nat) : ∀ (vs : List Value) (o : Nat) (w : World) {C : Array Value} {e : TypeId} {fz : Nat × Nat}, w.heap[g]? = some (.cells C e fz) → ∃ C', (w.setCells g o vs).heap[g]? = some (.cells C' e fz)
  | [], _, _, C, _, _, h => ⟨C, h⟩
  | v :: vs, o, w, C, e, fz, h => by
    simp only [World.setCells]
    have h1 : ∃ C', (w.setCell ⟨g, o, none⟩ v).heap[g]? = some (.cells C' e fz) := by
      obtain ⟨hlt, hk⟩ := Array.getElem?_eq_some_iff.1 h
      have e1 : (w.setCell ⟨g, o, none⟩ v).heap[g]? = some ((w.setCell ⟨g, o, none⟩ v).heap[g]'(by rw [size_setCell]; exact hlt)) := Array.getElem?_eq_getElem _
      rw [e1]
      simp only [World.setCell, Array.getElem_modify_self, hk]
      exact ⟨_, rfl⟩
    obtain ⟨C', h1⟩ := h1
    exact setCells_type g vs (o + 1) _ h1
theorem run_append_own_srcT {P : Program} (w : World) (base : Nat) (t tx ty e : TypeId) (i : TypeInfo) (z : Value) (ht : P.underlying t = some (.slice e)) (hi : P.info? e = some i) (hz : i.zero = some z) (hzs : z.cells.size = i.size) (hsz : 0 < i.size)
    (v : Value) (n : Nat) (xs : List Value) (hown : OwnS w base i.size v n xs) (hT : CellsOf w v e) (x : Value) (m : Nat) (news : List Value) (hs : Src P i.size tx x m news w)
    (h63 : n + m ≤ maxLen) (hbytes : (n + m) * i.bytes ≤ 140737488355328) (hbase : base ≤ w.heap.size) :
    ∃ v' w', (Builtin.append_ #[t, tx] ty #[v, x]).run P w = .ok v' w' ∧ OwnS w' base i.size v' (n + m) (xs ++ news) ∧ w.grownBy w' v.ownBlock ∧ CellsOf w' v' e := by
  have hmx : maxLen = 9223372036854775807 := rfl
  obtain ⟨v', w', hr, h1, h2, h3⟩ := run_append_own_src (P := P) w base t tx ty e i z ht hi hz hzs hsz v n xs hown x m news hs h63 hbytes hbase
  refine ⟨v', w', hr, h1, h2, ?_⟩
  rcases h3 with ⟨g, off, cap, rfl, rfl, rfl⟩ | rfl | ⟨cap', rfl, -⟩
  · intro b hb
    obtain rfl : g = b := by simpa [Value.ownBlock] using hb
    obtain ⟨C, fz, hC⟩ := hT g rfl
    obtain ⟨C', hC'⟩ := setCells_type g news (off + n * i.size) w hC
    exact ⟨C', fz, hC'⟩
  · intro b hb
    simp [Value.ownBlock] at hb
  · have key : ∀ (base0 : Option Addr) (old : Nat), v = .slice base0 n old → old < n + m → (Builtin.firstCells i.size n (.slice base0 n old)).run P w.drew = .ok xs.toArray w.drew → CellsOf w' (.slice (some ⟨w.heap.size, 0, none⟩) (n + m) cap') e := by
      intro base0 old hv ho hf
      subst hv
      have hr' := run_append_grow_src (P := P) w t tx ty e i z ht hi hz base0 n old xs hf x m news hs ho (by omega) (growslice_fits ho hbytes)
      have hw := hr.symm.trans hr'
      injection hw with _ hw
      subst hw
      intro b hb
      obtain rfl : w.heap.size = b := by simpa [Value.ownBlock] using hb
      exact ⟨_, _, heap_new w.drew _⟩
    obtain ⟨hxl, ⟨rfl, rfl⟩ | ⟨g, off, cap, rfl, hbg, hlt, hnc, hcm, hcell, hfree⟩⟩ := hown
    · have hx : xs = [] := List.eq_nil_of_length_eq_zero (by simpa using hxl)
      subst hx
      by_cases hm : m = 0
      · subst hm
        have hn : news = [] := List.eq_nil_of_length_eq_zero (by simpa using hs.newsLen)
        subst hn
        have hl := hs.len w
        have hc := hs.cells
        have hnil : (Builtin.append_ #[t, tx] ty #[.slice none 0 0, x]).run P w = .ok (.slice none 0 0) w := by
          rcases hs.kind with ⟨e', hk⟩ | hk <;> simp [Builtin.append_, run_underlying ht, run_underlying hk, sizeOf, typeInfo, hi, hl, hc]
        have hw := hr.symm.trans hnil
        cases hw
      · exact key none 0 rfl (by omega) (run_firstCells_none w.drew i.size 0 0 0)
    · by_cases hroom : n + m ≤ cap
      · have hin : n * i.size + news.length ≤ cap * i.size := by rw [hs.newsLen, ← Nat.add_mul]; exact Nat.mul_le_mul_right _ hroom
        have hc : ∀ j, j < news.length → (w.cell? ⟨g, off + n * i.size + j, none⟩).isSome = true := fun j hj => by
          have := (hfree (n * i.size + j) (by omega)).1
          rw [Nat.add_assoc]; exact this
        have hf : ∀ j, j < news.length → w.frozen? ⟨g, off + n * i.size + j, none⟩ = false := fun j hj => by
          have := (hfree (n * i.size + j) (by omega)).2
          rw [Nat.add_assoc]; exact this
        have hr' := run_append_room_src (P := P) w t tx ty e i ht hi g off n cap x m news hs hroom hc hf
        have hw := hr.symm.trans hr'
        injection hw with hw _
        injection hw with hw _
        injection hw with hw
        injection hw with hw
        omega
      · refine key (some ⟨g, off, none⟩) cap rfl (by omega) (run_firstCells_some w.drew i.size n ⟨g, off, none⟩ n cap xs hxl (fun j u hu => ?_))
        obtain ⟨hj, hv⟩ := List.getElem?_eq_some_iff.1 hu
        rw [← hv]
        rw [Addr.add_lit]
        exact hcell j hj
/-- the same as an operation of a walk -/
theorem wpList_append_own_srcT {P : Program} {ops : Array Oper} {rest : List Oper} {o : Oper} {a : Act} {Q : Exit → Act → World → Prop} {w : World} (hgd : o.guard = none) (s x : Operand) (t tx : TypeId)
    (ho : o.op = .call { callee := .builtin .append, args := #[s, x], argTypes := #[t, tx] })
    (base k : Nat) (e : TypeId) (i : TypeInfo) (z : Value) (ht : P.underlying t = some (.slice e)) (hi : P.info? e = some i) (hz : i.zero = some z) (hk : i.size = k) (hzs : z.cells.size = i.size) (hsz : 0 < i.size)
    (v : Value) (n : Nat) (xs : List Value) (hv : a.eval s = v) (hown : OwnS w base k v n xs) (hT : CellsOf w v e) (m : Nat) (news : List Value) (hs : Src P k tx (a.eval x) m news w)
    (h63 : n + m ≤ maxLen) (hbytes : (n + m) * i.bytes ≤ 140737488355328) (hbase : base ≤ w.heap.size)
    (h : ∀ v' w', OwnS w' base k v' (n + m) (xs ++ news) → w.grownBy w' v.ownBlock → CellsOf w' v' e → wpList P ops Q rest (a.put o.dst v') w') : wpList P ops Q (o :: rest) a w := by
  subst hk
  obtain ⟨v', w', hr, h1, h2, h3⟩ := run_append_own_srcT (P := P) w base t tx o.type e i z ht hi hz hzs hsz v n xs hown hT (a.eval x) m news hs h63 hbytes hbase
  refine wpList_plain hgd fun K hK => ?_
  unfold Oper.wp execOp
  simp only [ho, resolve, invoke, builtin, Sem.run_bind, Sem.run_pure, Result.andThen_ok, List.map_toArray, List.map_cons, List.map_nil, hv, hr]
  exact hK _ _ (h v' w' h1 h2 h3)
/-- .. of a fenced walk, in a round too -/
theorem wpListIn_append_own_srcT {F : Fence} (hF : ∀ f, F.fn f) {nF : Nat} {P : Program} {ops : Array Oper} {rest : List Oper} {o : Oper} {a : Act} {Q : Exit → Act → World → Prop} {w : World} (hgd : o.guard = none) (s x : Operand) (t tx : TypeId)
    (ho : o.op = .call { callee := .builtin .append, args := #[s, x], argTypes := #[t, tx] })
    (base k : Nat) (e : TypeId) (i : TypeInfo) (z : Value) (ht : P.underlying t = some (.slice e)) (hi : P.info? e = some i) (hz : i.zero = some z) (hk : i.size = k) (hzs : z.cells.size = i.size) (hsz : 0 < i.size)
    (v : Value) (n : Nat) (xs : List Value) (hv : a.eval s = v) (hown : OwnS w base k v n xs) (hT : CellsOf w v e) (m : Nat) (news : List Value) (hs : Src P k tx (a.eval x) m news w)
    (h63 : n + m ≤ maxLen) (hbytes : (n + m) * i.bytes ≤ 140737488355328) (hbase : base ≤ w.heap.size)
    (h : ∀ v' w', OwnS w' base k v' (n + m) (xs ++ news) → w.grownBy w' v.ownBlock → CellsOf w' v' e → wpListIn F nF P ops Q rest (a.put o.dst v') w') : wpListIn F nF P ops Q (o :: rest) a w := by
  subst hk
  obtain ⟨v', w', hr, h1, h2, h3⟩ := run_append_own_srcT (P := P) w base t tx o.type e i z ht hi hz hzs hsz v n xs hown hT (a.eval x) m news hs h63 hbytes hbase
  refine wpListIn_plain hgd fun K hK => ?_
  unfold Oper.wpIn
  refine ⟨fun f _ => hF f, ?_⟩
  rw [Oper.semAt_eq _ _ _ (fun c hc => by rw [ho] at hc; cases hc)]
  unfold execOp
  simp only [ho, resolve, invoke, builtin, Sem.run_bind, Sem.run_pure, Result.andThen_ok, List.map_toArray, List.map_cons, List.map_nil, hv, hr]
  exact hK _ _ (h v' w' h1 h2 h3)
/-- .. of a region -/
theorem wp_append_own_srcT {P : Program} {o : Oper} {a : Act} {K : Act → World → Prop} {Q : Exit → Act → World → Prop} {w : World} (s x : Operand) (t tx : TypeId)
    (ho : o.op = .call { callee := .builtin .append, args := #[s, x], argTypes := #[t, tx] })
    (base k : Nat) (e : TypeId) (i : TypeInfo) (z : Value) (ht : P.underlying t = some (.slice e)) (hi : P.info? e = some i) (hz : i.zero = some z) (hk : i.size = k) (hzs : z.cells.size = i.size) (hsz : 0 < i.size)
    (v : Value) (n : Nat) (xs : List Value) (hv : a.eval s = v) (hown : OwnS w base k v n xs) (hT : CellsOf w v e) (m : Nat) (news : List Value) (hs : Src P k tx (a.eval x) m news w)
    (h63 : n + m ≤ maxLen) (hbytes : (n + m) * i.bytes ≤ 140737488355328) (hbase : base ≤ w.heap.size)
    (h : ∀ v' w', OwnS w' base k v' (n + m) (xs ++ news) → w.grownBy w' v.ownBlock → CellsOf w' v' e → K (a.put o.dst v') w') : o.wp P a w K Q := by
  subst hk
  obtain ⟨v', w', hr, h1, h2, h3⟩ := run_append_own_srcT (P := P) w base t tx o.type e i z ht hi hz hzs hsz v n xs hown hT (a.eval x) m news hs h63 hbytes hbase
  unfold Oper.wp execOp
  simp only [ho, resolve, invoke, builtin, Sem.run_bind, Sem.run_pure, Result.andThen_ok, List.map_toArray, List.map_cons, List.map_nil, hv, hr]
  exact h v' w' h1 h2 h3
end Go.Proofs.YtkkfmkhbdoeglaaGreatDoor

/- The contract of package overlay's number, with the type of cells of what it hands back. No condition. -/
namespace Go.Proofs.YtkkfmkhbdoeglaaGreatDoor
open Go.RowKit

theorem CellsOf.alloc {w : World} {v : Value} {e : TypeId} (h : CellsOf w v e) (o : Obj) : CellsOf (w.alloc o) v e := fun b hb => by
  obtain ⟨C, fz, hC⟩ := h b hb
  exact ⟨C, fz, heap_old w o hC⟩
theorem CellsOf.nil (w : World) (e : TypeId) : CellsOf w (.slice none 0 0) e := fun b hb => by simp [Value.ownBlock] at hb
theorem wpList_append_u8T {ops : Array Oper} {rest : List Oper} {o : Oper} {a : Act} {Q : Exit → Act → World → Prop} {w : World} (hgd : o.guard = none) (s x : Operand)
    (ho : o.op = .call { callee := .builtin .append, args := #[s, x], argTypes := #[59, 59] })
    (base : Nat) (v : Value) (n : Nat) (l : List UInt8) (hv : a.eval s = v) (hown : OwnS w base 1 v n (u8s l)) (hT : CellsOf w v 5) (m : List UInt8) (hs : BytesAt w (a.eval x) m)
    (hlen : n + m.length ≤ 140737488355328) (hbase : base ≤ w.heap.size)
    (h : ∀ v' w', OwnS w' base 1 v' (n + m.length) (u8s (l ++ m)) → w.grownBy w' v.ownBlock → CellsOf w' v' 5 → Below base w w' →
      wpList Tryz.prog ops Q rest (a.put o.dst v') w') : wpList Tryz.prog ops Q (o :: rest) a w := by
  obtain ⟨i0, hi, hz0, hz1, hz2⟩ := info_parts infoU8
  have hmx : maxLen = 9223372036854775807 := rfl
  refine wpList_append_own_srcT hgd s x _ _ ho base 1 5 i0 (.int .u8 0) Tryz.underlying59 hi hz0 hz1 (by rw [hz1]; rfl) (by omega) v n (u8s l) hv hown hT m.length (u8s m) (SliceAt.src Tryz.underlying59 hs (u8s_one m)) (by omega) (by rw [hz2]; omega) hbase (fun v' w' h1 h2 h3 => ?_)
  rw [← u8s_append] at h1
  exact h v' w' h1 h2 h3 (below_of_grown hown h2 hbase)
set_option maxRecDepth 100000 in
set_option maxHeartbeats 1000000 in
theorem number_anyT (base : Nat) (bv : Value) (l : List UInt8) (v : Nat) (w : World) (hown : OwnS w base 1 bv l.length (u8s l)) (hT : CellsOf w bv 5) (hbase : base ≤ w.heap.size) (hl : l.length ≤ maxB) (_hv : v < 18446744073709551616) :
    Calls Tryz.prog 113 #[bv, .int .u64 v] w fun e w' => ∃ bv', e = .returned bv' ∧ OwnS w' base 1 bv' (l.length + 8) (u8s (l ++ be8 v)) ∧ CellsOf w' bv' 5 ∧ Below base w w' := by
  unfold maxB at hl
  go_enter Tryz.func113, Tryz.ntmps113
  go_wp2
  go_loopw [0, 6] (fun bw i wr => ∃ k : Nat, k ≤ 8 ∧ i = .int .i64 k ∧ OwnS wr base 1 bw (l ++ (be8 v).take k).length (u8s (l ++ (be8 v).take k)) ∧ CellsOf wr bw 5 ∧ Below base w wr) (fun _ i _ => 8 - (intOf i).toNat)
  case atStart => exact ⟨0, by omega, rfl, by simpa using hown, hT, Below.refl _ _⟩
  case round =>
    obtain ⟨k, hk, rfl, hown1, hT1, hb1⟩ := hrel
    have HT1 := Lib.hid hT1
    clear hT1
    by_cases h8 : k < 8
    · have hX : ((UInt8.ofNat (v / 2 ^ (56 - 8 * k))).toNat : Int) = (v : Int) / 2 ^ (56 - 8 * k) % 256 := by simp
      have hone := one_at wr (UInt8.ofNat (v / 2 ^ (56 - 8 * k)))
      rw [hX] at hone
      have hsz := hb1.size
      have H := Lib.hid (be8_take v k h8)
      have HX := Lib.hid hX
      clear hX
      have h8' : (k : Int) < 8 := by omega
      have hlk : (l ++ (be8 v).take k).length ≤ 140737488355100 := by rw [List.length_append, List.length_take, be8_length]; omega
      go_wp2_with (at_builtin; refine wpList_append_u8T rfl (.tmp 9) (.tmp 16) rfl base _ _ (l ++ (be8 v).take k) rfl (hown1.below ((Below.refl _ wr).alloc (Nat.le_refl _) _)) (HT1.out.alloc _) [UInt8.ofNat (v / 2 ^ (56 - 8 * k))] hone (by simp only [List.length_cons, List.length_nil]; omega) (by simp; omega) ?_; intro v1 w1 hown2 _ hT2 hb2)
      go_roundw
      case rel =>
        refine ⟨k + 1, by omega, by go_num, ?_, hT2, (hb1.alloc (by omega) _).trans hb2⟩
        rw [H.out, ← List.append_assoc]
        rw [List.length_append]
        exact hown2
      case measure => simp [intOf]; omega
    · obtain rfl : k = 8 := by omega
      rw [List.take_of_length_le (by rw [be8_length]; omega)] at hown1
      go_wp2
      go_ret
      refine ⟨_, rfl, ?_, HT1.out, hb1⟩
      rw [List.length_append, be8_length] at hown1
      exact hown1
theorem step_append_u8T {ops : Array Oper} {o : Oper} {a : Act} {K : Act → World → Prop} {Q : Exit → Act → World → Prop} {E : Prop} {w : World} (hgd : o.guard = none) (s x : Operand)
    (ho : o.op = .call { callee := .builtin .append, args := #[s, x], argTypes := #[59, 59] })
    (base : Nat) (v : Value) (n : Nat) (l : List UInt8) (hv : a.eval s = v) (hown : OwnS w base 1 v n (u8s l)) (hT : CellsOf w v 5) (m : List UInt8) (hs : BytesAt w (a.eval x) m)
    (hlen : n + m.length ≤ 140737488355328) (hbase : base ≤ w.heap.size)
    (h : ∀ v' w', OwnS w' base 1 v' (n + m.length) (u8s (l ++ m)) → w.grownBy w' v.ownBlock → CellsOf w' v' 5 → Below base w w' →
      K (a.put o.dst v') w') : if Region.wanted o (yielded ops a.tmps) = true then Oper.wp Tryz.prog o a w K Q else E := by
  have hw : Region.wanted o (yielded ops a.tmps) = true := by simp [Region.wanted, hgd]
  rw [if_pos hw]
  obtain ⟨i0, hi, hz0, hz1, hz2⟩ := info_parts infoU8
  have hmx : maxLen = 9223372036854775807 := rfl
  refine wp_append_own_srcT s x _ _ ho base 1 5 i0 (.int .u8 0) Tryz.underlying59 hi hz0 hz1 (by rw [hz1]; rfl) (by omega) v n (u8s l) hv hown hT m.length (u8s m) (SliceAt.src Tryz.underlying59 hs (u8s_one m)) (by omega) (by rw [hz2]; omega) hbase (fun v' w' h1 h2 h3 => ?_)
  rw [← u8s_append] at h1
  exact h v' w' h1 h2 h3 (below_of_grown hown h2 hbase)
end Go.Proofs.YtkkfmkhbdoeglaaGreatDoor
