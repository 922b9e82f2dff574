/- A part of what is proved here: lemmas and contracts of single functions. No condition but those that each names. -/
import Derived.BigRegion
import Derived.Deep.RegionHeld
import Derived.Deep.RegionHeld3
import Derived.Deep.RegionLaw
import Derived.OrdersHeld
import Derived.RegionTactic
import Derived.Shelf.Abstract
import Derived.Test.YtkkfmkhbdoeglabGreatDoorG08
import Derived.Test.YtkkfmkhbdoeglabGreatDoorG21
import Derived.Test.YtkkfmkhbdoeglabGreatDoorG35
namespace Go.Proofs.YtkkfmkhbdoeglabGreatDoor
section
variable {P : Program} {Q : Exit → Act → World → Prop} {md : Region.Mode}
/-- what is asked behind the operations ahead of the last: the last one's own -/
def lastQ (P : Program) (o : Oper) (Q : Exit → Act → World → Prop) : Exit → Act → World → Prop
  | .normal, a, w => o.wp P a w (Q .normal) Q
  | e, a, w => Q e a w
/-- each operation stands behind those that it waits for, and ahead of one that waits for it -/
def feedB (md : Region.Mode) (ops : Array Oper) (n : Nat) : Bool :=
  decide (ops.size = n + 1) && (List.range (n + 1)).all fun i =>
    ((ops[i]?).map fun o => o.guard.isNone && (match o.op with | .select _ _ => false | _ => true) && (o.after.all fun e => !Region.binds md e || decide (e.on < i)) &&
      (decide (i = n) || (List.range (n + 1)).any fun k => decide (i < k) && ((ops[k]?).map fun o' => o'.after.any fun e => Region.binds md e && (e.on == i)).getD false)).getD false
theorem feed_at {ops : Array Oper} {n : Nat} (h : feedB md ops n = true) : ops.size = n + 1 ∧ ∀ i, i ≤ n → ∃ o, ops[i]? = some o ∧ o.guard = none ∧ (∀ e ∈ o.after, Region.binds md e = true → e.on < i) ∧ (i = n ∨ ∃ k o', i < k ∧ k ≤ n ∧ ops[k]? = some o' ∧ ∃ e ∈ o'.after, Region.binds md e = true ∧ e.on = i) := by
  unfold feedB at h
  rw [Bool.and_eq_true, decide_eq_true_eq, List.all_eq_true] at h
  refine ⟨h.1, fun i hi => ?_⟩
  have h2 := h.2 i (List.mem_range.2 (by omega))
  cases ho : ops[i]? with
  | none => rw [ho] at h2; cases h2
  | some o =>
    rw [ho] at h2
    simp only [Option.map_some, Option.getD_some, Bool.and_eq_true, Bool.or_eq_true, decide_eq_true_eq, Array.all_eq_true', List.any_eq_true, List.mem_range, Option.isNone_iff_eq_none, Bool.not_eq_true'] at h2
    obtain ⟨⟨⟨h3, -⟩, h4⟩, h5⟩ := h2
    refine ⟨o, rfl, h3, fun e he hb => ?_, ?_⟩
    · rcases h4 e he with h | h
      · rw [hb] at h; cases h
      · exact h
    · rcases h5 with h | ⟨k, hk, hik, h6⟩
      · exact .inl h
      · right
        cases hk' : ops[k]? with
        | none => rw [hk'] at h6; cases h6
        | some o' =>
          rw [hk'] at h6
          simp only [Option.map_some, Option.getD_some, Array.any_eq_true', Bool.and_eq_true, beq_iff_eq] at h6
          exact ⟨k, o', hik, by omega, hk', h6⟩
theorem ready_iff {ops : Array Oper} {listed : Array Bool} {i : Nat} : i ∈ Region.ready md ops listed ↔ i < ops.size ∧ listed.getD i true = false ∧ ∃ o, ops[i]? = some o ∧ ∀ e ∈ o.after, Region.binds md e = true → listed.getD e.on false = true := by
  unfold Region.ready
  rw [List.mem_filter, List.mem_range, Bool.and_eq_true, Bool.not_eq_true']
  refine and_congr_right fun _ => and_congr_right fun _ => ?_
  cases ho : ops[i]? with
  | none => simp
  | some o =>
    simp only [Option.map_some, Option.getD_some, Array.all_eq_true', Bool.or_eq_true, Bool.not_eq_true', Option.some.injEq, exists_eq_left']
    refine forall_congr' fun e => forall_congr' fun _ => ?_
    cases Region.binds md e <;> simp
/-- what is listed waits for nothing that is not -/
def DownL (md : Region.Mode) (ops : Array Oper) (listed : Array Bool) : Prop := ∀ i o, ops[i]? = some o → listed.getD i false = true → ∀ e ∈ o.after, Region.binds md e = true → listed.getD e.on false = true
theorem getD_set_true {listed : Array Bool} {i k : Nat} (h : listed.getD k false = true) : (listed.setIfInBounds i true).getD k false = true := by
  rw [Array.getD_eq_getD_getElem?] at h ⊢
  by_cases e : i = k
  · subst e
    rw [Array.getElem?_setIfInBounds_self]
    split
    · rfl
    · rename_i hn
      rw [Array.getElem?_eq_none (by omega)] at h
      cases h
  · rw [Array.getElem?_setIfInBounds_ne e]
    exact h
theorem DownL.set {ops : Array Oper} {listed : Array Bool} (h : DownL md ops listed) {i : Nat} (hi : i ∈ Region.ready md ops listed) : DownL md ops (listed.setIfInBounds i true) := by
  obtain ⟨h1, h2, o, ho, h3⟩ := ready_iff.1 hi
  intro j o' ho' hj e he hb
  by_cases e' : i = j
  · subst e'
    rw [ho] at ho'
    cases ho'
    exact getD_set_true (h3 e he hb)
  · refine getD_set_true (h j o' ho' ?_ e he hb)
    rw [Array.getD_eq_getD_getElem?, Array.getElem?_setIfInBounds_ne e'] at hj
    rw [Array.getD_eq_getD_getElem?]
    exact hj
theorem Oper.wp_of_lastQ {o last : Oper} {a : Act} {w : World} {K : Act → World → Prop} (h : Oper.wp P o a w K (lastQ P last Q)) : Oper.wp P o a w K Q := by
  unfold Oper.wp at *
  generalize (execOp a.eval o).run P w = r at *
  cases r with
  | ok n w' =>
    cases n <;> simp only [Oper.upon] at h ⊢ <;> first | exact h | exact Calls.mono h (fun e w'' he => by cases e <;> exact he)
  | halt x w' => cases x <;> simp only [Oper.upon] at h ⊢ <;> exact h
theorem wpAny_last {ops : Array Oper} {n : Nat} {last : Oper} (hF : feedB md ops n = true) (hl : ops[n]? = some last) : ∀ (f : Nat) (listed : Array Bool) (a : Act) (w : World), listed.size = n → DownL md ops (listed.push false) →
    wpAny P md (ops.extract 0 n) (lastQ P last Q) f listed a w → wpAny P md ops Q (f + 1) (listed.push false) a w := by
  obtain ⟨hsz, hat⟩ := feed_at hF
  have hsame : ∀ i, i < n → (ops.extract 0 n)[i]? = ops[i]? := fun i hi => by
    rw [Array.getElem?_extract_of_lt (by omega)]
    simp
  have hexs : (ops.extract 0 n).size = n := by simp; omega
  have gp : ∀ (listed : Array Bool), listed.size = n → ∀ k d, k < n → (listed.push false).getD k d = listed.getD k d := fun listed hs k d hk => by
    rw [Array.getD_eq_getD_getElem?, Array.getD_eq_getD_getElem?, Array.getElem?_push_lt (by omega), Array.getElem?_eq_getElem (by omega)]
  have gn : ∀ (listed : Array Bool), listed.size = n → ∀ d, (listed.push false).getD n d = false := fun listed hs d => by
    rw [Array.getD_eq_getD_getElem?, ← hs, Array.getElem?_push_size]
    rfl
  -- ready ahead of the last: the same
  have hrd : ∀ (listed : Array Bool), listed.size = n → ∀ i, i < n → (i ∈ Region.ready md ops (listed.push false) ↔ i ∈ Region.ready md (ops.extract 0 n) listed) := fun listed hs i hi => by
    rw [ready_iff, ready_iff, hexs, hsz, hsame i hi, gp listed hs i true hi]
    obtain ⟨o, ho, -, hlt, -⟩ := hat i (by omega)
    rw [ho]
    constructor
    · rintro ⟨-, h2, o', e, h3⟩
      cases e
      exact ⟨hi, h2, o, rfl, fun e he hb => by have := h3 e he hb; rwa [gp listed hs _ _ (by have := hlt e he hb; omega)] at this⟩
    · rintro ⟨-, h2, o', e, h3⟩
      cases e
      exact ⟨by omega, h2, o, rfl, fun e he hb => by rw [gp listed hs _ _ (by have := hlt e he hb; omega)]; exact h3 e he hb⟩
  -- the last is ready behind all
  have hall : ∀ (listed : Array Bool), listed.size = n → DownL md ops (listed.push false) → n ∈ Region.ready md ops (listed.push false) → ∀ i, i < n → listed.getD i false = true := fun listed hs hd hn => by
    obtain ⟨-, -, o, ho, hdep⟩ := ready_iff.1 hn
    have key : ∀ m i, i < n → n - i ≤ m → (listed.push false).getD i false = true := by
      intro m
      induction m with
      | zero => intro i hi hm; omega
      | succ m ih =>
        intro i hi hm
        obtain ⟨-, -, -, -, hk⟩ := hat i (by omega)
        rcases hk with rfl | ⟨k, o', hik, hkn, ho', e, he, hb, rfl⟩
        · omega
        · by_cases hkn' : k = n
          · subst hkn'
            rw [ho] at ho'
            cases ho'
            exact hdep e he hb
          · exact hd k o' ho' (ih k (by omega) (by omega)) e he hb
    intro i hi
    have := key n i hi (by omega)
    rwa [gp listed hs i _ hi] at this
  -- where nothing is ready all is listed
  have hnone : ∀ (listed : Array Bool), listed.size = n → Region.ready md (ops.extract 0 n) listed = [] → ∀ i, i < n → listed.getD i false = true := fun listed hs hr => by
    intro i
    induction i using Nat.strongRecOn with
    | _ i ih =>
      intro hi
      cases hg : listed.getD i false with
      | true => rfl
      | false =>
        have : i ∈ Region.ready md (ops.extract 0 n) listed := by
          obtain ⟨o, ho, -, hlt, -⟩ := hat i (by omega)
          refine ready_iff.2 ⟨by omega, ?_, o, (hsame i hi).trans ho, fun e he hb => ih e.on (hlt e he hb) (by have := hlt e he hb; omega)⟩
          rw [Array.getD_eq_getD_getElem?, Array.getElem?_eq_getElem (by omega)] at hg ⊢
          exact hg
        rw [hr] at this
        cases this
  intro f
  induction f with
  | zero =>
    rintro listed a w hs hd ⟨hr, hq⟩
    have hl1 := hnone listed hs hr
    have hn : n ∈ Region.ready md ops (listed.push false) := by
      obtain ⟨o, ho, -, hlt, -⟩ := hat n (Nat.le_refl _)
      exact ready_iff.2 ⟨by omega, gn listed hs true, o, ho, fun e he hb => by have := hlt e he hb; rw [gp listed hs _ _ this]; exact hl1 _ this⟩
    refine ⟨(fun h => by rw [h] at hn; cases hn), fun i hi => ?_⟩
    have hin : i = n := by
      have h1 := (ready_iff.1 hi).1
      refine Classical.byContradiction fun hne => ?_
      have := (hrd listed hs i (by omega)).1 hi
      rw [hr] at this
      cases this
    subst hin
    unfold wpOp
    simp only [hl]
    obtain ⟨o, ho, hg, -⟩ := hat i (Nat.le_refl _)
    rw [hl] at ho
    cases ho
    rw [if_pos (by simp [Region.wanted, hg])]
    refine .inl (Oper.wp_mono (fun a' w' hQ => ⟨?_, hQ⟩) hq)
    refine List.eq_nil_iff_forall_not_mem.2 fun j hj => ?_
    obtain ⟨j1, j2, -⟩ := ready_iff.1 hj
    by_cases hjn : j = i
    · subst hjn
      rw [Array.getD_eq_getD_getElem?, Array.getElem?_setIfInBounds_self, if_pos (by simp; omega)] at j2
      cases j2
    · rw [Array.getD_eq_getD_getElem?, Array.getElem?_setIfInBounds_ne (Ne.symm hjn), ← Array.getD_eq_getD_getElem?, gp listed hs j _ (by omega)] at j2
      have := hl1 j (by omega)
      rw [Array.getD_eq_getD_getElem?, Array.getElem?_eq_getElem (by omega)] at this j2
      simp only [Option.getD_some] at this j2
      rw [this] at j2
      cases j2
  | succ f ih =>
    rintro listed a w hs hd ⟨hq, hA⟩
    by_cases hr : Region.ready md (ops.extract 0 n) listed = []
    · -- nothing is ready: as above, with more fuel
      have hl1 := hnone listed hs hr
      have hn : n ∈ Region.ready md ops (listed.push false) := by
        obtain ⟨o, ho, -, hlt, -⟩ := hat n (Nat.le_refl _)
        exact ready_iff.2 ⟨by omega, gn listed hs true, o, ho, fun e he hb => by have := hlt e he hb; rw [gp listed hs _ _ this]; exact hl1 _ this⟩
      refine ⟨(fun h => by rw [h] at hn; cases hn), fun i hi => ?_⟩
      have hin : i = n := by
        have h1 := (ready_iff.1 hi).1
        refine Classical.byContradiction fun hne => ?_
        have := (hrd listed hs i (by omega)).1 hi
        rw [hr] at this
        cases this
      subst hin
      unfold wpOp
      simp only [hl]
      obtain ⟨o, ho, hg, -⟩ := hat i (Nat.le_refl _)
      rw [hl] at ho
      cases ho
      rw [if_pos (by simp [Region.wanted, hg])]
      refine .inl (Oper.wp_mono (fun a' w' hQ => ?_) (hq hr))
      have hr2 : Region.ready md ops ((listed.push false).setIfInBounds i true) = [] := by
        refine List.eq_nil_iff_forall_not_mem.2 fun j hj => ?_
        obtain ⟨j1, j2, -⟩ := ready_iff.1 hj
        by_cases hjn : j = i
        · subst hjn
          rw [Array.getD_eq_getD_getElem?, Array.getElem?_setIfInBounds_self, if_pos (by simp; omega)] at j2
          cases j2
        · rw [Array.getD_eq_getD_getElem?, Array.getElem?_setIfInBounds_ne (Ne.symm hjn), ← Array.getD_eq_getD_getElem?, gp listed hs j _ (by omega)] at j2
          have := hl1 j (by omega)
          rw [Array.getD_eq_getD_getElem?, Array.getElem?_eq_getElem (by omega)] at this j2
          simp only [Option.getD_some] at this j2
          rw [this] at j2
          cases j2
      refine ⟨fun _ => hQ, (fun j hj => by rw [hr2] at hj; cases hj)⟩
    · obtain ⟨j0, hj0⟩ := List.exists_mem_of_ne_nil _ hr
      have hj1 := ready_iff.1 hj0
      have hj2 : j0 < n := by rw [hexs] at hj1; exact hj1.1
      have hnl : n ∉ Region.ready md ops (listed.push false) := fun hn => by
        have h1 := hall listed hs hd hn j0 hj2
        have h2 := hj1.2.1
        rw [Array.getD_eq_getD_getElem?, Array.getElem?_eq_getElem (by omega)] at h1 h2
        simp only [Option.getD_some] at h1 h2
        rw [h1] at h2
        cases h2
      refine ⟨fun h => ?_, fun i hi => ?_⟩
      · have := (hrd listed hs j0 hj2).2 hj0
        rw [h] at this
        cases this
      · have hin : i < n := by
          have h1 := (ready_iff.1 hi).1
          have : i ≠ n := fun e => hnl (e ▸ hi)
          omega
        have hA' := hA i ((hrd listed hs i hin).1 hi)
        obtain ⟨o, ho, hg, -⟩ := hat i (by omega)
        have hset : (listed.push false).setIfInBounds i true = (listed.setIfInBounds i true).push false := by
          refine Array.ext_getElem? fun k => ?_
          by_cases e : i = k
          · subst e
            rw [Array.getElem?_setIfInBounds_self, if_pos (by simp; omega), Array.getElem?_push_lt (by simp; omega), ← Array.getElem?_eq_getElem, Array.getElem?_setIfInBounds_self, if_pos (by omega)]
          · rw [Array.getElem?_setIfInBounds_ne e]
            by_cases hk : k < n
            · rw [Array.getElem?_push_lt (by omega), Array.getElem?_push_lt (by simp; omega), ← Array.getElem?_eq_getElem, ← Array.getElem?_eq_getElem, Array.getElem?_setIfInBounds_ne e]
            · by_cases hk' : k = n
              · subst hk'
                rw [← hs, Array.getElem?_push_size, show listed.size = (listed.setIfInBounds i true).size by simp, Array.getElem?_push_size]
              · rw [Array.getElem?_eq_none (by simp; omega), Array.getElem?_eq_none (by simp; omega)]
        unfold wpOp at hA' ⊢
        rw [hsame i hin, ho] at hA'
        simp only [ho]
        have hw : ∀ ops', Region.wanted o (yielded ops' a.tmps) = true := fun ops' => by simp [Region.wanted, hg]
        simp only [hw, if_true] at hA' ⊢
        rcases hA' with hA' | ⟨h1, h2⟩
        · refine .inl (Oper.wp_mono (fun a' w' h' => ?_) (Oper.wp_of_lastQ hA'))
          rw [hset]
          exact ih (listed.setIfInBounds i true) a' w' (by simpa using hs) (by rw [← hset]; exact hd.set hi) h'
        · exact .inr ⟨h1, h2⟩
theorem replicate_push (n : Nat) : (Array.replicate n false).push false = Array.replicate (n + 1) false := by
  rw [Array.replicate_succ]
/-- the region -/
theorem wp_region_last {id n : Nat} {ops : Array Oper} {last : Oper} {S : World → Prop} {a : Act} {w : World} (hm : P.follows .mixedOrders = true) (hF : feedB .any ops n = true) (hl : ops[n]? = some last) (hS : S w.drew)
    (h : S w.drew → wpAnyH P .any (ops.extract 0 n) (lastQ P last Q) S n (Array.replicate n false) a w.drew) : (Code.region id ops true).wp P Q a w := by
  refine wp_region_any hm ?_
  rw [(feed_at hF).1, ← replicate_push]
  refine wpAny_last hF hl n _ a _ (by simp) ?_ (wpAny_of_held _ _ _ _ (h hS))
  intro i o ho hi
  rw [replicate_push, Array.getD_eq_getD_getElem?] at hi
  by_cases hi' : i < n + 1
  · rw [Array.getElem?_replicate, if_pos hi'] at hi
    cases hi
  · rw [Array.getElem?_replicate, if_neg hi'] at hi
    cases hi
end
end Go.Proofs.YtkkfmkhbdoeglabGreatDoor
namespace Go.Proofs.YtkkfmkhbdoeglabGreatDoor
open Go.RowKit Go.Shelf
theorem byteI_wrap (t : Int) : ((byteI t).toNat : Int) = IntKind.u8.wrap t := by
  have h : IntKind.u8.wrap t = t % 256 := rfl
  rw [h]
  unfold byteI
  simp
  omega
theorem str_add {P : Program} (p q : List UInt8) (hl : p.length + q.length ≤ 9223372036854775807) (w : World) : (Op.stringOp .add ⟨p.toArray⟩ ⟨q.toArray⟩).run P w = .ok (.string ⟨(p ++ q).toArray⟩) w := by
  rw [run_string_add_sum w _ _ (by simp [ByteArray.size]; omega), ByteArray.mk_append_mk]
theorem CellsOf.ne {w : World} {v : Value} {e T : TypeId} {b : Nat} {C : Array Value} {fz : Nat × Nat} (h : CellsOf w v e) (hb : w.heap[b]? = some (.cells C T fz)) (hT : T ≠ e) : v.ownBlock ≠ some b := fun he => by
  obtain ⟨C', fz', h'⟩ := h b he
  rw [hb] at h'
  cases h'
  exact hT rfl
theorem CellsOf.ne_tab {w : World} {v : Value} {e : TypeId} {r : Nat} {S : List E} (h : CellsOf w v e) (ht : TabAt w r S) : v.ownBlock ≠ some r := fun he => by
  obtain ⟨C', fz', h'⟩ := h r he
  obtain ⟨-, L, ⟨es, cl, hm, -⟩, -⟩ := ht
  rw [hm] at h'
  cases h'
theorem TabAt.ne_row {w : World} {r : Nat} {S : List E} {b : Nat} {C : Array Value} {T : TypeId} {fz : Nat × Nat} (ht : TabAt w r S) (hb : w.heap[b]? = some (.cells C T fz)) : b ≠ r := fun he => by
  obtain ⟨-, L, ⟨es, cl, hm, -⟩, -⟩ := ht
  rw [he, hm] at hb
  cases hb
theorem CellsOf.frame {w w' : World} {v : Value} {e : TypeId} (h : CellsOf w v e) (hb : ∀ b, v.ownBlock = some b → b < w.heap.size → w'.heap[b]? = w.heap[b]?) : CellsOf w' v e := fun b hv => by
  obtain ⟨C, fz, hC⟩ := h b hv
  exact ⟨C, fz, (hb b hv (block_lt hC)).trans hC⟩
/-- appends of one string -/
theorem infoStr : (Tryz.prog.info? 9).map (fun i => (i.zero, i.size, i.bytes)) = some (some (.string ⟨#[]⟩), 1, 16) := by kernel_rfl
theorem strOne_at (w : World) (s : List UInt8) : SliceAt (w.alloc (.cells #[.string ⟨s.toArray⟩] 9)) (.slice (some ⟨w.heap.size, 0, none⟩) 1 1) 1 1 (strsV [s]) := by
  refine ⟨rfl, _, 1, rfl, Nat.le_refl _, fun i hi => ⟨_, 0, rfl, ?_⟩⟩
  obtain rfl : i = 0 := by simp [strsV] at hi; omega
  rw [cell_new]
  rfl
theorem strsV_one (l : List (List UInt8)) : ∀ u ∈ strsV l, u.oneCell' = true := by
  intro u hu
  obtain ⟨s, -, rfl⟩ := List.mem_map.1 hu
  rfl
/-- an append to a slice of the call's own: the cells' type, and where it lies behind it -/
theorem run_append_own_srcA {P : Program} (w : World) (base : Nat) (t tx ty e : TypeId) (i : TypeInfo) (z : Value) (ht : P.underlying t = some (.slice e)) (hi : P.info? e = some i) (hz : i.zero = some z) (hzs : z.cells.size = i.size) (hsz : 0 < i.size)
    (v : Value) (n : Nat) (xs : List Value) (hown : OwnS w base i.size v n xs) (hT : CellsOf w v e) (x : Value) (m : Nat) (news : List Value) (hs : Src P i.size tx x m news w)
    (h63 : n + m ≤ maxLen) (hbytes : (n + m) * i.bytes ≤ 140737488355328) (hbase : base ≤ w.heap.size) :
    ∃ v' w', (Builtin.append_ #[t, tx] ty #[v, x]).run P w = .ok v' w' ∧ OwnS w' base i.size v' (n + m) (xs ++ news) ∧ w.grownBy w' v.ownBlock ∧ CellsOf w' v' e ∧ ∀ b, v'.ownBlock = some b → v.ownBlock = some b ∨ b = w.heap.size := by
  obtain ⟨v', w', hr, h1, h2, h3⟩ := run_append_own_srcT (P := P) w base t tx ty e i z ht hi hz hzs hsz v n xs hown hT x m news hs h63 hbytes hbase
  obtain ⟨v'', w'', hr', -, -, h3'⟩ := run_append_own_src (P := P) w base t tx ty e i z ht hi hz hzs hsz v n xs hown x m news hs h63 hbytes hbase
  have hw := hr'.symm.trans hr
  injection hw with e1 e2
  subst e1 e2
  refine ⟨_, _, hr, h1, h2, h3, fun b hb => ?_⟩
  rcases h3' with ⟨g, off, cap, rfl, rfl, -⟩ | rfl | ⟨cap, rfl, -⟩
  · exact .inl hb
  · simp [Value.ownBlock] at hb
  · right
    simpa [Value.ownBlock] using hb.symm
theorem wp_append_own_srcA {P : Program} {o : Oper} {a : Act} {K : Act → World → Prop} {Q : Exit → Act → World → Prop} {w : World} (s x : Operand) (t tx : TypeId)
    (ho : o.op = .call { callee := .builtin .append, args := #[s, x], argTypes := #[t, tx] })
    (base k : Nat) (e : TypeId) (i : TypeInfo) (z : Value) (ht : P.underlying t = some (.slice e)) (hi : P.info? e = some i) (hz : i.zero = some z) (hk : i.size = k) (hzs : z.cells.size = i.size) (hsz : 0 < i.size)
    (v : Value) (n : Nat) (xs : List Value) (hv : a.eval s = v) (hown : OwnS w base k v n xs) (hT : CellsOf w v e) (m : Nat) (news : List Value) (hs : Src P k tx (a.eval x) m news w)
    (h63 : n + m ≤ maxLen) (hbytes : (n + m) * i.bytes ≤ 140737488355328) (hbase : base ≤ w.heap.size)
    (h : ∀ v' w', OwnS w' base k v' (n + m) (xs ++ news) → w.grownBy w' v.ownBlock → CellsOf w' v' e → (∀ b, v'.ownBlock = some b → v.ownBlock = some b ∨ b = w.heap.size) → K (a.put o.dst v') w') : o.wp P a w K Q := by
  subst hk
  obtain ⟨v', w', hr, h1, h2, h3, h4⟩ := run_append_own_srcA (P := P) w base t tx o.type e i z ht hi hz hzs hsz v n xs hown hT (a.eval x) m news hs h63 hbytes hbase
  unfold Oper.wp execOp
  simp only [ho, resolve, invoke, builtin, Sem.run_bind, Sem.run_pure, Result.andThen_ok, List.map_toArray, List.map_cons, List.map_nil, hv, hr]
  exact h v' w' h1 h2 h3 h4
theorem step_append_strs {ops : Array Oper} {o : Oper} {a : Act} {K : Act → World → Prop} {Q : Exit → Act → World → Prop} {E : Prop} {w : World} (hgd : o.guard = none) (s x : Operand)
    (ho : o.op = .call { callee := .builtin .append, args := #[s, x], argTypes := #[28, 28] })
    (base : Nat) (v : Value) (n : Nat) (l : List (List UInt8)) (hn : n = l.length) (hv : a.eval s = v) (hown : OwnS w base 1 v n (strsV l)) (hT : CellsOf w v 9) (m : List (List UInt8)) (hs : SliceAt w (a.eval x) 1 m.length (strsV m))
    (hlen : n + m.length ≤ 8796093022208) (hbase : base ≤ w.heap.size)
    (h : ∀ v' w', OwnS w' base 1 v' (n + m.length) (strsV (l ++ m)) → w.grownBy w' v.ownBlock → CellsOf w' v' 9 → (∀ b, v'.ownBlock = some b → v.ownBlock = some b ∨ b = w.heap.size) →
      K (a.put o.dst v') w') : if Region.wanted o (yielded ops a.tmps) = true then Oper.wp Tryz.prog o a w K Q else E := by
  have hw : Region.wanted o (yielded ops a.tmps) = true := by simp [Region.wanted, hgd]
  rw [if_pos hw]
  obtain ⟨i0, hi, hz0, hz1, hz2⟩ := info_parts infoStr
  have hmx : maxLen = 9223372036854775807 := rfl
  refine wp_append_own_srcA s x _ _ ho base 1 9 i0 (.string ⟨#[]⟩) Tryz.underlying28 hi hz0 hz1 (by rw [hz1]; rfl) (by omega) v n (strsV l) hv hown hT m.length (strsV m) (SliceAt.src Tryz.underlying28 hs (strsV_one m)) (by omega) (by rw [hz2]; omega) hbase (fun v' w' h1 h2 h3 h4 => ?_)
  rw [← strsV_append] at h1
  exact h v' w' h1 h2 h3 h4
/-- what an operation on a datapath leaves -/
def DpPost (base h : Nat) (x : HV) (d' : DpS) (w : World) (e : Ending) (w' : World) : Prop := e = .returned (.tuple #[]) ∧ ∃ lv, DpAt w' base h { x with left := d'.left, dead := d'.dead, log := lv } d' ∧ Ext (fun i => i = h ∨ i = x.r ∨ x.log.ownBlock = some i) w w' ∧ ∀ i, lv.ownBlock = some i → x.log.ownBlock = some i ∨ w.heap.size ≤ i
set_option maxRecDepth 100000 in
set_option maxHeartbeats 4000000 in
theorem dpDrop_any (base h : Nat) (x : HV) (d : DpS) (t : Int) (kb : List UInt8) (w : World) (hd : DpAt w base h x d) (hb : base ≤ w.heap.size) (hll : d.log.length ≤ 8000000000000) (hk : kb.length ≤ maxB) :
    Calls Tryz.prog 242 #[.agg #[.pointer (some ⟨h, 0, none⟩)], .agg #[.int .i64 t, .string ⟨kb.toArray⟩]] w (DpPost base h x (d.drop (t, kb)) w) := by
  have hb0 : Below w.heap.size w ((w.alloc (.cells #[.pointer (some ⟨h, 0, none⟩)] 116)).alloc (.cells #[.int .i64 t, .string ⟨kb.toArray⟩] 103)) := ((Below.refl _ w).alloc (Nat.le_refl _) _).alloc (by simp) _
  have R0 := heap_old _ (.cells #[.int .i64 t, .string ⟨kb.toArray⟩] 103) (heap_new w (.cells #[.pointer (some ⟨h, 0, none⟩)] 116))
  have R1 := heap_new (w.alloc (.cells #[.pointer (some ⟨h, 0, none⟩)] 116)) (.cells #[.int .i64 t, .string ⟨kb.toArray⟩] 103)
  rw [World.size_alloc] at R1
  have rc := cell_of_row _ _ 0 _ _ _ R0
  obtain ⟨hrow, hleft, hdead, hroom, htab, hown, hltyp, hlo, hlb⟩ := hd
  have hlt := block_lt hrow
  have H0 := hrow.old (hb0.block h hlt)
  have HW := Lib.hid hb0
  have HK := Lib.hid (byteI_wrap t)
  have lo : -1 ≤ x.left := by omega
  have hi : x.left ≤ 9223372036854775807 := by omega
  have HST := Lib.hid (stopped_any h x _ H0 lo hi)
  have HNL := Lib.hid (hltyp.ne hrow (by decide))
  have HNR := Lib.hid (htab.ne_row hrow)
  have HNT := Lib.hid (hltyp.ne_tab htab)
  have HRLT : Hid (x.r < w.heap.size) := Lib.hid htab.lt
  have HLO := Lib.hid hlo
  have HLB := Lib.hid hlb
  have HL := Lib.hid hleft
  have HD := Lib.hid hdead
  have HRM := Lib.hid hroom
  have HT := Lib.hid htab
  have HO := Lib.hid hown
  have HTY := Lib.hid hltyp
  have HR0 := Lib.hid R0
  have HR1 := Lib.hid R1
  have HB := Lib.hid hb
  have HLL := Lib.hid hll
  have HROW := Lib.hid hrow
  clear hlo hlb hleft hdead hroom htab hown hltyp R0 R1 hb0 H0 lo hi hb hll hrow
  go_enter Tryz.func242, Tryz.ntmps242
  go_wp2_with fail
  refine HST.out.mono ?_
  rintro e w2 ⟨rfl, hh2, hsz2, hx2⟩
  have hne0 : w.heap.size ≠ h := by omega
  have hne1 : w.heap.size + 1 ≠ h := by omega
  have HR20 := Lib.hid (hx2.at hne0 HR0.out)
  have HR21 := Lib.hid (hx2.at hne1 HR1.out)
  have HH2 := Lib.hid hh2
  have HX2 := Lib.hid hx2
  have HS2 : Hid (w2.heap.size = w.heap.size + 2) := Lib.hid (by rw [hsz2]; simp)
  clear hh2 hx2 hsz2 rc hne0 hne1
  have rc := cell_of_row _ _ 0 _ _ _ HR20.out
  have HXH : Hid (Ext (fun i => i = h) w w2) := Lib.hid ((Ext.of_new HW.out).trans HX2.out)
  have HXW : Hid (Ext (fun i => i = h ∨ i = x.r ∨ x.log.ownBlock = some i) w w2) := Lib.hid (HXH.out.mono fun i e => .inl e)
  have HO2 : Hid (OwnS w2 base 1 x.log d.log.length (strsV d.log)) := Lib.hid (HO.out.frame HXH.out.size fun b e hb => HXH.out.block b hb fun e' => HNL.out (by rw [e, e']))
  have HTY2 : Hid (CellsOf w2 x.log 9) := Lib.hid (HTY.out.frame fun b e hb => HXH.out.block b hb fun e' => HNL.out (by rw [e, e']))
  have HT2 : Hid (TabAt w2 x.r d.S) := Lib.hid (HT.out.old (HXH.out.block _ HRLT.out (Ne.symm HNR.out)))
  have HSD : Hid (x.stop.dead = d.stop.dead ∧ x.stop.left = d.stop.left) := Lib.hid (by unfold HV.stop DpS.stop; rw [HL.out, HD.out]; exact ⟨rfl, rfl⟩)
  have HLB2 : Hid (-1 ≤ d.stop.left ∧ d.stop.left ≤ 9223372036854775807) := Lib.hid (by have := HLB.out; unfold DpS.stop; simp only; split <;> omega)
  cases hdd : x.stop.dead with
  | true =>
    go_wp2
    refine bodyPost_ret (results_none rfl _ _ _) rfl ?_
    have e : d.drop (t, kb) = d.stop := by unfold DpS.drop; rw [← HSD.out.1, hdd]; rfl
    refine ⟨rfl, x.log, ?_, HXW.out, fun i e => .inl e⟩
    rw [e, ← HSD.out.1, ← HSD.out.2]
    exact ⟨HH2.out, HSD.out.2, HSD.out.1, HRM.out, HT2.out, HO2.out, HTY2.out, HLO.out, HLB2.out⟩
  | false =>
    unfold HostIs HV.cells at *
    have c9 := cell_of_row _ _ 11 _ _ _ HH2.out
    have f9 := frozen_of_row _ _ 11 _ _ HH2.out
    have k0 := cell_of_row _ _ 0 _ _ _ HR21.out
    have k1 := cell_of_row _ _ 1 _ _ _ HR21.out
    have hl2 := block_lt HH2.out
    have hl0 := block_lt HR21.out
    have hl00 := block_lt HR20.out
    have HBY : Hid (BytesAt (w2.alloc (.cells #[.int .u8 (IntKind.u8.wrap t)] 5)) (.slice (some ⟨w2.heap.size, 0, none⟩) 1 1) [byteI t]) := Lib.hid (by rw [← HK.out]; exact one_at w2 (byteI t))
    go_wp2
    have hcv := BytesAt.convert (w := (w2.alloc (.cells #[.int .u8 (IntKind.u8.wrap t)] 5)).drew) (by exact HBY.out)
    have ha1 := fun W => str_add (P := Tryz.prog) [100, 114, 111, 112, 32] [byteI t] (by simp) W
    have ha2 := fun W => str_add (P := Tryz.prog) [100, 114, 111, 112, 32, byteI t] kb (by unfold maxB at hk; simp; omega) W
    have HAL := fun o o' => Lib.hid (Below.drew (Below.al (Below.al (Below.rf w2) o) o'))
    have HS1 := Lib.hid (strOne_at (w2.alloc (.cells #[.int .u8 (IntKind.u8.wrap t)] 5)) (100 :: 114 :: 111 :: 112 :: 32 :: byteI t :: kb))
    rw [World.size_alloc] at HS1
    rw [List.getElem?_toArray] at rc k0 k1
    simp only [List.getElem?_cons_zero, List.getElem?_cons_succ] at rc k0 k1
    simp only [List.getElem?_toArray, List.getElem?_cons_zero, List.getElem?_cons_succ] at c9
    have HSA := fun o => Lib.hid (show _ ∧ _ ∧ _ ∧ _ from ⟨cellAl o rc, cellAl o k0, cellAl o k1, cellAl o c9⟩)
    have HSB := fun o o' => Lib.hid (show _ ∧ _ ∧ _ ∧ _ from ⟨cellAl o' (cellAl o rc), cellAl o' (cellAl o k0), cellAl o' (cellAl o k1), cellAl o' (cellAl o c9)⟩)
    refine wp_region_last (n := 20) (S := fun w' => w'.cell? ⟨w.heap.size, 0, none⟩ = some (.pointer (some ⟨h, 0, none⟩)) ∧ w'.cell? ⟨w.heap.size + 1, 0, none⟩ = some (.int .i64 t) ∧ w'.cell? ⟨w.heap.size + 1, 1, none⟩ = some (.string ⟨kb.toArray⟩) ∧ w'.cell? ⟨h, 11, none⟩ = some x.stop.log) (by kernel_rfl) (by kernel_rfl) rfl (by first | exact ⟨rc, k0, k1, c9⟩ | exact (HSA _).out | exact (HSB _ _).out) ?_
    intro hSw0
    simp only [List.extract_toArray, List.extract_eq_take_drop, List.drop_zero, Nat.sub_zero, List.take_succ_cons, List.take_zero, Array.replicate_succ, Array.replicate_zero, List.push_toArray, List.append_toArray, List.nil_append, List.cons_append]
    refine wpAnyH_take (i := 0) (v := ?_) rfl (by kernel_rfl) (by kernel_rfl) (by kernel_rfl) (fun _ _ _ h => h) (Or.inl ⟨by rfl, ?_⟩) (by assumption) ?_
    rotate_left 1
    · (intro w hSw; (try dsimp only at hSw); go_simp; (try with_reducible rfl))
    try simp only [Act.put, List.setIfInBounds_toArray, List.set_cons_zero, List.set_cons_succ]
    refine wpAnyH_take (i := 1) (v := ?_) rfl (by kernel_rfl) (by kernel_rfl) (by kernel_rfl) (fun _ _ _ h => h) (Or.inl ⟨by rfl, ?_⟩) (by assumption) ?_
    rotate_left 1
    · (intro w hSw; (try dsimp only at hSw); go_simp; (try with_reducible rfl))
    try simp only [Act.put, List.setIfInBounds_toArray, List.set_cons_zero, List.set_cons_succ]
    refine wpAnyH_take (i := 2) (v := ?_) rfl (by kernel_rfl) (by kernel_rfl) (by kernel_rfl) (fun _ _ _ h => h) (Or.inl ⟨by rfl, ?_⟩) (by assumption) ?_
    rotate_left 1
    · (intro w hSw; (try dsimp only at hSw); go_simp; (try with_reducible rfl))
    try simp only [Act.put, List.setIfInBounds_toArray, List.set_cons_zero, List.set_cons_succ]
    refine wpAnyH_take (i := 3) (v := ?_) rfl (by kernel_rfl) (by kernel_rfl) (by kernel_rfl) (fun _ _ _ h => h) (Or.inl ⟨by rfl, ?_⟩) (by assumption) ?_
    rotate_left 1
    · (intro w hSw; (try dsimp only at hSw); go_simp; (try with_reducible rfl))
    try simp only [Act.put, List.setIfInBounds_toArray, List.set_cons_zero, List.set_cons_succ]
    refine wpAnyH_take (i := 4) (v := ?_) rfl (by kernel_rfl) (by kernel_rfl) (by kernel_rfl) (fun _ _ _ h => h) (Or.inl ⟨by rfl, ?_⟩) (by assumption) ?_
    rotate_left 1
    · (intro w hSw; (try dsimp only at hSw); go_simp; (try with_reducible rfl))
    try simp only [Act.put, List.setIfInBounds_toArray, List.set_cons_zero, List.set_cons_succ]
    refine wpAnyH_take (i := 5) (v := ?_) rfl (by kernel_rfl) (by kernel_rfl) (by kernel_rfl) (fun _ _ _ h => h) (Or.inl ⟨by rfl, ?_⟩) (by assumption) ?_
    rotate_left 1
    · (intro w hSw; (try dsimp only at hSw); go_simp; (try with_reducible rfl))
    try simp only [Act.put, List.setIfInBounds_toArray, List.set_cons_zero, List.set_cons_succ]
    refine wpAnyH_take (i := 6) (v := ?_) rfl (by kernel_rfl) (by kernel_rfl) (by kernel_rfl) (fun _ _ _ h => h) (Or.inl ⟨by rfl, ?_⟩) (by assumption) ?_
    rotate_left 1
    · (intro w hSw; (try dsimp only at hSw); go_simp; (try with_reducible rfl))
    try simp only [Act.put, List.setIfInBounds_toArray, List.set_cons_zero, List.set_cons_succ]
    refine wpAnyH_take (i := 7) (v := ?_) rfl (by kernel_rfl) (by kernel_rfl) (by kernel_rfl) (fun _ _ _ h => h) (Or.inl ⟨by rfl, ?_⟩) (by assumption) ?_
    rotate_left 1
    · (intro w hSw; (try dsimp only at hSw); go_simp; (try with_reducible rfl))
    try simp only [Act.put, List.setIfInBounds_toArray, List.set_cons_zero, List.set_cons_succ]
    refine wpAnyH_take (i := 8) (v := ?_) rfl (by kernel_rfl) (by kernel_rfl) (by kernel_rfl) (fun _ _ _ h => h) (Or.inl ⟨by rfl, ?_⟩) (by assumption) ?_
    rotate_left 1
    · (intro w hSw; (try dsimp only at hSw); go_simp; (try with_reducible rfl))
    try simp only [Act.put, List.setIfInBounds_toArray, List.set_cons_zero, List.set_cons_succ]
    refine wpAnyH_take (i := 9) (v := ?_) rfl (by kernel_rfl) (by kernel_rfl) (by kernel_rfl) (fun _ _ _ h => h) (Or.inl ⟨by rfl, ?_⟩) (by assumption) ?_
    rotate_left 1
    · (intro w hSw; (try dsimp only at hSw); go_simp; (try with_reducible rfl))
    try simp only [Act.put, List.setIfInBounds_toArray, List.set_cons_zero, List.set_cons_succ]
    refine wpAnyH_take (i := 13) (v := ?_) rfl (by kernel_rfl) (by kernel_rfl) (by kernel_rfl) (fun _ _ _ h => h) (Or.inl ⟨by rfl, ?_⟩) (by assumption) ?_
    rotate_left 1
    · (intro w hSw; (try dsimp only at hSw); go_simp; (try with_reducible rfl))
    try simp only [Act.put, List.setIfInBounds_toArray, List.set_cons_zero, List.set_cons_succ]
    refine wpAnyH_take (i := 14) (v := ?_) rfl (by kernel_rfl) (by kernel_rfl) (by kernel_rfl) (fun _ _ _ h => h) (Or.inl ⟨by rfl, ?_⟩) (by assumption) ?_
    rotate_left 1
    · (intro w hSw; (try dsimp only at hSw); go_simp; (try with_reducible rfl))
    try simp only [Act.put, List.setIfInBounds_toArray, List.set_cons_zero, List.set_cons_succ]
    refine wpAnyH_ready (rs := [10]) (by kernel_rfl) (by simp) ?_
    refine AllReadyH.cons rfl ?_ AllReadyH.nil
    intro K' hK'
    go_simp
    refine hK'.out _ _ (by first | exact ⟨rc, k0, k1, c9⟩ | exact (HSA _).out | exact (HSB _ _).out) ?_
    clear hK' K'
    intro hSw1
    try simp only [Act.put, List.setIfInBounds_toArray, List.set_cons_zero, List.set_cons_succ]
    refine wpAnyH_ready (rs := [11]) (by kernel_rfl) (by simp) ?_
    refine AllReadyH.cons rfl ?_ AllReadyH.nil
    intro K' hK'
    go_simp
    refine hK'.out _ _ (by first | exact ⟨rc, k0, k1, c9⟩ | exact (HSA _).out | exact (HSB _ _).out) ?_
    clear hK' K'
    intro hSw2
    try simp only [Act.put, List.setIfInBounds_toArray, List.set_cons_zero, List.set_cons_succ]
    refine wpAnyH_take (i := 12) (v := ?_) rfl (by kernel_rfl) (by kernel_rfl) (by kernel_rfl) (fun _ _ _ h => h) (Or.inl ⟨by rfl, ?_⟩) (by assumption) ?_
    rotate_left 1
    · (intro w hSw; (try dsimp only at hSw); go_simp; (try with_reducible rfl))
    try simp only [Act.put, List.setIfInBounds_toArray, List.set_cons_zero, List.set_cons_succ]
    refine wpAnyH_take (i := 15) (v := ?_) rfl (by kernel_rfl) (by kernel_rfl) (by kernel_rfl) (fun _ _ _ h => h) (Or.inl ⟨by rfl, ?_⟩) (by assumption) ?_
    rotate_left 1
    · (intro w hSw; (try dsimp only at hSw); go_simp; (try with_reducible rfl))
    try simp only [Act.put, List.setIfInBounds_toArray, List.set_cons_zero, List.set_cons_succ]
    refine wpAnyH_ready (rs := [16]) (by kernel_rfl) (by simp) ?_
    refine AllReadyH.cons rfl ?_ AllReadyH.nil
    intro K' hK'
    go_simp
    refine hK'.out _ _ (by first | exact ⟨rc, k0, k1, c9⟩ | exact (HSA _).out | exact (HSB _ _).out) ?_
    clear hK' K'
    intro hSw3
    try simp only [Act.put, List.setIfInBounds_toArray, List.set_cons_zero, List.set_cons_succ]
    refine wpAnyH_ready (rs := [17]) (by kernel_rfl) (by simp) ?_
    refine AllReadyH.cons rfl ?_ AllReadyH.nil
    intro K' hK'
    refine step_append_strs rfl (.tmp 13) (.tmp 23) rfl base _ _ d.log rfl rfl (by exact HO2.out.below (HAL _ _).out) (by exact HTY2.out.frame fun b _ hb => (HAL _ _).out.block b hb) [dropText (t, kb)] (by exact HS1.out) (by have := HLL.out; simp; omega) (by have := HB.out; have := HS2.out; simp; omega) ?_; intro v3 w3 hown3 hg3 hty3 hb3; obtain ⟨sa3, cap3, rfl⟩ := hown3.shape; have HH3 := Lib.hid (grown_at hg3 HNL.out (heap_old _ (.cells #[.string ⟨(100 :: 114 :: 111 :: 112 :: 32 :: byteI t :: kb).toArray⟩] 9) (heap_old _ (.cells #[.int .u8 (IntKind.u8.wrap t)] 5) HH2.out))); have HR3 := Lib.hid (grown_at hg3 (HTY2.out.ne HR20.out (by decide)) (heap_old _ (.cells #[.string ⟨(100 :: 114 :: 111 :: 112 :: 32 :: byteI t :: kb).toArray⟩] 9) (heap_old _ (.cells #[.int .u8 (IntKind.u8.wrap t)] 5) HR20.out))); have HK3 := Lib.hid (grown_at hg3 (HTY2.out.ne HR21.out (by decide)) (heap_old _ (.cells #[.string ⟨(100 :: 114 :: 111 :: 112 :: 32 :: byteI t :: kb).toArray⟩] 9) (heap_old _ (.cells #[.int .u8 (IntKind.u8.wrap t)] 5) HR21.out))); refine hK'.out _ _ ⟨cell_of_row _ _ 0 _ _ _ HR3.out, cell_of_row _ _ 0 _ _ _ HK3.out, cell_of_row _ _ 1 _ _ _ HK3.out, cell_of_row _ _ 11 _ _ _ HH3.out⟩ ?_
    clear hK' K'
    intro hSw4
    try simp only [Act.put, List.setIfInBounds_toArray, List.set_cons_zero, List.set_cons_succ]
    refine wpAnyH_take (i := 18) (v := ?_) rfl (by kernel_rfl) (by kernel_rfl) (by kernel_rfl) (fun _ _ _ h => h) (Or.inl ⟨by rfl, ?_⟩) (by assumption) ?_
    rotate_left 1
    · (intro w hSw; (try dsimp only at hSw); go_simp; (try with_reducible rfl))
    try simp only [Act.put, List.setIfInBounds_toArray, List.set_cons_zero, List.set_cons_succ]
    refine wpAnyH_take (i := 19) (v := ?_) rfl (by kernel_rfl) (by kernel_rfl) (by kernel_rfl) (fun _ _ _ h => h) (Or.inl ⟨by rfl, ?_⟩) (by assumption) ?_
    rotate_left 1
    · (intro w hSw; (try dsimp only at hSw); go_simp; (try with_reducible rfl))
    try simp only [Act.put, List.setIfInBounds_toArray, List.set_cons_zero, List.set_cons_succ]
    refine wpAnyH_done (by kernel_rfl) ?_ _
    show Oper.wp _ _ _ _ _ _
    have e9 := cell_of_row _ _ 11 _ _ _ HH3.out
    have g9 := frozen_of_row _ _ 11 _ _ HH3.out
    have hl3 := block_lt HH3.out
    have HOB3 : Hid (∀ i, (Value.slice sa3 (d.log.length + 1) cap3).ownBlock = some i → x.log.ownBlock = some i ∨ w.heap.size ≤ i) := Lib.hid (fun i e => (hb3 i e).imp id fun e' => by have := HS2.out; rw [e']; simp; omega)
    have HSZ : Hid (w2.heap.size ≤ w3.heap.size) := Lib.hid (by have := hg3.size; simp at this; omega)
    have HN3 := Lib.hid (hty3.ne HH3.out (by decide))
    have HT3 : Hid (TabAt w3 x.r d.S) := Lib.hid (HT2.out.old ((hg3.block _ (by simp; have := HT2.out.lt; omega) (fun e => HNT.out e.symm)).trans ((heap_alloc_old _ _ (by simp; have := HT2.out.lt; omega)).trans (heap_alloc_old _ _ HT2.out.lt))))
    have HNT3 := Lib.hid (hty3.ne_tab HT3.out)
    have HO3 := Lib.hid hown3
    have HTY3 := Lib.hid hty3
    have HX3 : Hid (Ext (fun i => x.log.ownBlock = some i) w2 w3) := Lib.hid ⟨hg3.os, hg3.tape, hg3.output, HSZ.out, fun i hi hne => (hg3.block i (by simp; omega) (fun e => hne e.symm)).trans ((heap_alloc_old _ _ (by simp; omega)).trans (heap_alloc_old _ _ hi))⟩
    clear hown3 hg3 hty3 hb3
    go_wp2
    obtain ⟨w4, hw4⟩ : ∃ w4, w4 = w3.setCell ⟨h, 11, none⟩ (.slice sa3 (d.log.length + 1) cap3) := ⟨_, rfl⟩
    rw [← hw4]
    have hoff : ∀ j, j ≠ h → w4.heap[j]? = w3.heap[j]? := fun j hj => by rw [hw4]; exact Below.heap_setCell _ ⟨h, 11, none⟩ _ j hj
    have HSZ4 : Hid (w4.heap.size = w3.heap.size) := Lib.hid (by rw [hw4, size_setCell])
    have HH4 : Hid (HostIs w4 h { x.stop with log := .slice sa3 (d.log.length + 1) cap3 }) := Lib.hid (by rw [hw4]; exact heap_setCell _ _ 11 _ HH3.out)
    have HR4 := Lib.hid ((hoff _ (by omega : w.heap.size ≠ h)).trans HR3.out)
    have HK4 := Lib.hid ((hoff _ (by omega : w.heap.size + 1 ≠ h)).trans HK3.out)
    have HT4 : Hid (TabAt w4 x.r d.S) := Lib.hid (HT3.out.old (hoff _ (Ne.symm HNR.out)))
    have HO4 := Lib.hid (HO3.out.frame (w' := w4) (by have := HSZ4.out; omega) fun b e _ => hoff b fun e' => HN3.out (by rw [e, e']))
    have HTY4 := Lib.hid (HTY3.out.frame (w' := w4) fun b e _ => hoff b fun e' => HN3.out (by rw [e, e']))
    have HX4 : Hid (Ext (fun i => i = h ∨ i = x.r ∨ x.log.ownBlock = some i) w w4) := Lib.hid (by rw [hw4]; exact (HXW.out.trans (HX3.out.mono fun i e => .inr (.inr e))).setCell _ _ (.inl (.inl rfl)))
    clear hw4 hoff rc k0 k1 c9 f9 e9 g9
    unfold HostIs HV.cells at *
    have q0 := cell_of_row _ _ 0 _ _ _ HR4.out
    have k0 := cell_of_row _ _ 0 _ _ _ HK4.out
    have k1 := cell_of_row _ _ 1 _ _ _ HK4.out
    have c8 := cell_of_row _ _ 10 _ _ _ HH4.out
    simp only [List.getElem?_toArray, List.getElem?_cons_zero, List.getElem?_cons_succ] at q0 k0 k1 c8
    have c10 : w4.cell? ⟨h, 10, none⟩ = some (.map (some x.r)) := c8
    clear c8
    obtain ⟨W1, hu, ht5, hg5, hs5⟩ := TabAt.drop (w := w4) HT4.out (mt := 123) Tryz.underlying123 (t, kb) 103 0
    have hu1 := hu 1
    have hdr : ∀ w : World, w.drewN 1 = w.drew := fun _ => rfl
    rw [hdr, hdr] at hu1
    simp only [kV, keyV] at hu1
    have HT5 := Lib.hid ht5
    have HG5 := Lib.hid hg5
    have hl4 := block_lt HH4.out
    have hl40 := block_lt HR4.out
    have hl41 := block_lt HK4.out
    clear hu hdr ht5 hg5 hs5 hcv ha1 ha2 hSw0 hSw1 hSw2 hSw3 hSw4
    go_region
    go_wp2
    go_end0
    have e : d.drop (t, kb) = { d.stop with S := dropS (t, kb) d.S, log := d.log ++ [dropText (t, kb)] } := by unfold DpS.drop; rw [← HSD.out.1, hdd]; rfl
    refine ⟨rfl, .slice sa3 (d.log.length + 1) cap3, ?_, ?_, HOB3.out⟩
    · rw [e]
      have hne : ∀ b, (Value.slice sa3 (d.log.length + 1) cap3).ownBlock = some b → b ≠ x.r := fun b e1 e2 => HNT3.out (by rw [← e2]; exact e1)
      have hkeep : ∀ j, j ≠ x.r → j < w4.heap.size → W1.heap[j]? = w4.heap[j]? := fun j hj hlt => HG5.out.block j hlt (fun e => hj (by cases e; rfl))
      refine ⟨?_, rfl, rfl, HRM.out, HT5.out.old rfl, ?_, ?_, HLO.out, HLB2.out⟩
      · show W1.heap[h]? = _
        rw [hkeep h HNR.out hl4]
        have := HH4.out
        simp only [HSD.out.1, HSD.out.2] at this ⊢
        exact this
      · have h1 := HO4.out.frame (w' := W1) HG5.out.size fun b e hb => hkeep b (hne b e) hb
        rw [strsV_append] at h1
        show OwnS W1 base 1 _ (d.log ++ [dropText (t, kb)]).length (strsV (d.log ++ [dropText (t, kb)]))
        rw [strsV_append, List.length_append]
        exact h1
      · exact HTY4.out.frame (w' := W1) fun b e hb => hkeep b (hne b e) hb
    · refine (HX4.out.trans' (T := fun i => i = x.r) (c := W1.drew) ⟨HG5.out.os, HG5.out.tape, HG5.out.output, HG5.out.size, fun k hk hne => HG5.out.block k hk fun e => hne (by cases e; rfl)⟩ fun i e => .inl (.inr (.inl e)))
end Go.Proofs.YtkkfmkhbdoeglabGreatDoor
