/- A part of what is proved here: lemmas and contracts of single functions. No condition but those that each names. -/
import Derived.Test.YtkkfmkhbdoeglabGreatDoorG12
import Derived.Test.YtkkfmkhbdoeglabGreatDoorG13
import Derived.Test.YtkkfmkhbdoeglabGreatDoorG14
import Derived.Test.YtkkfmkhbdoeglabGreatDoorG21
import Derived.Test.YtkkfmkhbdoeglabGreatDoorG26
import Derived.Test.YtkkfmkhbdoeglabGreatDoorG29
import Derived.Test.YtkkfmkhbdoeglabGreatDoorG30
import Derived.Test.YtkkfmkhbdoeglabGreatDoorG31
import Derived.Test.YtkkfmkhbdoeglabGreatDoorG32
namespace Go.Proofs.YtkkfmkhbdoeglabGreatDoor
open Go.RowKit
/-- an entry as package overlayref's -/
def entV (x : E) : Value := .agg #[.int .i64 x.1.1, .string ⟨x.1.2.toArray⟩, .string ⟨x.2.toArray⟩]
theorem infoREntry : (Tryz.prog.info? 108).map (fun i => (i.zero, i.size, i.bytes)) = some (some (.agg #[.int .i64 0, .string ⟨#[]⟩, .string ⟨#[]⟩]), 3, 40) := by kernel_rfl
theorem EntsAt.src {w : World} {v : Value} {l : List E} (h : EntsAt w v l) : Src Tryz.prog 3 25 v l.length (entCells l) w := SliceAt.src Tryz.underlying25 h (entCells_one l)
theorem oneEnt_at (w : World) (x : E) : EntsAt (w.alloc (.cells #[.int .i64 x.1.1, .string ⟨x.1.2.toArray⟩, .string ⟨x.2.toArray⟩] 108)) (.slice (some ⟨w.heap.size, 0, none⟩) 1 1) [x] := by
  refine ⟨rfl, _, _, rfl, Nat.le_refl _, fun i hi => ⟨w.heap.size, 0, rfl, ?_⟩⟩
  rw [Nat.zero_add, cell_new]
  have hi' : i < 3 := hi
  have : i = 0 ∨ i = 1 ∨ i = 2 := by omega
  rcases this with rfl | rfl | rfl <;> rfl
theorem apart_of3 {w w' : World} {k n : Nat} {v v' : Value} {news : List Value}
    (h3 : (∃ g off cap, v = .slice (some ⟨g, off, none⟩) n cap ∧ v' = .slice (some ⟨g, off, none⟩) (n + k) cap ∧ w' = w.setCells g (off + n * 3) news) ∨ v' = .slice none 0 0 ∨ ∃ cap, v' = .slice (some ⟨w.heap.size, 0, none⟩) (n + k) cap ∧ Below w.heap.size w w') :
    ∀ b, b < w.heap.size → v.ownBlock ≠ some b → v'.ownBlock ≠ some b := by
  intro b hb hne
  rcases h3 with ⟨g, off, cap, rfl, rfl, _⟩ | rfl | ⟨cap, rfl, _⟩
  · exact hne
  · simp [Value.ownBlock]
  · simp [Value.ownBlock]; omega
/-- an append of entries -/
theorem wpList_append_ents {ops : Array Oper} {rest : List Oper} {o : Oper} {a : Act} {Q : Exit → Act → World → Prop} {w : World} (hgd : o.guard = none) (s x : Operand)
    (ho : o.op = .call { callee := .builtin .append, args := #[s, x], argTypes := #[25, 25] })
    (base : Nat) (v : Value) (os : List E) (hv : a.eval s = v) (hown : OwnS w base 3 v os.length (entCells os)) (us : List E) (hs : EntsAt w (a.eval x) us)
    (hlen : os.length + us.length ≤ 2932031007402) (hbase : base ≤ w.heap.size)
    (h : ∀ v' w', OwnS w' base 3 v' (os ++ us).length (entCells (os ++ us)) → w.grownBy w' v.ownBlock → Below base w w' → (∀ b, b < w.heap.size → v.ownBlock ≠ some b → v'.ownBlock ≠ some b) →
      wpList Tryz.prog ops Q rest (a.put o.dst v') w') : wpList Tryz.prog ops Q (o :: rest) a w := by
  obtain ⟨i0, hi, hz0, hz1, hz2⟩ := info_parts infoREntry
  have hmx : maxLen = 9223372036854775807 := rfl
  refine wpList_append_own_src hgd s x _ _ ho base 3 108 i0 _ Tryz.underlying25 hi hz0 hz1 (by rw [hz1]; rfl) (by omega) v os.length (entCells os) hv hown us.length (entCells us) hs.src (by omega) (by rw [hz2]; omega) hbase (fun v' w' h1 h2 h3 => ?_)
  rw [← entCells_append, ← List.length_append] at h1
  exact h v' w' h1 h2 (below_of_grown hown h2 hbase) (apart_of3 h3)
theorem less_any (x y : E) (w : World) : Calls Tryz.prog 100 #[entV x, entV y] w fun e w' => e = .returned (.bool (ltK x.1 y.1)) ∧ Below w.heap.size w w' := by
  obtain ⟨⟨T, KB⟩, VB⟩ := x
  obtain ⟨⟨U, KC⟩, VC⟩ := y
  unfold entV
  have hb : Below w.heap.size w ((w.alloc (.cells #[.int .i64 T, .string ⟨KB.toArray⟩, .string ⟨VB.toArray⟩] 108)).alloc (.cells #[.int .i64 U, .string ⟨KC.toArray⟩, .string ⟨VC.toArray⟩] 108)) := ((Below.refl _ w).alloc (Nat.le_refl _) _).alloc (by simp) _
  rcases Int.lt_trichotomy T U with h | h | h
  · have HC : Hid (ltK (T, KB) (U, KC) = true) := Lib.hid (by simp [ltK, h])
    go_enter Tryz.func100, Tryz.ntmps100
    go_wp2
    go_ret
    exact ⟨by rw [HC.out]; rfl, hb⟩
  · subst h
    have hbl : Op.bytesLess KB KC = decide (KB < KC) := bytesLess_eq _ _
    cases hd : decide (KB < KC) with
    | true =>
      have HC : Hid (ltK (T, KB) (T, KC) = true) := Lib.hid (by simpa [ltK] using hd)
      rw [hd] at hbl
      clear hd
      go_enter Tryz.func100, Tryz.ntmps100
      go_wp2
      go_ret
      exact ⟨by rw [HC.out]; rfl, hb⟩
    | false =>
      have HC : Hid (ltK (T, KB) (T, KC) = false) := Lib.hid (by simpa [ltK] using hd)
      rw [hd] at hbl
      clear hd
      go_enter Tryz.func100, Tryz.ntmps100
      go_wp2
      go_ret
      exact ⟨by rw [HC.out]; rfl, hb⟩
  · have h' : ¬ T < U := by omega
    have h'' : ¬ T = U := by omega
    have HC : Hid (ltK (T, KB) (U, KC) = false) := Lib.hid (by simp [ltK, h', h''])
    clear h
    go_enter Tryz.func100, Tryz.ntmps100
    go_wp2
    go_ret
    exact ⟨by rw [HC.out]; rfl, hb⟩
/-- one step of With, in plain data: what has come out, and whether y is in -/
def withStep (y : E) (st : List E × Bool) (x : E) : List E × Bool :=
  if x.1 = y.1 then st else if st.2 = false ∧ ltK y.1 x.1 = true then (st.1 ++ [y] ++ [x], true) else (st.1 ++ [x], st.2)
def withFold (y : E) (gone : Bool) (l : List E) : List E × Bool := l.foldl (withStep y) ([], gone)
def withB (l : List E) (y : E) (gone : Bool) : List E := if (withFold y gone l).2 then (withFold y gone l).1 else (withFold y gone l).1 ++ [y]
theorem withFold_take (y : E) (gone : Bool) (l : List E) (k : Nat) (h : k < l.length) : withFold y gone (l.take (k + 1)) = withStep y (withFold y gone (l.take k)) l[k] := by
  unfold withFold
  rw [List.take_succ_eq_append_getElem h, List.foldl_append]
  rfl
theorem withStep_length (y : E) (st : List E × Bool) (x : E) : (withStep y st x).1.length ≤ st.1.length + 2 := by
  unfold withStep
  split
  · omega
  · split <;> simp
theorem withFold_length (y : E) (gone : Bool) (l : List E) : (withFold y gone l).1.length ≤ 2 * l.length := by
  have : ∀ (l : List E) (st : List E × Bool), (l.foldl (withStep y) st).1.length ≤ st.1.length + 2 * l.length := by
    intro l
    induction l with
    | nil => intro st; simp
    | cons x l ih =>
      intro st
      have h1 := ih (withStep y st x)
      have h2 := withStep_length y st x
      rw [List.foldl_cons, List.length_cons]
      omega
  have := this l ([], gone)
  simpa [withFold] using this
/-- behind k rounds of With -/
def WithRel (w1 : World) (y : E) (gone : Bool) (l : List E) (ov iv i : Value) (wr : World) : Prop :=
  ∃ k, k ≤ l.length ∧ i = .int .i64 (k : Int) ∧ iv = .bool (withFold y gone (l.take k)).2 ∧ OwnS wr w1.heap.size 3 ov (withFold y gone (l.take k)).1.length (entCells (withFold y gone (l.take k)).1) ∧ Below w1.heap.size w1 wr
theorem OwnS.dAlloc {w : World} {base k : Nat} {v : Value} {n : Nat} {xs : List Value} (h : OwnS w base k v n xs) (q : Nat) (o : Obj) : OwnS ((w.drewN q).alloc o) base k v n xs := OwnS.below (w := w.drewN q) h ((Below.refl _ _).alloc (Nat.le_refl _) _)
theorem WithRel.next {w1 W : World} {y : E} {gone inn : Bool} {l os : List E} {ov : Value} {k : Nat} (hk : k < l.length) (hs : withFold y gone (l.take (k + 1)) = (os, inn)) (ho : OwnS W w1.heap.size 3 ov os.length (entCells os)) (hb : Below w1.heap.size w1 W) :
    WithRel w1 y gone l ov (.bool inn) (.int .i64 ((k : Int) + 1)) W :=
  ⟨k + 1, by omega, rfl, by rw [hs], by rw [hs]; exact ho, hb⟩
set_option maxRecDepth 100000 in
set_option maxHeartbeats 1000000 in
theorem refWith_any (v : Value) (l : List E) (y : E) (gone : Bool) (w : World) (h : EntsAt w v l) (hl : l.length ≤ 1000000000) :
    Calls Tryz.prog 55 #[v, entV y, .bool gone] w fun e w' => ∃ v', e = .returned v' ∧ OwnS w' w.heap.size 3 v' (withB l y gone).length (entCells (withB l y gone)) ∧ Below w.heap.size w w' := by
  obtain ⟨a, cap, rfl, -, -⟩ := h.opened
  have hb1 : Below w.heap.size w (w.alloc (.cells #[.int .i64 y.1.1, .string ⟨y.1.2.toArray⟩, .string ⟨y.2.toArray⟩] 108)) := (Below.refl _ w).alloc (Nat.le_refl _) _
  have HE1 := Lib.hid (h.below hb1)
  have B1 := Lib.hid (heap_new w (.cells #[.int .i64 y.1.1, .string ⟨y.1.2.toArray⟩, .string ⟨y.2.toArray⟩] 108))
  obtain ⟨⟨U, KC⟩, VC⟩ := y
  unfold entV
  clear h
  go_enter Tryz.func55, Tryz.ntmps55
  go_wp2
  have s1 := World.size_alloc w (.cells #[.int .i64 U, .string ⟨KC.toArray⟩, .string ⟨VC.toArray⟩] 108)
  generalize hw1 : w.alloc (.cells #[.int .i64 U, .string ⟨KC.toArray⟩, .string ⟨VC.toArray⟩] 108) = w1 at *
  clear hw1
  go_loopw [7, 8, 9] (fun ov iv i wr => WithRel w1 ((U, KC), VC) gone l ov iv i wr) (fun _ _ i _ => l.length - (intOf i).toNat)
  case atStart => exact ⟨0, Nat.zero_le _, rfl, rfl, OwnS.nil _ _ _, Below.refl _ _⟩
  case round =>
    obtain ⟨k, hk, rfl, rfl, hown, hbr⟩ := hrel
    obtain ⟨oa, ocap, rfl⟩ := hown.shape
    have b0 := below_at hbr (by omega) B1.out
    have u0 := cell_of_row _ _ 0 _ _ _ b0
    have u1 := cell_of_row _ _ 1 _ _ _ b0
    have u2 := cell_of_row _ _ 2 _ _ _ b0
    have lu := block_lt b0
    have hol := withFold_length ((U, KC), VC) gone (l.take k)
    rw [List.length_take] at hol
    obtain ⟨st, hst⟩ : ∃ st, st = withFold ((U, KC), VC) gone (l.take k) := ⟨_, rfl⟩
    rw [← hst] at hown hol ⊢
    have HST := Lib.hid hst
    obtain ⟨os, inn⟩ := st
    simp only at hown hol ⊢
    have hsr := hbr.size
    clear hst
    by_cases hlt : k < l.length
    · have hlt' : (k : Int) < l.length := by omega
      have HN := Lib.hid (withFold_take ((U, KC), VC) gone l k hlt)
      obtain ⟨a', cap', he, -, hx⟩ := HE1.out.opened
      cases he
      obtain ⟨eb, eo, rfl, X0, X1, X2⟩ := hx k hlt
      generalize hlk : l[k] = x at *
      obtain ⟨⟨T, KB⟩, VB⟩ := x
      simp only at X0 X1 X2
      have lx1 : eb < w1.heap.size := cell_lt X0
      have x0 := (hbr.cell (p := ⟨eb, eo + k * 3, none⟩) lx1).trans X0
      have x1 := (hbr.cell (p := ⟨eb, eo + k * 3 + 1, none⟩) lx1).trans X1
      have x2 := (hbr.cell (p := ⟨eb, eo + k * 3 + 2, none⟩) lx1).trans X2
      have X0 := Lib.hid X0
      have X1 := Lib.hid X1
      have X2 := Lib.hid X2
      have lx := cell_lt x0
      clear hx hlk
      have hnx : ∀ (os' : List E) (inn' : Bool) (ov' : Value) (W : World), withFold ((U, KC), VC) gone (l.take (k + 1)) = (os', inn') → OwnS W w1.heap.size 3 ov' os'.length (entCells os') → Below w1.heap.size w1 W → WithRel w1 ((U, KC), VC) gone l ov' (.bool inn') (.int .i64 ((k : Int) + 1)) W :=
        fun os' inn' ov' W h1 h2 h3 => WithRel.next hlt h1 h2 h3
      have HNX := Lib.hid hnx
      clear hnx
      have hne : (T = U ∧ KB = KC) ∨ (T ≠ U ∨ (T = U ∧ (KB == KC) = false)) := by
        by_cases hT : T = U
        · cases hq : (KB == KC) with
          | true => exact .inl ⟨hT, beq_iff_eq.1 hq⟩
          | false => exact .inr (.inr ⟨hT, rfl⟩)
        · exact .inr (.inl hT)
      rcases hne with ⟨hT, hk⟩ | hne
      · have HS : Hid (withFold ((U, KC), VC) gone (l.take (k + 1)) = (os, inn)) := Lib.hid (by rw [HN.out, ← HST.out]; unfold withStep; rw [if_pos (by rw [hT, hk])])
        have hq : (KB == KC) = true := beq_iff_eq.2 hk
        clear hk
        go_wp2
        go_quiet (fail)
        go_wp2
        exact ⟨HNX.out _ _ _ _ HS.out hown (hbr.drewN nq), by simp [intOf]; omega⟩
      · have HNE : Hid (¬ (((T, KB), VB) : E).1 = (U, KC)) := Lib.hid (by
          intro e
          obtain ⟨e1, e2⟩ := Prod.mk.inj e
          rcases hne with h | ⟨-, h⟩
          · exact h e1
          · rw [e2] at h; simp at h)
        rcases hne with hT | ⟨hT, hq⟩
        all_goals
          go_wp2
          go_quiet (fail)
          clear hT
          cases inn with
          | true =>
            have HS : Hid (withFold ((U, KC), VC) gone (l.take (k + 1)) = (os ++ [((T, KB), VB)], true)) := Lib.hid (by rw [HN.out, ← HST.out]; unfold withStep; rw [if_neg HNE.out, if_neg (by simp)])
            go_wp2
            go_quiet (fail)
            go_wp2_with (at_builtin; refine wpList_append_ents rfl (.tmp 49) (.tmp 54) rfl w1.heap.size (.slice oa os.length ocap) os rfl (by exact OwnS.dAlloc hown _ _) [((T, KB), VB)] (by exact oneEnt_at _ ((T, KB), VB)) (by simp; omega) (by simp; omega) ?_; intro v8 w8 hown8 hg8 hb8 hap8; obtain ⟨sa8, cap8, rfl⟩ := hown8.shape)
            exact ⟨HNX.out _ _ _ _ HS.out (by simpa using hown8) ((hbr.drewN _ |>.alloc hsr _).trans hb8), by simp [intOf]; omega⟩
          | false =>
            have hbq : Below wr.heap.size wr (wr.drewN nq) := (Below.refl _ wr).drewN nq
            have u0q := (hbq.cell (p := ⟨w.heap.size, 0, none⟩) lu).trans u0
            have u1q := (hbq.cell (p := ⟨w.heap.size, 1, none⟩) lu).trans u1
            have u2q := (hbq.cell (p := ⟨w.heap.size, 2, none⟩) lu).trans u2
            have x0q := (hbq.cell (p := ⟨eb, eo + k * 3, none⟩) lx).trans x0
            have x1q := (hbq.cell (p := ⟨eb, eo + k * 3 + 1, none⟩) lx).trans x1
            have x2q := (hbq.cell (p := ⟨eb, eo + k * 3 + 2, none⟩) lx).trans x2
            have sq : (wr.drewN nq).heap.size = wr.heap.size := rfl
            have hownq := hown.below hbq
            have hbrq := hbr.drewN nq
            clear hbq hown u0 u1 u2 x0 x1 x2 b0
            generalize wr.drewN nq = wq at *
            have lxq : eb < wq.heap.size := by omega
            have luq : w.heap.size < wq.heap.size := by omega
            go_wp2_with fail
            refine wp_region_still_tail 8 (by kernel_rfl) (by kernel_rfl) ?_
            simp only [List.take_succ_cons, List.take_zero, List.drop_succ_cons, List.drop_zero]
            repeat still_step
            refine wpStill_nil ?_
            go_wp2_with fail
            refine (less_any ((U, KC), VC) ((T, KB), VB) _).mono ?_
            rintro e w7 ⟨rfl, hb7⟩
            have hb7' : Below wq.heap.size wq w7 := ((Below.refl wq.heap.size wq).drew).trans hb7
            have hown7 := hownq.below hb7'
            have v0 := (hb7'.cell (p := ⟨w.heap.size, 0, none⟩) luq).trans u0q
            have v1 := (hb7'.cell (p := ⟨w.heap.size, 1, none⟩) luq).trans u1q
            have v2 := (hb7'.cell (p := ⟨w.heap.size, 2, none⟩) luq).trans u2q
            have y0 := (hb7'.cell (p := ⟨eb, eo + k * 3, none⟩) lxq).trans x0q
            have y1 := (hb7'.cell (p := ⟨eb, eo + k * 3 + 1, none⟩) lxq).trans x1q
            have y2 := (hb7'.cell (p := ⟨eb, eo + k * 3 + 2, none⟩) lxq).trans x2q
            have hs7 := hb7'.size
            have lu7 : w.heap.size < w7.heap.size := by omega
            have lx7 : eb < w7.heap.size := by omega
            have hbr7 : Below w1.heap.size w1 w7 := hbrq.trans (hb7'.mono hbrq.size)
            clear hb7 hb7' hownq u0q u1q u2q x0q x1q x2q
            cases hd : ltK (U, KC) (T, KB) with
            | false =>
              have HS : Hid (withFold ((U, KC), VC) gone (l.take (k + 1)) = (os ++ [((T, KB), VB)], false)) := Lib.hid (by rw [HN.out, ← HST.out]; unfold withStep; rw [if_neg HNE.out, if_neg (by simp [hd])])
              go_wp2_with (at_builtin; refine wpList_append_ents rfl (.tmp 49) (.tmp 54) rfl w1.heap.size (.slice oa os.length ocap) os rfl (by exact hown7.below ((Below.refl _ w7).alloc (Nat.le_refl _) _)) [((T, KB), VB)] (by exact oneEnt_at _ ((T, KB), VB)) (by simp; omega) (by simp; omega) ?_; intro v8 w8 hown8 hg8 hb8 hap8; obtain ⟨sa8, cap8, rfl⟩ := hown8.shape)
              exact ⟨HNX.out _ _ _ _ HS.out (by simpa using hown8) ((hbr7.alloc (by omega) _).trans hb8), by simp [intOf]; omega⟩
            | true =>
              have HS : Hid (withFold ((U, KC), VC) gone (l.take (k + 1)) = (os ++ [((U, KC), VC)] ++ [((T, KB), VB)], true)) := Lib.hid (by rw [HN.out, ← HST.out]; unfold withStep; rw [if_neg HNE.out, if_pos (by simp [hd])])
              go_wp2_with (first | (at_builtin; refine wpList_append_ents rfl (.tmp 45) (.tmp 47) rfl w1.heap.size (.slice oa os.length ocap) os rfl (by exact hown7.below ((Below.refl _ w7).alloc (Nat.le_refl _) _)) [((U, KC), VC)] (by exact oneEnt_at _ ((U, KC), VC)) (by simp; omega) (by simp; omega) ?_; intro v8 w8 hown8 hg8 hb8 hap8; obtain ⟨sa8, cap8, rfl⟩ := hown8.shape; have hb18 : Below w1.heap.size w1 w8 := (hbr7.alloc (by omega) _).trans hb8; have hs18 := hb18.size; have z0 := (hb18.cell (p := ⟨eb, eo + k * 3, none⟩) lx1).trans X0.out; have z1 := (hb18.cell (p := ⟨eb, eo + k * 3 + 1, none⟩) lx1).trans X1.out; have z2 := (hb18.cell (p := ⟨eb, eo + k * 3 + 2, none⟩) lx1).trans X2.out; have lz : eb < w8.heap.size := Nat.lt_of_lt_of_le lx1 hb18.size; have hown8' : OwnS w8 w1.heap.size 3 (.slice sa8 (os.length + 1) cap8) (os ++ [((U, KC), VC)]).length (entCells (os ++ [((U, KC), VC)])) := by simpa using hown8) | (at_builtin; refine wpList_append_ents rfl (.tmp 49) (.tmp 54) rfl w1.heap.size (.slice sa8 (os.length + 1) cap8) (os ++ [((U, KC), VC)]) rfl (by exact hown8'.below ((Below.refl _ w8).alloc (Nat.le_refl _) _)) [((T, KB), VB)] (by exact oneEnt_at _ ((T, KB), VB)) (by simp; omega) (by simp; omega) ?_; intro v9 w9 hown9 hg9 hb9 hap9; obtain ⟨sa9, cap9, rfl⟩ := hown9.shape))
              exact ⟨HNX.out _ _ _ _ HS.out (by simpa using hown9) ((hb18.alloc (by omega) _).trans hb9), by simp [intOf]; omega⟩
    · obtain rfl : k = l.length := by omega
      have hge : ¬ (l.length : Int) < l.length := by omega
      rw [List.take_length] at HST
      cases inn with
      | true =>
        have HW : Hid (withB l ((U, KC), VC) gone = os) := Lib.hid (by unfold withB; rw [← HST.out]; rfl)
        go_wp2
        go_ret
        exact ⟨_, rfl, by rw [HW.out]; exact hown.mono hb1.size, hb1.trans (hbr.mono hb1.size)⟩
      | false =>
        have HW : Hid (withB l ((U, KC), VC) gone = os ++ [((U, KC), VC)]) := Lib.hid (by unfold withB; rw [← HST.out]; rfl)
        go_wp2_with (at_builtin; refine wpList_append_ents rfl (.tmp 58) (.tmp 60) rfl w1.heap.size (.slice oa os.length ocap) os rfl (by exact hown.below ((Below.refl _ wr).alloc (Nat.le_refl _) _)) [((U, KC), VC)] (by exact oneEnt_at _ ((U, KC), VC)) (by simp; omega) (by simp; omega) ?_; intro v8 w8 hown8 hg8 hb8 hap8; obtain ⟨sa8, cap8, rfl⟩ := hown8.shape)
        go_ret
        exact ⟨_, rfl, by rw [HW.out]; exact by simpa using hown8.mono hb1.size, hb1.trans (((hbr.alloc hsr _).trans hb8).mono hb1.size)⟩
theorem filter_snoc (q : E → Bool) (p : List E) (x : E) : (p ++ [x]).filter q = p.filter q ++ (if q x then [x] else []) := by
  rw [List.filter_append, List.filter_cons]
  cases q x <;> rfl
theorem withFold_inv {l : List E} (h : SortedE l) (y : E) : ∀ k, k ≤ l.length →
    (withFold y false (l.take k) = ((l.take k).filter (fun x => ltK x.1 y.1), false) ∧ (l.take k).filter (fun x => ltK y.1 x.1) = []) ∨
    (withFold y false (l.take k) = ((l.take k).filter (fun x => ltK x.1 y.1) ++ y :: (l.take k).filter (fun x => ltK y.1 x.1), true) ∧ ∃ z ∈ l.take k, ltK y.1 z.1 = true)
  | 0, _ => .inl ⟨rfl, rfl⟩
  | k + 1, hk => by
    have hlt : k < l.length := by omega
    have ht : l.take (k + 1) = l.take k ++ [l[k]] := List.take_succ_eq_append_getElem hlt
    have hs : SortedE (l.take k ++ [l[k]]) := by rw [← ht]; exact h.sublist (List.take_sublist _ _)
    have hlast : ∀ z ∈ l.take k, ltK z.1 l[k].1 = true := fun z hz => (List.pairwise_append.1 hs).2.2 z hz _ (by simp)
    rw [withFold_take y false l k hlt, ht, filter_snoc, filter_snoc]
    generalize l[k] = x at *
    rcases withFold_inv h y k (by omega) with ⟨e, hh⟩ | ⟨e, z, hz, hyz⟩
    · rw [e]
      unfold withStep
      rcases ltK_tri x.1 y.1 with hx | hx | hx
      · have hne : ¬ x.1 = y.1 := ltK_ne hx
        have hyx := ltK_asymm hx
        rw [if_neg hne, if_neg (by simp [hyx])]
        simp only [hx, hyx, if_true, hh]
        exact .inl ⟨by simp, by simp⟩
      · rw [if_pos hx]
        have h1 : ltK x.1 y.1 = false := by rw [hx]; exact ltK_irrefl _
        have h2 : ltK y.1 x.1 = false := by rw [hx]; exact ltK_irrefl _
        simp only [h1, h2, hh]
        exact .inl ⟨by simp, by simp⟩
      · have hne : ¬ x.1 = y.1 := fun e => ltK_ne hx e.symm
        have hxy := ltK_asymm hx
        rw [if_neg hne, if_pos ⟨rfl, hx⟩]
        simp only [hx, hxy, if_true, hh]
        exact .inr ⟨by simp, ⟨x, by simp, hx⟩⟩
    · rw [e]
      have hx := ltK_trans hyz (hlast z hz)
      have hne : ¬ x.1 = y.1 := fun e => ltK_ne hx e.symm
      have hxy := ltK_asymm hx
      unfold withStep
      rw [if_neg hne, if_neg (by simp)]
      simp only [hx, hxy, if_true]
      exact .inr ⟨by simp, z, by simp [hz], hyz⟩
theorem withB_put {l : List E} (h : SortedE l) (y : E) : withB l y false = putS y.1 y.2 l := by
  have hi := withFold_inv h y l.length (Nat.le_refl _)
  rw [List.take_length] at hi
  unfold withB putS
  rcases hi with ⟨e, hh⟩ | ⟨e, -⟩
  · rw [e, hh]; rfl
  · rw [e]; rfl
theorem withFold_gone (y : E) : ∀ (l : List E) (st : List E), l.foldl (withStep y) (st, true) = (st ++ dropS y.1 l, true)
  | [], st => by simp [dropS]
  | x :: l, st => by
    rw [List.foldl_cons]
    by_cases hx : x.1 = y.1
    · have e1 : withStep y (st, true) x = (st, true) := by unfold withStep; rw [if_pos hx]
      have e2 : dropS y.1 (x :: l) = dropS y.1 l := by unfold dropS; rw [List.filter_cons, if_neg (by simp [hx])]
      rw [e1, e2]
      exact withFold_gone y l st
    · have e1 : withStep y (st, true) x = (st ++ [x], true) := by unfold withStep; rw [if_neg hx, if_neg (by simp)]
      have e2 : dropS y.1 (x :: l) = x :: dropS y.1 l := by unfold dropS; rw [List.filter_cons, if_pos (by simp [hx])]
      rw [e1, e2, withFold_gone y l (st ++ [x])]
      simp
theorem withB_drop (l : List E) (y : E) : withB l y true = dropS y.1 l := by
  unfold withB withFold
  rw [withFold_gone]
  simp
/-- behind k rounds of Fold -/
def RFoldRel (w1 : World) (v0 : Value) (S : List E) (os : List OpB) (lv i : Value) (wr : World) : Prop :=
  ∃ k, k ≤ os.length ∧ i = .int .i64 (k : Int) ∧ EntsAt wr lv (foldS S (os.take k)) ∧ (lv = v0 ∨ ∀ b, lv.ownBlock = some b → w1.heap.size ≤ b) ∧ Below w1.heap.size w1 wr
set_option maxRecDepth 100000 in
set_option maxHeartbeats 1000000 in
theorem refFold_any (v sv : Value) (vn : Nat) (S : List E) (os : List OpB) (w : World) (h : EntsAt w v S) (hs : OpsAt w sv os) (hS : SortedE S) (hl : S.length ≤ 900000000) (hol : os.length ≤ 8) (hk : ∀ o ∈ os, o.kind = 1 ∨ o.kind = 2) :
    Calls Tryz.prog 54 #[v, .agg #[.int .u64 vn, sv]] w fun e w' => ∃ v', e = .returned v' ∧ EntsAt w' v' (foldS S os) ∧ (v' = v ∨ ∀ b, v'.ownBlock = some b → w.heap.size ≤ b) ∧ Below w.heap.size w w' := by
  obtain ⟨sa, scap, rfl, -⟩ := hs.opened
  have hb1 : Below w.heap.size w (w.alloc (.cells #[.int .u64 (vn : Int), .slice sa os.length scap] 51)) := (Below.refl _ w).alloc (Nat.le_refl _) _
  have HE1 := Lib.hid (h.below hb1)
  have HS1 := Lib.hid (hs.below hb1)
  have B1 := Lib.hid (heap_new w (.cells #[.int .u64 (vn : Int), .slice sa os.length scap] 51))
  have s1 := World.size_alloc w (.cells #[.int .u64 (vn : Int), .slice sa os.length scap] 51)
  clear h hs
  go_enter Tryz.func54, Tryz.ntmps54
  go_wp2
  generalize hw1 : w.alloc (.cells #[.int .u64 (vn : Int), .slice sa os.length scap] 51) = w1 at *
  clear hw1
  go_loopw [0, 5] (fun lv i wr => RFoldRel w1 v S os lv i wr) (fun _ i _ => os.length - (intOf i).toNat)
  case atStart => exact ⟨0, Nat.zero_le _, rfl, HE1.out, .inl rfl, Below.refl _ _⟩
  case round =>
    obtain ⟨k, hk', rfl, hents, hv0, hbr⟩ := hrel
    have HV0 := Lib.hid hv0
    clear hv0
    have b0 := below_at hbr (by omega) B1.out
    have u1 := cell_of_row _ _ 1 _ _ _ b0
    have lu := block_lt b0
    have hsr := hbr.size
    by_cases hlt : k < os.length
    · have hlt' : (k : Int) < os.length := by omega
      obtain ⟨a', cap', he, -, hx⟩ := (HS1.out.below hbr).opened
      cases he
      obtain ⟨eb, eo, rfl, x0, x1, x2, x3⟩ := hx k hlt
      have HF := Lib.hid (foldS_take S os k hlt)
      have hko := hk _ (List.getElem_mem hlt)
      have hso := sorted_fold (os.take k) hS
      have hfl := length_fold (os.take k) hS
      rw [List.length_take] at hfl
      generalize hlk : os[k] = x at *
      obtain ⟨kd, T, KB, VB⟩ := x
      simp only at x0 x1 x2 x3 hko
      have lx := cell_lt x0
      have HEN := Lib.hid hents
      have HSO := Lib.hid hso
      obtain ⟨la, lcap, rfl, -, -⟩ := hents.opened
      clear hx hlk hents hso
      rcases hko with rfl | rfl
      · have HOP : Hid (opS (foldS S (os.take k)) ⟨1, T, KB, VB⟩ = withB (foldS S (os.take k)) ((T, KB), VB) false) := Lib.hid (by rw [withB_put HSO.out]; rfl)
        have hba : Below wr.heap.size wr (wr.alloc (.cells #[.int .i64 1, .int .i64 T, .string ⟨KB.toArray⟩, .string ⟨VB.toArray⟩] 105)) := (Below.refl _ wr).alloc (Nat.le_refl _) _
        go_wp2_with fail
        refine (refWith_any _ (foldS S (os.take k)) ((T, KB), VB) false _ (HEN.out.below hba) (by omega)).mono ?_
        rintro e w7 ⟨v', rfl, hown7, hb7⟩
        obtain ⟨sa7, cap7, rfl⟩ := hown7.shape
        have hb17 : Below wr.heap.size wr w7 := hba.trans (hb7.mono hba.size)
        have hrel7 : RFoldRel w1 v S os (.slice sa7 (withB (foldS S (os.take k)) ((T, KB), VB) false).length cap7) (.int .i64 ((k : Int) + 1)) w7 := ⟨k + 1, by omega, rfl, by rw [HF.out, HOP.out]; exact hown7.ents, .inr (fun b hb => by have h1 := hown7.ownBlock_ge b hb; rw [World.size_alloc] at h1; omega), hbr.trans (hb17.mono hsr)⟩
        clear hown7 hb7 hba
        go_wp2
        exact ⟨hrel7, by simp [intOf]; omega⟩
      · have HOP : Hid (opS (foldS S (os.take k)) ⟨2, T, KB, VB⟩ = withB (foldS S (os.take k)) ((T, KB), VB) true) := Lib.hid (by rw [withB_drop]; rfl)
        have hba : Below wr.heap.size wr (wr.alloc (.cells #[.int .i64 2, .int .i64 T, .string ⟨KB.toArray⟩, .string ⟨VB.toArray⟩] 105)) := (Below.refl _ wr).alloc (Nat.le_refl _) _
        go_wp2_with fail
        refine (refWith_any _ (foldS S (os.take k)) ((T, KB), VB) true _ (HEN.out.below hba) (by omega)).mono ?_
        rintro e w7 ⟨v', rfl, hown7, hb7⟩
        obtain ⟨sa7, cap7, rfl⟩ := hown7.shape
        have hb17 : Below wr.heap.size wr w7 := hba.trans (hb7.mono hba.size)
        have hrel7 : RFoldRel w1 v S os (.slice sa7 (withB (foldS S (os.take k)) ((T, KB), VB) true).length cap7) (.int .i64 ((k : Int) + 1)) w7 := ⟨k + 1, by omega, rfl, by rw [HF.out, HOP.out]; exact hown7.ents, .inr (fun b hb => by have h1 := hown7.ownBlock_ge b hb; rw [World.size_alloc] at h1; omega), hbr.trans (hb17.mono hsr)⟩
        clear hown7 hb7 hba
        go_wp2
        exact ⟨hrel7, by simp [intOf]; omega⟩
    · obtain rfl : k = os.length := by omega
      have hge : ¬ (os.length : Int) < os.length := by omega
      rw [List.take_length] at hents
      have HEN := Lib.hid hents
      obtain ⟨la, lcap, rfl, -, -⟩ := hents.opened
      clear hents
      go_wp2
      go_ret
      exact ⟨_, rfl, HEN.out, HV0.out.imp id (fun h b hb => by have := h b hb; omega), hb1.trans (hbr.mono hb1.size)⟩
end Go.Proofs.YtkkfmkhbdoeglabGreatDoor
namespace Go.Proofs.YtkkfmkhbdoeglabGreatDoor
open Go.RowKit
/-- a slice of deltas -/
def DeltasAt (w : World) (v : Value) (l : List (Nat × List OpB)) : Prop :=
  ∃ a cap, v = .slice a l.length cap ∧ l.length ≤ cap ∧ ∀ i (h : i < l.length), ∃ b off sv, a = some ⟨b, off, none⟩ ∧ w.cell? ⟨b, off + i * 2, none⟩ = some (.int .u64 (l[i].1 : Int)) ∧ w.cell? ⟨b, off + i * 2 + 1, none⟩ = some sv ∧
    OpsAt w sv l[i].2 ∧ OpsFit l[i].2 ∧ l[i].1 < 18446744073709551616
def TextsAt (w : World) (v : Value) (l : List (List UInt8)) : Prop :=
  ∃ a cap, v = .slice a l.length cap ∧ l.length ≤ cap ∧ ∀ i (h : i < l.length), ∃ b off, a = some ⟨b, off, none⟩ ∧ w.cell? ⟨b, off + i, none⟩ = some (.string ⟨l[i].toArray⟩) ∧ l[i].length ≤ maxB
def NumsAt (w : World) (v : Value) (l : List Int) : Prop :=
  ∃ a cap, v = .slice a l.length cap ∧ l.length ≤ cap ∧ ∀ i (h : i < l.length), ∃ b off, a = some ⟨b, off, none⟩ ∧ w.cell? ⟨b, off + i, none⟩ = some (.int .i64 l[i])
structure TArgs (w : World) (lv tv nv : Value) (l : List (Nat × List OpB)) (ts : List (List UInt8)) (ns : List Int) : Prop where
  d : DeltasAt w lv l
  t : TextsAt w tv ts
  n : NumsAt w nv ns
  g : ShapesVar w
  ge : ErrVar w
section
variable {w w' : World} {lv tv nv : Value} {l : List (Nat × List OpB)} {ts : List (List UInt8)} {ns : List Int}
theorem TArgs.below (h : TArgs w lv tv nv l ts ns) (hb : Below w.heap.size w w') : TArgs w' lv tv nv l ts ns := by
  obtain ⟨⟨a, cap, e, hc, hd⟩, ⟨a2, cap2, e2, hc2, ht⟩, ⟨a3, cap3, e3, hc3, hn⟩, hg, hge⟩ := h
  refine ⟨⟨a, cap, e, hc, fun i hi => ?_⟩, ⟨a2, cap2, e2, hc2, fun i hi => ?_⟩, ⟨a3, cap3, e3, hc3, fun i hi => ?_⟩, hg.new hb, hge.new hb⟩
  · obtain ⟨b, off, sv, e, c0, c1, h1, h2, h3⟩ := hd i hi
    exact ⟨b, off, sv, e, (hb.cell (p := ⟨b, off + i * 2, none⟩) (cell_lt c0)).trans c0, (hb.cell (p := ⟨b, off + i * 2 + 1, none⟩) (cell_lt c1)).trans c1, h1.below hb, h2, h3⟩
  · obtain ⟨b, off, e, c0, h1⟩ := ht i hi
    exact ⟨b, off, e, (hb.cell (p := ⟨b, off + i, none⟩) (cell_lt c0)).trans c0, h1⟩
  · obtain ⟨b, off, e, c0⟩ := hn i hi
    exact ⟨b, off, e, (hb.cell (p := ⟨b, off + i, none⟩) (cell_lt c0)).trans c0⟩
end
theorem EntsAt.keep {w w' : World} {v : Value} {l : List E} {r : Nat} {S : List E} (h : EntsAt w v l) (hr : TabAt w r S) (hx : Ext (fun i => i = r) w w') : EntsAt w' v l := by
  obtain ⟨hl, a, cap, rfl, hc, hh⟩ := h
  refine ⟨hl, a, cap, rfl, hc, fun i hi => ?_⟩
  obtain ⟨b, off, e, c0⟩ := hh i hi
  exact ⟨b, off, e, hx.cell (cell_not_map c0 hr) c0⟩
theorem LookAt.other {w w' : World} {fb q r B : Nat} {v : Value} {S : List E} (h : LookAt w fb q r v S) (hw : ∀ j, j ≠ B → w'.heap[j]? = w.heap[j]?) (h1 : fb ≠ B) (h2 : q ≠ B) (h3 : r ≠ B) (h4 : ∀ b, v.ownBlock = some b → b ≠ B) : LookAt w' fb q r v S :=
  ⟨⟨(World.cell?_of_block (a := ⟨fb, 0, none⟩) (hw fb h1)).trans h.t.cell, (World.cell?_of_block (a := ⟨q, 0, none⟩) (hw q h2)).trans h.t.ent.cell, h.t.ent.tab.old (hw r h3)⟩, SliceAt.frame h.l (fun b e _ => hw b (h4 b e))⟩
end Go.Proofs.YtkkfmkhbdoeglabGreatDoor
namespace Go.Proofs.YtkkfmkhbdoeglabGreatDoor
open Go.ChangeShapes Go.WideShapes Go.ChangeAt Go.RowKit Go.Deep
def DeltasR := SliceR 2 4398046511104 DeltaR
theorem DeltasR.view {w : World} {v : Value} {l : List (Nat × List OpB)} (h : DeltasR w [v] l) : l.length ≤ 4398046511104 ∧ DeltasAt w v l := by
  obtain ⟨hm, a, cap, hv, hc, hx⟩ := h
  cases hv
  refine ⟨hm, a, cap, rfl, hc, fun i hi => ?_⟩
  obtain ⟨b, off, rfl, cs', hl, hat, sv, rfl, hn, ho⟩ := hx i hi
  obtain ⟨-, hfit, hops⟩ := ho.view
  exact ⟨b, off, sv, rfl, (hat 0 (by omega)), (hat 1 (by omega)), hops, hfit, hn⟩
def StringsR := SliceR 1 8796093022208 StrR
theorem StringsR.view {w : World} {v : Value} {l : List (List UInt8)} (h : StringsR w [v] l) : l.length ≤ maxB ∧ TextsAt w v l := by
  obtain ⟨hm, a, cap, hv, hc, hx⟩ := h
  cases hv
  refine ⟨by unfold maxB; omega, a, cap, rfl, hc, fun i hi => ?_⟩
  obtain ⟨b, off, rfl, cs', hl, hat, rfl, hn⟩ := hx i hi
  refine ⟨b, off, rfl, ?_, le_maxB hn⟩
  have := hat 0 (by omega)
  simpa using this
end Go.Proofs.YtkkfmkhbdoeglabGreatDoor
