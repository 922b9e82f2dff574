/- A part of what is proved here: lemmas and contracts of single functions. No condition but those that each names. -/
import Derived.Test.YtkkfmkhbdoeglabGreatDoorG38
namespace Go.Proofs.YtkkfmkhbdoeglabGreatDoor
open Go.RowKit Go.Shelf
attribute [local go_sem] Oper.semAt_some
theorem nil_dump (h : Nat) (w : World) : (nilAhead 470 116 (.agg #[.pointer (some ⟨h, 0, none⟩)]) "Dump").run Tryz.prog w = .ok (some false) w := by kernel_rfl
theorem method_dump (h : Nat) (w : World) : (method 470 116 (.agg #[.pointer (some ⟨h, 0, none⟩)]) "Dump").run Tryz.prog w = .ok (243, .agg #[.pointer (some ⟨h, 0, none⟩)]) w := by kernel_rfl
theorem nil_drop (h : Nat) (w : World) : (nilAhead 470 116 (.agg #[.pointer (some ⟨h, 0, none⟩)]) "Drop").run Tryz.prog w = .ok (some false) w := by kernel_rfl
theorem method_drop (h : Nat) (w : World) : (method 470 116 (.agg #[.pointer (some ⟨h, 0, none⟩)]) "Drop").run Tryz.prog w = .ok (242, .agg #[.pointer (some ⟨h, 0, none⟩)]) w := by kernel_rfl
theorem nil_put (h : Nat) (w : World) : (nilAhead 470 116 (.agg #[.pointer (some ⟨h, 0, none⟩)]) "Put").run Tryz.prog w = .ok (some false) w := by kernel_rfl
theorem method_put (h : Nat) (w : World) : (method 470 116 (.agg #[.pointer (some ⟨h, 0, none⟩)]) "Put").run Tryz.prog w = .ok (60, .agg #[.pointer (some ⟨h, 0, none⟩)]) w := by kernel_rfl
/-- entries laid one behind the other -/
def laidE (l : List E) : List E := l.foldl (fun S x => putS x.1 x.2 S) []
theorem laidE_snoc (l : List E) (x : E) : laidE (l ++ [x]) = putS x.1 x.2 (laidE l) := by simp [laidE]
/-- how a host's datapath stands behind some operations: what of it has turned since w -/
structure DpGo (w : World) (base h : Nat) (x : HV) (d : DpS) (wr : World) : Prop where
  at_ : ∃ lv, DpAt wr base h { x with left := d.left, dead := d.dead, log := lv } d ∧ (∀ i, lv.ownBlock = some i → x.log.ownBlock = some i ∨ w.heap.size ≤ i)
  ext : Ext (fun i => i = h ∨ i = x.r ∨ x.log.ownBlock = some i) w wr
/-- an object that no operation on a datapath turns: no cells of strings or of a host, no map but another one -/
def Aside (r : Nat) (j : Nat) (o : Obj) : Prop := (∀ C fz, o ≠ .cells C 9 fz) ∧ (∀ C fz, o ≠ .cells C 125 fz) ∧ (∀ es cl, o = .map es cl → j ≠ r)
theorem DpGo.start {w : World} {base h : Nat} {x : HV} {d : DpS} (hd : DpAt w base h x d) : DpGo w base h x d w := by
  refine ⟨⟨x.log, ?_, fun i e => .inl e⟩, Ext.refl _ _⟩
  have e : ({ x with left := d.left, dead := d.dead, log := x.log } : HV) = x := by
    rw [← hd.left, ← hd.dead]
  rw [e]
  exact hd
theorem DpAt.below {w w' : World} {base h : Nat} {x : HV} {d : DpS} (hd : DpAt w base h x d) (hb : Below w.heap.size w w') : DpAt w' base h x d :=
  ⟨hd.row.old (hb.block _ hd.row.lt), hd.left, hd.dead, hd.room, hd.tab.old (hb.block _ hd.tab.lt), hd.own.below hb, hd.ltyp.frame fun b _ hlt => hb.block b hlt, hd.lo, hd.lb⟩
theorem DpGo.below {w wr w' : World} {base h : Nat} {x : HV} {d : DpS} (hd : DpGo w base h x d wr) (hb : Below wr.heap.size wr w') : DpGo w base h x d w' := by
  obtain ⟨⟨lv, h1, h2⟩, h3⟩ := hd
  exact ⟨⟨lv, h1.below hb, h2⟩, h3.trans (Ext.of_new hb)⟩
/-- the next operation: its world, and what it leaves alone -/
theorem DpGo.step {w wr w' : World} {base h : Nat} {x : HV} {d d' : DpS} {lv : Value} (h2 : ∀ i, lv.ownBlock = some i → x.log.ownBlock = some i ∨ w.heap.size ≤ i) (h1 : DpAt wr base h { x with left := d.left, dead := d.dead, log := lv } d) (h3 : Ext (fun i => i = h ∨ i = x.r ∨ x.log.ownBlock = some i) w wr) {e : Ending}
    (hp : DpPost base h { x with left := d.left, dead := d.dead, log := lv } d' wr e w') : DpGo w base h x d' w' ∧ (∀ (j : Nat) (o : Obj), wr.heap[j]? = some o → Aside x.r j o → w'.heap[j]? = some o) ∧ wr.heap.size ≤ w'.heap.size := by
  obtain ⟨-, lv', hd, hx, hl⟩ := hp
  refine ⟨⟨⟨lv', hd, fun i e => ?_⟩, h3.trans' hx fun i hi => ?_⟩, fun j o hj ho => ?_, hx.size⟩
  · rcases hl i e with e | e
    · exact h2 i e
    · exact .inr (Nat.le_trans h3.size e)
  · rcases hi with e | e | e
    · exact .inl (.inl e)
    · exact .inl (.inr (.inl e))
    · exact (h2 i e).imp (fun e => .inr (.inr e)) id
  · refine (hx.block j (block_lt hj) fun hS => ?_).trans hj
    obtain ⟨a1, a2, a3⟩ := ho
    rcases hS with e | e | e
    · have hr : wr.heap[h]? = _ := h1.row
      rw [← e, hj] at hr
      exact a2 _ _ (Option.some.inj hr)
    · obtain ⟨-, L, ⟨es, cl, hm, -⟩, -⟩ := h1.tab
      have e' : j = x.r := e
      rw [show ({ x with left := d.left, dead := d.dead, log := lv } : HV).r = x.r from rfl, ← e', hj] at hm
      exact a3 _ _ (Option.some.inj hm) e'
    · obtain ⟨C, fz, hC⟩ := h1.ltyp j e
      rw [hj] at hC
      exact a1 _ _ (Option.some.inj hC)
theorem aside_cells {r j : Nat} {C : Array Value} {t : TypeId} {fz : Nat × Nat} (h1 : t ≠ 9) (h2 : t ≠ 125) : Aside r j (.cells C t fz) :=
  ⟨fun C' fz' e => h1 (by cases e; rfl), fun C' fz' e => h2 (by cases e; rfl), fun es cl e => by cases e⟩
theorem TabAt.aside {w w' : World} {r' r : Nat} {S : List E} (h : TabAt w r S) (hne : r ≠ r') (hk : ∀ (j : Nat) (o : Obj), w.heap[j]? = some o → Aside r' j o → w'.heap[j]? = some o) : TabAt w' r S := by
  have h' := h
  obtain ⟨-, L, ⟨es, cl, hm, -⟩, -⟩ := h'
  exact h.old ((hk r _ hm ⟨(fun _ _ e => by cases e), (fun _ _ e => by cases e), fun _ _ _ => hne⟩).trans hm.symm)
theorem KeysAt.aside {w w' : World} {r' : Nat} {v : Value} {l : List K} (h : KeysAt w v l) (hk : ∀ (j : Nat) (o : Obj), w.heap[j]? = some o → Aside r' j o → w'.heap[j]? = some o) : KeysAt w' v l := by
  obtain ⟨h1, h2⟩ := h
  refine ⟨h1.frame fun b hb _ => ?_, fun g hg => ?_⟩
  · obtain ⟨cs, fz, h⟩ := h2 b hb
    rw [h, hk b _ h (aside_cells (by decide) (by decide))]
  · obtain ⟨cs, fz, h⟩ := h2 g hg
    exact ⟨cs, fz, hk g _ h (aside_cells (by decide) (by decide))⟩
/-- what bring keeps in its loops: the map of what was there, its boxes, the calls that are put off -/
structure BrKeep (w : World) (h D : Nat) (S0 : List E) (wr : World) : Prop where
  tab : TabAt wr (w.heap.size + 1) S0
  boxH : Boxed wr (w.heap.size + 2) 162 (.map (some (w.heap.size + 1)))
  boxP : Boxed wr w.heap.size 169 (.iface 116 (.agg #[.pointer (some ⟨h, 0, none⟩)]))
  defer : wr.heap[D]? = some (.deferred (some []))
theorem BrKeep.below {w wr w' : World} {h D : Nat} {S0 : List E} (hk : BrKeep w h D S0 wr) (hb : Below wr.heap.size wr w') : BrKeep w h D S0 w' :=
  ⟨hk.tab.old (hb.block _ hk.tab.lt), (hb.block _ hk.boxH.lt).trans hk.boxH, (hb.block _ hk.boxP.lt).trans hk.boxP, (hb.block _ (block_lt hk.defer)).trans hk.defer⟩
theorem BrKeep.aside {w wr w' : World} {h D r : Nat} {S0 : List E} (hk : BrKeep w h D S0 wr) (hr : r < w.heap.size) (ha : ∀ (j : Nat) (o : Obj), wr.heap[j]? = some o → Aside r j o → w'.heap[j]? = some o) : BrKeep w h D S0 w' :=
  ⟨hk.tab.aside (by omega) ha, ha _ _ hk.boxH (aside_cells (by decide) (by decide)), ha _ _ hk.boxP (aside_cells (by decide) (by decide)), ha _ _ hk.defer ⟨(fun _ _ e => by cases e), (fun _ _ e => by cases e), (fun _ _ e => by cases e)⟩⟩
theorem EntAt.ext {w w' : World} {P : Nat → Prop} {q off r : Nat} {S : List E} (h : EntAt w q off r S) (hx : Ext P w w') (hq : ¬ P q) (hr : ¬ P r) : EntAt w' q off r S :=
  ⟨hx.cell hq h.cell, h.tab.old (hx.block r h.tab.lt hr)⟩
theorem putS_length (k : K) (v : List UInt8) (S : List E) (hS : SortedE S) : (putS k v S).length ≤ S.length + 1 := by
  have := length_subG (m := (k, v) :: S) (sorted_put k v hS).nodup fun x hx => by
    rcases (mem_put k v S x).1 hx with rfl | ⟨h, -⟩
    · exact List.mem_cons_self
    · exact List.mem_cons_of_mem _ h
  simpa using this
theorem dropS_length (k : K) (S : List E) : (dropS k S).length ≤ S.length := List.length_filter_le _ _
theorem DpS.stop_parts (d : DpS) : d.stop.S = d.S ∧ d.stop.log = d.log ∧ d.stop.room = d.room := ⟨rfl, rfl, rfl⟩
theorem DpS.step_size {d : DpS} (o : DOp) (hS : SortedE d.S) : SortedE (d.step o).S ∧ (d.step o).S.length ≤ d.S.length + 1 ∧ (d.step o).log.length ≤ d.log.length + 2 := by
  obtain ⟨k, v⟩ := o
  cases v with
  | none =>
    unfold DpS.step DpS.drop
    simp only
    split
    · exact ⟨hS, Nat.le_succ _, Nat.le_add_right _ _⟩
    · exact ⟨sorted_drop k hS, Nat.le_succ_of_le (dropS_length k d.S), by simp⟩
  | some v =>
    unfold DpS.step DpS.put
    simp only
    split
    · exact ⟨hS, Nat.le_succ _, Nat.le_add_right _ _⟩
    · split
      · exact ⟨sorted_put k v hS, putS_length k v d.S hS, by simp⟩
      · exact ⟨hS, Nat.le_succ _, by simp [DpS.stop_parts]⟩
theorem DpS.run_size : ∀ {d : DpS} (os : List DOp), SortedE d.S → SortedE (d.run os).S ∧ (d.run os).S.length ≤ d.S.length + os.length ∧ (d.run os).log.length ≤ d.log.length + 2 * os.length
  | d, [], h => ⟨h, Nat.le_refl _, Nat.le_refl _⟩
  | d, o :: os, h => by
    obtain ⟨h1, h2, h3⟩ := DpS.step_size o h
    obtain ⟨g1, g2, g3⟩ := DpS.run_size (d := d.step o) os h1
    have e : d.run (o :: os) = (d.step o).run os := rfl
    rw [e, List.length_cons]
    exact ⟨g1, by omega, by omega⟩
def dropsTo (S T : List E) (k : Nat) : List DOp := dropOps (dropL (S.take k) T)
theorem isNone_of_some {α : Type} {o : Option α} (h : o.isSome = true) : o.isNone = false := by cases o <;> simp_all
theorem isNone_of_not {α : Type} {o : Option α} (h : o.isSome = false) : o.isNone = true := by cases o <;> simp_all
theorem dropsTo_stay {S T : List E} {k : Nat} (hk : k < S.length) (h : (getS S[k].1 T).isSome = true) : dropsTo S T (k + 1) = dropsTo S T k := by
  unfold dropsTo dropL
  rw [List.take_succ_eq_append_getElem hk, List.filter_append, List.filter_cons_of_neg (by rw [isNone_of_some h]; decide)]
  simp
theorem dropsTo_go {S T : List E} {k : Nat} (hk : k < S.length) (h : (getS S[k].1 T).isSome = false) : dropsTo S T (k + 1) = dropsTo S T k ++ [(S[k].1, none)] := by
  unfold dropsTo dropL
  rw [List.take_succ_eq_append_getElem hk, List.filter_append, List.filter_cons_of_pos (by exact isNone_of_not h)]
  simp [dropOps]
theorem dropsTo_length (S T : List E) (k : Nat) : (dropsTo S T k).length ≤ S.length := by
  unfold dropsTo dropL dropOps
  rw [List.length_map]
  exact Nat.le_trans (List.length_filter_le _ _) (by rw [List.length_take]; omega)
theorem laidE_sorted (l : List E) : SortedE (laidE l) := by
  have key : ∀ (l : List E) (S : List E), SortedE S → SortedE (l.foldl (fun S x => putS x.1 x.2 S) S) := by
    intro l
    induction l with
    | nil => exact fun S h => h
    | cons x l ih => exact fun S h => ih _ (sorted_put _ _ h)
  exact key l [] SortedE.nil
theorem laidE_mem {l : List E} (hn : (l.map (·.1)).Nodup) (x : E) : x ∈ laidE l ↔ x ∈ l := by
  have := mem_puts l [] x hn
  have e : doneS [] (putOps l) = laidE l := by
    unfold doneS putOps laidE
    rw [List.foldl_map]
    rfl
  rw [e] at this
  rw [this]
  simp
theorem laid_perm {l S : List E} (hS : SortedE S) (hp : l.Perm S) : laidE l = S := by
  have hn : (l.map (·.1)).Nodup := (hp.map (·.1)).nodup_iff.2 hS.keys
  exact SortedE.ext (laidE_sorted l) hS fun x => by rw [laidE_mem hn, hp.mem_iff]
theorem ownFrom_tab {β : Type} {B r : Nat} (hr : r < B) (f : β → List E) : OwnFrom B (fun s W => TabAt W r (f s)) := fun s X Y row hs hg hrow =>
  hs.old (hg.block r hs.lt (fun e => by obtain ⟨h1, -⟩ := hrow r e.symm; omega))
/-- a growth of memory that turns at most one object that is no row of cells, from B on -/
theorem grown_stays {X Y : World} {row : Option Nat} {B : Nat} (hg : X.grownBy Y row) (hr : ∀ r, row = some r → B ≤ r ∧ ∃ o : Obj, X.heap[r]? = some o ∧ o.isCells = false) {j : Nat} {o : Obj} (hj : X.heap[j]? = some o) (h : j < B ∨ o.isCells = true) : Y.heap[j]? = some o :=
  (hg.block j (block_lt hj) fun e => by
    obtain ⟨h1, o', h2, h3⟩ := hr j e.symm
    rw [hj] at h2
    cases h2
    rcases h with h | h
    · omega
    · rw [h] at h3; cases h3).trans hj
theorem DpGo.grownR {w X Y : World} {base h B : Nat} {x : HV} {d : DpS} {row : Option Nat} (hd : DpGo w base h x d X) (hg : X.grownBy Y row) (hr : ∀ r, row = some r → B ≤ r ∧ ∃ o : Obj, X.heap[r]? = some o ∧ o.isCells = false) (hB : w.heap.size ≤ B) (hrB : x.r < B) : DpGo w base h x d Y := by
  obtain ⟨⟨lv, h1, h2⟩, h3⟩ := hd
  have hlog : ∀ b, lv.ownBlock = some b → b < X.heap.size → Y.heap[b]? = X.heap[b]? := fun b e hb => by
    obtain ⟨C, fz, hC⟩ := h1.ltyp b e
    rw [grown_stays hg hr hC (.inr rfl), hC]
  refine ⟨⟨lv, ⟨grown_stays hg hr h1.row (.inr rfl), h1.left, h1.dead, h1.room, h1.tab.old ?_, h1.own.frame hg.size hlog, h1.ltyp.frame hlog, h1.lo, h1.lb⟩, h2⟩, h3.trans' (T := fun i => row = some i) ⟨hg.os, hg.tape, hg.output, hg.size, fun j hj hne => hg.block j hj fun e => hne e.symm⟩ fun i e => .inr (by have := (hr i e).1; omega)⟩
  obtain ⟨-, L, ⟨es, cl, hm, -⟩, -⟩ := h1.tab
  exact (grown_stays hg hr hm (.inl hrB)).trans hm.symm
theorem BrKeep.grownR {w X Y : World} {h D B : Nat} {S0 : List E} {row : Option Nat} (hk : BrKeep w h D S0 X) (hg : X.grownBy Y row) (hr : ∀ r, row = some r → B ≤ r ∧ ∃ o : Obj, X.heap[r]? = some o ∧ o.isCells = false) (hB : w.heap.size + 2 ≤ B) (hD : D < B) : BrKeep w h D S0 Y := by
  refine ⟨hk.tab.old ?_, grown_stays hg hr hk.boxH (.inr rfl), grown_stays hg hr hk.boxP (.inr rfl), grown_stays hg hr hk.defer (.inl hD)⟩
  obtain ⟨-, L, ⟨es, cl, hm, -⟩, -⟩ := hk.tab
  exact (grown_stays hg hr hm (.inl (by omega))).trans hm.symm
def putsTo (S T pre : List E) : List DOp := dropsTo S T S.length ++ putOps (putL S pre)
theorem putsTo_snoc (S T pre : List E) (x : E) : putsTo S T (pre ++ [x]) = if x ∈ S then putsTo S T pre else putsTo S T pre ++ [(x.1, some x.2)] := by
  unfold putsTo putL putOps
  rw [List.filter_append, List.map_append, ← List.append_assoc]
  split
  · rename_i h
    simp [h]
  · rename_i h
    simp [h]
theorem putsTo_all (S T : List E) : putsTo S T T = opsB S T := by
  unfold putsTo dropsTo opsB
  rw [List.take_length]
theorem putsTo_len (S T pre : List E) : (putsTo S T pre).length ≤ S.length + pre.length := by
  unfold putsTo
  rw [List.length_append]
  have h1 := dropsTo_length S T S.length
  have h2 : (putOps (putL S pre)).length ≤ pre.length := by
    unfold putOps putL
    rw [List.length_map]
    exact List.length_filter_le _ _
  omega
set_option maxRecDepth 100000 in
set_option maxHeartbeats 4000000 in
theorem bring_any (base q off r h : Nat) (x : HV) (d : DpS) (T : List E) (w : World) (he : EntAt w q off r T) (hd : DpAt w base h x d) (hT : T.length ≤ 100000000) (hS : d.S.length ≤ 100000000) (hL : d.log.length ≤ 7500000000000) (hSk : ∀ y ∈ d.S, y.1.2.length ≤ maxB) (hTk : ∀ y ∈ T, y.1.2.length ≤ maxB ∧ y.2.length ≤ maxB) (hb : base ≤ w.heap.size) (hq1 : q ≠ h) (hq2 : x.log.ownBlock ≠ some q) (hr1 : r ≠ x.r) :
    Calls Tryz.prog 108 #[.pointer (some ⟨q, off, none⟩), dpV h] w fun e w' => e = .returned (.tuple #[]) ∧ DpGo w base h x (d.run (opsB d.S T)) w' := by
  have hm := method_dump h
  have hn := nil_dump h
  have hmm := @run_makeMap Tryz.prog
  unfold dpV
  refine (callsIn_wide (n := 9)).1 ?_
  refine callsIn_of_wp_marks Tryz.func108 rfl trivial ?_ rfl
  try simp only [Tryz.ntmps108, List.size_toArray, List.length_cons, List.length_nil, Nat.reduceAdd, Nat.reduceSub, Array.replicate_succ, Array.replicate_zero, List.push_toArray, List.append_toArray, List.nil_append, List.cons_append]
  gi_wp2_with fail
  refine ⟨trivial, (callsIn_wide.2 (dumpFn_any h _)).mono ?_⟩
  rintro e w0 ⟨rfl, rfl⟩
  gi_wp2_with fail
  have bP := (((Boxed.new w 169 (.iface 116 (.agg #[.pointer (some ⟨h, 0, none⟩)]))).alloc (.map #[] 0)).alloc (.cells #[.map (some (w.heap.size + 1))] 162)).alloc (.cells #[.pointer (some ⟨h, 0, none⟩)] 116)
  have tM : TabAt ((((w.alloc (.cells #[.iface 116 (.agg #[.pointer (some ⟨h, 0, none⟩)])] 169)).alloc (.map #[] 0)).alloc (.cells #[.map (some (w.heap.size + 1))] 162)).alloc (.cells #[.pointer (some ⟨h, 0, none⟩)] 116)) (w.heap.size + 1) [] := by
    have h1 := TabAt.new (w.alloc (.cells #[.iface 116 (.agg #[.pointer (some ⟨h, 0, none⟩)])] 169))
    rw [World.size_alloc] at h1
    exact (h1.old (heap_alloc_old _ _ (by simp))).old (heap_alloc_old _ _ (by simp))
  have bH := (Boxed.new ((w.alloc (.cells #[.iface 116 (.agg #[.pointer (some ⟨h, 0, none⟩)])] 169)).alloc (.map #[] 0)) 162 (.map (some (w.heap.size + 1)))).alloc (.cells #[.pointer (some ⟨h, 0, none⟩)] 116)
  have bD := Boxed.new (((w.alloc (.cells #[.iface 116 (.agg #[.pointer (some ⟨h, 0, none⟩)])] 169)).alloc (.map #[] 0)).alloc (.cells #[.map (some (w.heap.size + 1))] 162)) 116 (.pointer (some ⟨h, 0, none⟩))
  simp only [World.size_alloc, Nat.add_assoc, Nat.reduceAdd] at bH bD
  have hB0 : Below w.heap.size w ((((w.alloc (.cells #[.iface 116 (.agg #[.pointer (some ⟨h, 0, none⟩)])] 169)).alloc (.map #[] 0)).alloc (.cells #[.map (some (w.heap.size + 1))] 162)).alloc (.cells #[.pointer (some ⟨h, 0, none⟩)] 116)) := ((((Below.refl _ w).alloc (Nat.le_refl _) _).alloc (by simp) _).alloc (by simp; omega) _).alloc (by simp; omega) _
  have hsz : ((((w.alloc (.cells #[.iface 116 (.agg #[.pointer (some ⟨h, 0, none⟩)])] 169)).alloc (.map #[] 0)).alloc (.cells #[.map (some (w.heap.size + 1))] 162)).alloc (.cells #[.pointer (some ⟨h, 0, none⟩)] 116)).heap.size = w.heap.size + 4 := by simp
  simp only [Nat.add_assoc, Nat.reduceAdd]
  obtain ⟨W0, hW0⟩ : ∃ W0, (((w.alloc (.cells #[.iface 116 (.agg #[.pointer (some ⟨h, 0, none⟩)])] 169)).alloc (.map #[] 0)).alloc (.cells #[.map (some (w.heap.size + 1))] 162)).alloc (.cells #[.pointer (some ⟨h, 0, none⟩)] 116) = W0 := ⟨_, rfl⟩
  rw [hW0] at bP tM bH bD hB0 hsz ⊢
  clear hW0
  have hrow := hd.row
  have htab := hd.tab
  have hlh := hrow.lt
  have hlr := htab.lt
  refine wpIn_rangeFunc_ownH rfl (by omega) (gf := 244) (lb := #[.pointer (some ⟨w.heap.size + 3, 0, none⟩)]) rfl trivial (enters_of Tryz.func244 (by kernel_rfl) rfl)
    (dump_stops (9 - 1) (by omega) (w.heap.size + 3) h x d.S W0 (by omega) bD.cell (hrow.old (hB0.block _ hlh)) (htab.old (hB0.block _ hlr))) (fun h k => KeepsD.trans h k)
    (fun W l o o' hl ho hc hw => ⟨by simp, World.putObj_heap_other (by omega), (fun k m a b c hk => (World.putObj_heap_other (fun e => by subst e; rw [hk] at ho; cases ho; cases hw)).trans hk)⟩) (Below.refl _ _) (fun _ => rfl)
    (fun pre W => (((TabAt W (w.heap.size + 1) (laidE pre) ∧ W0.heap.size ≤ W.heap.size) ∧ Boxed W (w.heap.size + 2) 162 (.map (some (w.heap.size + 1)))) ∧ Boxed W w.heap.size 169 (.iface 116 (.agg #[.pointer (some ⟨h, 0, none⟩)]))) ∧ Below w.heap.size w W)
    (fun _ _ _ => False)
    (OwnFrom.and (OwnFrom.and (OwnFrom.and (OwnFrom.and (ownFrom_tab (by omega) laidE) (fun s X Y row hs hg _ => Nat.le_trans hs hg.size)) (Own.from (boxed_own _ _ _) _)) (Own.from (boxed_own _ _ _) _)) (ownFrom_below (Nat.le_refl _) (by omega)))
    (fun _ _ _ _ _ hs _ _ => hs)
    ⟨⟨⟨⟨tM, Nat.le_refl _⟩, bH⟩, bP⟩, hB0⟩
    (fun y a' W => ∃ Bx, w.heap.size + 3 < Bx ∧ W.heap[Bx]? = some (.cells #[.int .i64 y.1.1, .string ⟨y.1.2.toArray⟩] 103 (0, 0)) ∧ a' = { tmps := #[.pointer (some ⟨q, off, none⟩), .iface 116 (.agg #[.pointer (some ⟨h, 0, none⟩)]), undef, .pointer (some ⟨w.heap.size, 0, none⟩), .pointer (some ⟨w.heap.size + 2, 0, none⟩), .pointer (some ⟨Bx, 0, none⟩), .string ⟨y.2.toArray⟩, undef, undef, undef, undef, undef, undef, undef, undef, .map (some (w.heap.size + 1)), .iface 116 (.agg #[.pointer (some ⟨h, 0, none⟩)]), .func (.func 244) #[] #[.pointer (some ⟨w.heap.size + 3, 0, none⟩)], .agg #[.int .i64 y.1.1, .string ⟨y.1.2.toArray⟩], .string ⟨y.2.toArray⟩, undef, undef, undef, undef, undef, undef, undef, undef, undef, undef, undef, undef, undef, undef, undef, undef, undef, undef, undef, undef, undef, undef, undef, undef, undef, undef, undef, undef, undef, undef, undef, undef, undef, undef, undef, undef, undef, undef, undef, undef, undef, undef, undef, undef, undef, undef, undef, undef, undef], defers := [] })
    (fun y a' _ X Y row hs hg hr => by
      obtain ⟨Bx, h1, h2, h3⟩ := hs
      exact ⟨Bx, h1, (hg.block Bx (block_lt h2) (fun e => by obtain ⟨-, o, ho, hc⟩ := hr Bx e.symm; rw [h2] at ho; cases ho; cases hc)).trans h2, h3⟩)
    ?assign ?body ?done ?stop
  case assign =>
    rintro l pre y W K ⟨⟨⟨⟨h1, h1s⟩, h2⟩, h3⟩, h4⟩ hK
    unfold kV keyV
    gi_wp2
    have hbW : Below W.heap.size W (W.alloc (.cells #[.int .i64 y.1.1, .string ⟨y.1.2.toArray⟩] 103)) := (Below.refl _ W).alloc (Nat.le_refl _) _
    exact hK _ _ ((KeepsOthers.alloc _ _).from _) (KeepsD.of_below hbW (by have := h4.size; omega)) ⟨⟨⟨⟨h1.old (hbW.block _ h1.lt), by simp; omega⟩, h2.alloc _⟩, h3.alloc _⟩, h4.alloc h4.size _⟩ ⟨W.heap.size, by omega, heap_new W _, rfl⟩
  case body =>
    rintro l pre ⟨⟨kt, kb⟩, vb⟩ a' W hl ⟨rr, hrr⟩ ⟨⟨⟨⟨h1, h1s⟩, h2⟩, h3⟩, h4⟩ ⟨Bx, hBx, bX, rfl⟩ hlt
    dsimp only at bX ⊢
    have c0 := h2.cell
    have x0 := cell_of_row _ _ 0 _ _ _ bX
    have x1 := cell_of_row _ _ 1 _ _ _ bX
    obtain ⟨W1, hu, ht7, hg7, hs7⟩ := TabAt.put (w := W) h1 (mt := 162) Tryz.underlying162 (kt, kb) vb
    have hu1 : (Instr.mapUpdate 162 (.map (some (w.heap.size + 1))) (kV (kt, kb)) (strV vb)).run Tryz.prog W = .ok () W1 := hu 0
    simp only [kV, keyV, strV] at hu1
    have HT7 := Lib.hid ht7
    have HH1 := Lib.hid h1
    clear hu ht7 h1
    gi_wp2
    have hne : ∀ (j : Nat) (C : Array Value) (t : TypeId) (fz : Nat × Nat), W.heap[j]? = some (.cells C t fz) → W1.heap[j]? = some (.cells C t fz) := fun j C t fz hj => (hg7.block j (block_lt hj) (fun e => HH1.out.ne_row hj (by cases e; rfl))).trans hj
    have hl1 := HH1.out.lt
    refine ⟨⟨hg7.size, fun k o hk ho _ => (hg7.block k (block_lt ho) (fun e => by cases e; omega)).trans ho⟩, KeepsD.of_grown hg7 (by have := h4.size; omega) (by omega) (fun m a b c e => ?_), ⟨⟨⟨by rw [laidE_snoc]; exact HT7.out, Nat.le_trans h1s hg7.size⟩, hne _ _ _ _ h2⟩, hne _ _ _ _ h3⟩, h4.grown hg7 h4.size (fun j e => by cases e; omega)⟩
    obtain ⟨-, L, ⟨es, cl, hm', -⟩, -⟩ := HH1.out
    rw [hm'] at e
    cases e
  case done =>
    rintro D ys W hD hys ⟨⟨⟨⟨h1, h1s⟩, h2⟩, h3⟩, h4⟩ hK
    rw [laid_perm htab.sorted hys] at h1
    have hlm := h1.lt
    have hsW := h4.size
    have hK2 : Below W.heap.size W (W.alloc (.cells #[.map (some (w.heap.size + 1))] 162)) := (Below.refl _ W).alloc (Nat.le_refl _) _
    have HSO := Lib.hid (sortedKeys_any W.heap.size (w.heap.size + 1) d.S (W.alloc (.cells #[.map (some (w.heap.size + 1))] 162)) (by simp) (cell_of_row _ _ 0 _ _ _ (heap_new W (.cells #[.map (some (w.heap.size + 1))] 162))) (h1.old (hK2.block _ hlm)) (by omega))
    have c0 := h2.cell
    gi_wp2_with (first
      | (refine ⟨trivial, (callsIn_wide.2 (keysFn_any (w.heap.size + 1) W)).mono ?_⟩; rintro e w0 ⟨rfl, rfl⟩)
      | (refine ⟨trivial, (callsIn_wide.2 HSO.out).mono ?_⟩; rintro e w1 ⟨v, rfl, hks, hb1⟩; obtain ⟨sa, scap, rfl, -, -⟩ := hks.opened; rw [List.length_map] at *))
    have hb01 : Below w.heap.size w w1 := (h4.tn' hK2).trans (hb1.mono (h4.tn' hK2).size)
    have hs1 := hb01.size
    have hmx : d.S.length ≤ scap := by obtain ⟨a', c', e, h, -⟩ := hks.opened; obtain ⟨-, -, rfl⟩ := Value.slice.inj e; simpa using h
    have hbW : Below W.heap.size W w1 := hK2.trans (hb1.mono (by simp))
    have HGO1 := Lib.hid ((DpGo.start (w := w) hd).below hb01)
    have HBK1 := Lib.hid ((BrKeep.mk (w := w) (h := h) (D := D) (S0 := d.S) h1 h2 h3 hK).below hbW)
    have HKS := Lib.hid hks
    have HSD := Lib.hid htab.sorted
    have hqr : q ≠ x.r := fun e => by
      have := cell_not_map he.cell htab
      exact this e
    have hrh : r ≠ h := fun e => he.tab.ne_row hrow e.symm
    have hrl : x.log.ownBlock ≠ some r := hd.ltyp.ne_tab he.tab
    have HNQ : Hid (¬ (q = h ∨ q = x.r ∨ x.log.ownBlock = some q)) := Lib.hid (fun e => by rcases e with e | e | e; exact hq1 e; exact hqr e; exact hq2 e)
    have HNRR : Hid (¬ (r = h ∨ r = x.r ∨ x.log.ownBlock = some r)) := Lib.hid (fun e => by rcases e with e | e | e; exact hrh e; exact hr1 e; exact hrl e)
    have HE := Lib.hid he
    have hnd := nil_drop h
    have hmd := method_drop h
    clear hks h1 h2 h3 hK c0 HSO hb1 hbW bD bH tM bP hqr hrh hrl hys hK2
    gi_loopw [28] (fun i wr => ∃ k : Nat, k ≤ d.S.length ∧ i = .int .i64 (k : Int) ∧ DpGo w base h x (d.run (dropsTo d.S T k)) wr ∧ BrKeep w h D d.S wr ∧ KeysAt wr (.slice sa d.S.length scap) (d.S.map (·.1))) (fun i _ => d.S.length - (intOf i).toNat)
    case atStart => exact ⟨0, Nat.zero_le _, rfl, HGO1.out, HBK1.out, HKS.out⟩
    case round =>
      obtain ⟨k, hk, rfl, hgo, hbk, hkr⟩ := hrel
      by_cases hlt : k < d.S.length
      · have g1 : (k : Int) < d.S.length := by omega
        obtain ⟨sa', scap', e, -, hx⟩ := hkr.opened
        obtain ⟨rfl, -, rfl⟩ := Value.slice.inj e
        obtain ⟨kb0, ko, rfl, c0, c1⟩ := hx k (by simpa using hlt)
        obtain ⟨y, hyk⟩ : ∃ y, y = d.S[k] := ⟨_, rfl⟩
        rw [List.getElem_map, ← hyk] at c0 c1
        have hym : y ∈ d.S := by rw [hyk]; exact List.getElem_mem hlt
        have hyl := hSk y hym
        obtain ⟨⟨KT, KB⟩, VB⟩ := y
        simp only at c0 c1 hyl
        have HST : Hid ((getS (KT, KB) T).isSome = true → dropsTo d.S T (k + 1) = dropsTo d.S T k) := Lib.hid (fun h => dropsTo_stay hlt (by rw [← hyk]; exact h))
        have HGOO : Hid ((getS (KT, KB) T).isSome = false → dropsTo d.S T (k + 1) = dropsTo d.S T k ++ [((KT, KB), none)]) := Lib.hid (fun h => by have := dropsTo_go hlt (T := T) (by rw [← hyk]; exact h); rw [← hyk] at this; exact this)
        have HER := Lib.hid (HE.out.ext hgo.ext HNQ.out HNRR.out)
        have hcr := HER.out.cell
        have hlq := cell_lt hcr
        have hlk := cell_lt c0
        have hal : Below wr.heap.size wr (wr.alloc (.cells #[.int .i64 KT, .string ⟨KB.toArray⟩] 103)) := (Below.refl _ wr).alloc (Nat.le_refl _) _
        have HBA := Lib.hid hal
        have HGO := Lib.hid hgo
        have HBK := Lib.hid hbk
        have HKR := Lib.hid hkr
        clear hgo hbk hkr hk hyk hym hal hx
        gi_wp2
        obtain ⟨wa, hwa⟩ : ∃ wa, wa = wr.alloc (.cells #[.int .i64 KT, .string ⟨KB.toArray⟩] 103) := ⟨_, rfl⟩
        rw [← hwa] at HBA ⊢
        have HKA : Hid (wa.heap[wr.heap.size]? = some (.cells #[.int .i64 KT, .string ⟨KB.toArray⟩] 103 (0, 0))) := Lib.hid (by rw [hwa]; exact heap_new _ _)
        have HEA := Lib.hid (HER.out.below HBA.out)
        have hla : wr.heap.size < wa.heap.size := block_lt HKA.out
        clear hwa c0 c1 hcr hlq hlk
        have hca := HEA.out.cell
        have hlqa := cell_lt hca
        have d0 := cell_of_row _ _ 0 _ _ _ HKA.out
        have d1 := cell_of_row _ _ 1 _ _ _ HKA.out
        have hlook := TabAt.lookup_ok (w := wa.drew) (HEA.out.tab.old rfl) (mt := 162) Tryz.underlying162 (zeroVal _) (KT, KB)
        simp only [kV, keyV, strV] at hlook
        obtain ⟨bt, hbt⟩ : ∃ bt, bt = (getS (KT, KB) T).isSome := ⟨_, rfl⟩
        rw [← hbt] at hlook
        have HBT := Lib.hid hbt
        clear hbt
        have hlook2 := fun o => TabAt.lookup_ok (w := (wa.alloc o).drew) (HEA.out.tab.old (heap_alloc_old _ _ HEA.out.tab.lt)) (mt := 162) Tryz.underlying162 (zeroVal _) (KT, KB)
        simp only [kV, keyV, strV] at hlook2
        rw [← HBT.out] at hlook2
        gi_region
        obtain ⟨w9, hw9⟩ : ∃ w9, w9 = (wa.alloc (.cells #[.string ⟨((getS (KT, KB) T).getD []).toArray⟩] 226)).drew := ⟨_, rfl⟩
        rw [← hw9]
        have HB9 : Hid (Below wr.heap.size wr w9) := Lib.hid (by rw [hw9]; exact (HBA.out.alloc HBA.out.size _).drew)
        have HK9 : Hid (w9.heap[wr.heap.size]? = some (.cells #[.int .i64 KT, .string ⟨KB.toArray⟩] 103 (0, 0))) := Lib.hid (by rw [hw9]; exact heap_old _ _ HKA.out)
        have HGO9 := Lib.hid (HGO.out.below HB9.out)
        have HBK9 := Lib.hid (HBK.out.below HB9.out)
        have HKR9 : Hid (KeysAt w9 (.slice (some ⟨kb0, ko, none⟩) d.S.length scap) (d.S.map (·.1))) := Lib.hid ((HKR.out).kept (x := w.heap.size) (y := w.heap.size) (z := w.heap.size) (KeepsE.of_below HB9.out HBK.out.boxP.lt HBK.out.boxP.lt HBK.out.boxP.lt))
        clear hw9 hlook hlook2 d0 d1 hca hlqa
        have c9 := HBK9.out.boxP.cell
        have d0 := cell_of_row _ _ 0 _ _ _ HK9.out
        have d1 := cell_of_row _ _ 1 _ _ _ HK9.out
        have hl9 := block_lt HK9.out
        cases bt with
        | true =>
          have HS1 := Lib.hid (HST.out HBT.out.symm)
          gi_wp2
          have hrel3 : ∃ k' : Nat, k' ≤ d.S.length ∧ Value.int .i64 ((k : Int) + 1) = .int .i64 (k' : Int) ∧ DpGo w base h x (d.run (dropsTo d.S T k')) w9 ∧ BrKeep w h D d.S w9 ∧ KeysAt w9 (.slice (some ⟨kb0, ko, none⟩) d.S.length scap) (d.S.map (·.1)) := ⟨k + 1, by omega, rfl, by rw [HS1.out]; exact HGO9.out, HBK9.out, HKR9.out⟩
          simp only [List.length_map]
          refine ⟨?_, ?_⟩
          · first
              | exact hrel3
              | ((repeat apply Exists.intro); exact ⟨hrel3, rfl⟩)
          · simp [intOf]
            omega
        | false =>
          have HS1 := Lib.hid (HGOO.out HBT.out.symm)
          obtain ⟨⟨lv, hd9, hlv⟩, hext9⟩ := HGO9.out
          obtain ⟨rs1, rs2, rs3⟩ := DpS.run_size (d := d) (dropsTo d.S T k) HSD.out
          have hdl := dropsTo_length d.S T k
          have HDR := Lib.hid (fun W (hbW : Below w9.heap.size w9 W) => dpDrop_any base h { x with left := (d.run (dropsTo d.S T k)).left, dead := (d.run (dropsTo d.S T k)).dead, log := lv } (d.run (dropsTo d.S T k)) KT KB W (hd9.below hbW) (by have := hext9.size; have := hbW.size; omega) (by omega) hyl)
          gi_wp2_with fail
          refine ⟨trivial, (callsIn_wide.2 (HDR.out w9 (Below.refl _ _))).mono ?_⟩
          rintro e w' hp
          obtain ⟨g1', g2', g3'⟩ := DpGo.step hlv hd9 hext9 hp
          obtain ⟨rfl, -⟩ := hp
          have HG := Lib.hid g1'
          have HBK' := Lib.hid (HBK9.out.aside hlr g2')
          have HKR' := Lib.hid (HKR9.out.aside g2')
          clear g1' g2' g3' hd9 hlv hext9 c9 d0 d1 HDR
          gi_wp2
          have hrel3 : ∃ k' : Nat, k' ≤ d.S.length ∧ Value.int .i64 ((k : Int) + 1) = .int .i64 (k' : Int) ∧ DpGo w base h x (d.run (dropsTo d.S T k')) w' ∧ BrKeep w h D d.S w' ∧ KeysAt w' (.slice (some ⟨kb0, ko, none⟩) d.S.length scap) (d.S.map (·.1)) := ⟨k + 1, by omega, rfl, by rw [HS1.out, DpS.run_snoc]; exact HG.out, HBK'.out, HKR'.out⟩
          simp only [List.length_map]
          refine ⟨?_, ?_⟩
          · first
              | exact hrel3
              | ((repeat apply Exists.intro); exact ⟨hrel3, rfl⟩)
          · simp [intOf]
            omega
      · obtain rfl : k = d.S.length := by omega
        have g1 : ¬ (d.S.length : Int) < d.S.length := by omega
        have HGO := Lib.hid hgo
        have HBK := Lib.hid hbk
        clear hgo hbk hkr hk hlt
        gi_wp2_with fail
        refine ⟨trivial, (callsIn_wide.2 (entsFn_any q off _)).mono ?_⟩
        rintro e w2 ⟨rfl, rfl⟩
        gi_wp2_with fail
        have hT1 : T.length ≤ 1000000000 := by omega
        have hsr := HGO.out.ext.size
        have hlW := HBK.out.boxH.lt
        have hDlt := block_lt HBK.out.defer
        have HBA : Hid (Below wr.heap.size wr (wr.alloc (.cells #[.pointer (some ⟨q, off, none⟩)] 219))) := Lib.hid ((Below.refl _ wr).alloc (Nat.le_refl _) _)
        have HER := Lib.hid (HE.out.ext HGO.out.ext HNQ.out HNRR.out)
        have HBX : Hid ((wr.alloc (.cells #[.pointer (some ⟨q, off, none⟩)] 219)).cell? ⟨wr.heap.size, 0, none⟩ = some (.pointer (some ⟨q, off, none⟩))) := Lib.hid (cell_of_row _ _ 0 _ _ _ (heap_new wr (.cells #[.pointer (some ⟨q, off, none⟩)] 219)))
        have HBXR : Hid ((wr.alloc (.cells #[.pointer (some ⟨q, off, none⟩)] 219)).heap[wr.heap.size]? = some (.cells #[.pointer (some ⟨q, off, none⟩)] 219 (0, 0))) := Lib.hid (heap_new wr _)
        obtain ⟨W1, hW1⟩ : ∃ W1, W1 = wr.alloc (.cells #[.pointer (some ⟨q, off, none⟩)] 219) := ⟨_, rfl⟩
        have hs1 : W1.heap.size = wr.heap.size + 1 := by rw [hW1]; simp
        rw [← hW1] at HBA HBX HBXR ⊢
        clear hW1
        have HE1 := Lib.hid (HER.out.below HBA.out)
        have HGO1 := Lib.hid (HGO.out.below HBA.out)
        have HBK1 := Lib.hid (HBK.out.below HBA.out)
        have hlq1 := HER.out.lt
        have hlr1 := HER.out.tab.lt
        have h0 : putsTo d.S T [] = dropsTo d.S T d.S.length := by unfold putsTo putL putOps; simp
        refine wpIn_rangeFunc_ownH rfl (by omega) (gf := 135) (lb := #[.pointer (some ⟨wr.heap.size, 0, none⟩)]) rfl trivial (enters_of Tryz.func135 (by kernel_rfl) rfl)
          (entries_stopsF (Subtype.val : {x : E // x ∈ T} → E) T.attach (9 - 1) wr.heap.size q off r T (List.attach_map_subtype_val T) W1 (by omega) HBX.out HE1.out hT1) (fun h k => KeepsE.trans h k)
          (fun W l o o' hl ho hc hw => ⟨by simp, fun k hk => World.putObj_heap_other (by rcases hk with rfl | rfl | rfl <;> omega), fun k cs fz hk => (World.putObj_heap_other (fun e => by subst e; rw [hk] at ho; cases ho; cases hc)).trans hk⟩) (Below.refl _ _) (fun _ => rfl)
          (fun (pre : List {x : E // x ∈ T}) W => DpGo w base h x (d.run (putsTo d.S T (pre.map Subtype.val))) W ∧ BrKeep w h D d.S W ∧ W1.heap.size ≤ W.heap.size ∧ W.heap[wr.heap.size]? = some (.cells #[.pointer (some ⟨q, off, none⟩)] 219 (0, 0)))
          (fun _ _ _ => False)
          (fun s X Y row hs hg hr => ⟨hs.1.grownR hg hr (by omega) (by omega), hs.2.1.grownR hg hr (by omega) (by omega), Nat.le_trans hs.2.2.1 hg.size, grown_stays hg hr hs.2.2.2 (.inr rfl)⟩)
          (fun _ _ _ _ _ hs _ _ => hs)
          ⟨by rw [List.map_nil, h0]; exact HGO1.out, HBK1.out, Nat.le_refl _, HBXR.out⟩
          (fun y a' V => ∃ Bx, w.heap.size + 3 < Bx ∧ V.heap[Bx]? = some (.cells #[.int .i64 y.1.1.1, .string ⟨y.1.1.2.toArray⟩] 103 (0, 0)) ∧ a' = { tmps := #[.pointer (some ⟨q, off, none⟩), .iface 116 (.agg #[.pointer (some ⟨h, 0, none⟩)]), undef, .pointer (some ⟨w.heap.size, 0, none⟩), .pointer (some ⟨w.heap.size + 2, 0, none⟩), undef, undef, undef, u8, u9, u10, .pointer (some ⟨Bx, 0, none⟩), .string ⟨y.1.2.toArray⟩, undef, undef, .map (some (w.heap.size + 1)), .iface 116 (.agg #[.pointer (some ⟨h, 0, none⟩)]), .func (.func 244) #[] #[.pointer (some ⟨w.heap.size + 3, 0, none⟩)], undef, undef, undef, undef, undef, undef, .map (some (w.heap.size + 1)), .func (.func 177) #[] #[.pointer (some ⟨W.heap.size, 0, none⟩)], .slice sa d.S.length scap, .int .i64 (d.S.length : Int), .int .i64 (d.S.length : Int), .bool false, u30, u31, u32, u33, u34, u35, u36, u37, u38, u39, u40, u41, u42, u43, u44, u45, u46, .pointer (some ⟨q, off, none⟩), .func (.func 135) #[] #[.pointer (some ⟨wr.heap.size, 0, none⟩)], .agg #[.int .i64 y.1.1.1, .string ⟨y.1.1.2.toArray⟩], .string ⟨y.1.2.toArray⟩, undef, undef, undef, undef, undef, undef, undef, undef, undef, undef, undef, undef, undef, undef, undef, undef, undef, undef], defers := [] })
          (fun y a' _ X Y row hs hg hr => by
            obtain ⟨Bx, h1, h2, h3⟩ := hs
            exact ⟨Bx, h1, grown_stays hg hr h2 (.inr rfl), h3⟩)
          ?assign2 ?body2 ?done2 ?stop2
        case assign2 =>
          rintro l pre y V K ⟨h1, h2, h3, h4⟩ hK
          unfold kV keyV
          gi_wp2
          have hbW : Below V.heap.size V (V.alloc (.cells #[.int .i64 y.1.1.1, .string ⟨y.1.1.2.toArray⟩] 103)) := (Below.refl _ V).alloc (Nat.le_refl _) _
          exact hK _ _ ((KeepsOthers.alloc _ _).from _) (KeepsE.of_below hbW (by omega) (by omega) (by omega)) ⟨h1.below hbW, h2.below hbW, by simp; omega, heap_old V _ h4⟩ ⟨V.heap.size, by omega, heap_new V _, rfl⟩
        case body2 =>
          rintro l pre' ⟨⟨⟨kt, kb⟩, vb⟩, hxT⟩ a' V hl ⟨rr, hrr⟩ ⟨h1, h2, h3, h4⟩ ⟨Bx, hBx, bX, rfl⟩ hlt
          dsimp only at bX ⊢
          have HPS : Hid ((pre' ++ [(⟨((kt, kb), vb), hxT⟩ : {x : E // x ∈ T})]).map Subtype.val = pre'.map Subtype.val ++ [((kt, kb), vb)]) := Lib.hid (by simp)
          have hplen : (pre'.map Subtype.val).length = pre'.length := List.length_map _
          obtain ⟨pre, hpre⟩ : ∃ pre, pre = pre'.map Subtype.val := ⟨_, rfl⟩
          rw [← hpre] at h1 HPS hplen
          clear hpre
          have c0 := h2.boxH.cell
          have p0 := h2.boxP.cell
          have x0 : V.cell? ⟨Bx, 0, none⟩ = some (.int .i64 kt) := cell_of_row _ _ 0 _ _ _ bX
          have x1 : V.cell? ⟨Bx, 1, none⟩ = some (.string ⟨kb.toArray⟩) := cell_of_row _ _ 1 _ _ _ bX
          have hlook := TabAt.lookup_ok (w := V) h2.tab (mt := 162) Tryz.underlying162 (zeroVal _) (kt, kb)
          simp only [kV, keyV, strV] at hlook
          obtain ⟨bt, hbt⟩ : ∃ bt, bt = (getS (kt, kb) d.S).isSome := ⟨_, rfl⟩
          obtain ⟨ov, hov⟩ : ∃ ov, ov = (getS (kt, kb) d.S).getD [] := ⟨_, rfl⟩
          rw [← hbt, ← hov] at hlook
          have HBT := Lib.hid hbt
          have HOV := Lib.hid hov
          have H1 := Lib.hid h1
          have H2 := Lib.hid h2
          have HX := Lib.hid bX
          have hlBx := block_lt bX
          have hlP := h2.boxP.lt
          clear hbt hov h1 h2 bX
          have hnp := nil_put h
          have hmp := method_put h
          have HSN := Lib.hid (putsTo_snoc d.S T pre ((kt, kb), vb))
          have hpl : pre.length ≤ 100000000 := by omega
          have HMEM : Hid (((kt, kb), vb) ∈ d.S ↔ getS (kt, kb) d.S = some vb) := Lib.hid (get_iff HSD.out.keys (kt, kb) vb).symm
          have hvl : kb.length ≤ maxB ∧ vb.length ≤ maxB := hTk ((kt, kb), vb) hxT
          obtain ⟨rs1, rs2, rs3⟩ := DpS.run_size (d := d) (putsTo d.S T pre) HSD.out
          have hdl := putsTo_len d.S T pre
          obtain ⟨⟨lv, hd9, hlv⟩, hext9⟩ := H1.out
          have HAL : Hid (Below V.heap.size V (V.alloc (.cells #[.string ⟨ov.toArray⟩] 226))) := Lib.hid ((Below.refl _ V).alloc (Nat.le_refl _) _)
          have HPU := Lib.hid (fun U (hbU : Below V.heap.size V U) => dpPut_any base h { x with left := (d.run (putsTo d.S T pre)).left, dead := (d.run (putsTo d.S T pre)).dead, log := lv } (d.run (putsTo d.S T pre)) kt kb vb U (hd9.below hbU) (by have := hext9.size; have := hbU.size; omega) (by omega) hvl.1 hvl.2 (by omega))
          have HEN : Hid ((∃ o, V.heap[wr.heap.size]? = some o ∧ Aside x.r wr.heap.size o) ∧ q < w.heap.size ∧ r < w.heap.size ∧ x.r < w.heap.size) := Lib.hid ⟨⟨_, h4, aside_cells (by decide) (by decide)⟩, HE.out.lt, HE.out.tab.lt, hlr⟩
          cases bt with
          | false =>
            have HNOT : Hid (¬ ((kt, kb), vb) ∈ d.S) := Lib.hid fun hm => by
              have h1 := HMEM.out.1 hm
              have h2 := HBT.out
              rw [h1] at h2
              cases h2
            gi_wp2_with fail
            refine ⟨trivial, (callsIn_wide.2 (HPU.out _ HAL.out)).mono ?_⟩
            rintro e w' hp
            obtain ⟨g1', g2', g3'⟩ := DpGo.step hlv (hd9.below HAL.out) (hext9.trans (Ext.of_new HAL.out)) hp
            obtain ⟨rfl, lv', -, hx', -⟩ := hp
            have HTHREE : ∀ k, k = wr.heap.size ∨ k = q ∨ k = r → w'.heap[k]? = V.heap[k]? := fun k hk => by
              obtain ⟨⟨o, ho, hao⟩, e1, e2, e3⟩ := HEN.out
              have hsw := hext9.size
              rcases hk with rfl | rfl | rfl
              · rw [g2' _ o (below_at HAL.out (block_lt ho) ho) hao, ho]
              · refine (hx'.block _ (by have := HAL.out.size; omega) fun e => HNQ.out ?_).trans (HAL.out.block _ (by omega))
                rcases e with e | e | e
                · exact .inl e
                · exact .inr (.inl e)
                · exact .inr (.inr ((hlv _ e).elim id (fun h => by omega)))
              · refine (hx'.block _ (by have := HAL.out.size; omega) fun e => HNRR.out ?_).trans (HAL.out.block _ (by omega))
                rcases e with e | e | e
                · exact .inl e
                · exact .inr (.inl e)
                · exact .inr (.inr ((hlv _ e).elim id (fun h => by omega)))
            have HG := Lib.hid g1'
            have HBK' := Lib.hid ((H2.out.below HAL.out).aside hlr g2')
            have HKE : Hid (KeepsE wr.heap.size q r V w') := Lib.hid ⟨Nat.le_trans HAL.out.size g3', fun k hk => HTHREE k hk, fun k cs fz hk => g2' k _ (below_at HAL.out (block_lt hk) hk) (aside_cells (by decide) (by decide))⟩
            have HKF : Hid (KeepsFrom W1.heap.size V w') := Lib.hid ⟨Nat.le_trans HAL.out.size g3', fun k o hk ho hc => g2' k o (below_at HAL.out (block_lt ho) ho) ⟨(fun C fz e => by rw [e] at hc; cases hc), (fun C fz e => by rw [e] at hc; cases hc), (fun es cl e => by omega)⟩⟩
            have hsz' := HKE.out.size
            clear g1' g2' g3' hd9 hlv hext9
            gi_wp2
            refine ⟨HKF.out, HKE.out, ?_, HBK'.out, by omega, (HTHREE _ (.inl rfl)).trans h4⟩
            rw [HPS.out, HSN.out, if_neg HNOT.out, DpS.run_snoc]
            exact HG.out
          | true =>
            obtain ⟨v0, hv0⟩ : ∃ v0, getS (kt, kb) d.S = some v0 := Option.isSome_iff_exists.1 HBT.out.symm
            have hov : ov = v0 := by have := HOV.out; rw [hv0] at this; exact this
            subst hov
            have HV0 := Lib.hid hv0
            clear hv0
            by_cases heq : ov = vb
            · have HIN : Hid (((kt, kb), vb) ∈ d.S) := Lib.hid (HMEM.out.2 (by rw [HV0.out, heq]))
              subst heq
              have he1 : ((⟨ov.toArray⟩ : ByteArray) == ⟨ov.toArray⟩) = true := (MapKept.bytes_beq _ _).2 rfl
              have he2 : ((⟨ov.toArray⟩ : ByteArray) != ⟨ov.toArray⟩) = false := by rw [bne, he1]; rfl
              gi_wp2
              refine ⟨⟨HAL.out.size, fun k o hk ho hc => below_at HAL.out (block_lt ho) ho⟩, KeepsE.of_below HAL.out (by have := HEN.out.1; obtain ⟨o, ho, -⟩ := this; exact block_lt ho) (by have := HEN.out.2.1; have := hext9.size; omega) (by have := HEN.out.2.2.1; have := hext9.size; omega), ?_, H2.out.below HAL.out, by have := HAL.out.size; omega, below_at HAL.out (block_lt h4) h4⟩
              rw [HPS.out, HSN.out, if_pos HIN.out]
              exact H1.out.below HAL.out
            · have HNOT : Hid (¬ ((kt, kb), vb) ∈ d.S) := Lib.hid fun hm => by
                have h1 := HMEM.out.1 hm
                rw [HV0.out] at h1
                exact heq (Option.some.inj h1)
              have hne1 : ((⟨ov.toArray⟩ : ByteArray) == ⟨vb.toArray⟩) = false := by
                cases hbb : ((⟨ov.toArray⟩ : ByteArray) == ⟨vb.toArray⟩) with
                | false => rfl
                | true =>
                  have e := (MapKept.bytes_beq _ _).1 hbb
                  exact absurd (by injection e with e; simpa using e) heq
              have hne3 : (ov == vb) = false := beq_eq_false_iff_ne.2 heq
              have hne4 : (!(ov == vb)) = true := by rw [hne3]; rfl
              gi_wp2_with fail
              refine ⟨trivial, (callsIn_wide.2 (HPU.out _ HAL.out)).mono ?_⟩
              rintro e w' hp
              obtain ⟨g1', g2', g3'⟩ := DpGo.step hlv (hd9.below HAL.out) (hext9.trans (Ext.of_new HAL.out)) hp
              obtain ⟨rfl, lv', -, hx', -⟩ := hp
              have HTHREE : ∀ k, k = wr.heap.size ∨ k = q ∨ k = r → w'.heap[k]? = V.heap[k]? := fun k hk => by
                obtain ⟨⟨o, ho, hao⟩, e1, e2, e3⟩ := HEN.out
                have hsw := hext9.size
                rcases hk with rfl | rfl | rfl
                · rw [g2' _ o (below_at HAL.out (block_lt ho) ho) hao, ho]
                · refine (hx'.block _ (by have := HAL.out.size; omega) fun e => HNQ.out ?_).trans (HAL.out.block _ (by omega))
                  rcases e with e | e | e
                  · exact .inl e
                  · exact .inr (.inl e)
                  · exact .inr (.inr ((hlv _ e).elim id (fun h => by omega)))
                · refine (hx'.block _ (by have := HAL.out.size; omega) fun e => HNRR.out ?_).trans (HAL.out.block _ (by omega))
                  rcases e with e | e | e
                  · exact .inl e
                  · exact .inr (.inl e)
                  · exact .inr (.inr ((hlv _ e).elim id (fun h => by omega)))
              have HG := Lib.hid g1'
              have HBK' := Lib.hid ((H2.out.below HAL.out).aside hlr g2')
              have HKE : Hid (KeepsE wr.heap.size q r V w') := Lib.hid ⟨Nat.le_trans HAL.out.size g3', fun k hk => HTHREE k hk, fun k cs fz hk => g2' k _ (below_at HAL.out (block_lt hk) hk) (aside_cells (by decide) (by decide))⟩
              have HKF : Hid (KeepsFrom W1.heap.size V w') := Lib.hid ⟨Nat.le_trans HAL.out.size g3', fun k o hk ho hc => g2' k o (below_at HAL.out (block_lt ho) ho) ⟨(fun C fz e => by rw [e] at hc; cases hc), (fun C fz e => by rw [e] at hc; cases hc), (fun es cl e => by omega)⟩⟩
              have hsz' := HKE.out.size
              clear g1' g2' g3' hd9 hlv hext9
              gi_wp2
              refine ⟨HKF.out, HKE.out, ?_, HBK'.out, by omega, (HTHREE _ (.inl rfl)).trans h4⟩
              rw [HPS.out, HSN.out, if_neg HNOT.out, DpS.run_snoc]
              exact HG.out
        case done2 =>
          rintro D2 ys V hD2 rfl ⟨h1, h2, h3, h4⟩ hK2
          have hDV := h2.defer
          have hDD : D ≠ D2 := by omega
          have hsV := h1.ext.size
          rw [List.attach_map_subtype_val, putsTo_all] at h1
          have g1' : V.grownBy (V.putObj D2 (.deferred none)) (some D2) := grownBy_putObj' V D2 _
          have h5 := h1.grownR (B := W1.heap.size) g1' (fun r e => by cases e; exact ⟨hD2, _, hK2, rfl⟩) (by omega) (by omega)
          have hDV2 : (V.putObj D2 (.deferred none)).heap[D]? = some (.deferred (some [])) := (World.putObj_heap_other hDD).trans hDV
          have g2' : (V.putObj D2 (.deferred none)).grownBy ((V.putObj D2 (.deferred none)).putObj D (.deferred none)) (some D) := grownBy_putObj' _ D _
          have h6 := h5.grownR (B := w.heap.size + 1) g2' (fun r e => by cases e; exact ⟨by omega, _, hDV2, rfl⟩) (by omega) (by omega)
          refine ⟨by simp, .inl ⟨_, _, rfl, run_takeDeferred hK2, by simp, .inl ⟨_, _, rfl, run_takeDeferred hDV2, ?_⟩⟩⟩
          exact ⟨_, results_none rfl _ _ _, rfl, h6⟩
        case stop2 =>
          rintro D c pre W _ _ h _
          exact h.elim
  case stop =>
    rintro D c pre W _ _ h _
    exact h.elim
end Go.Proofs.YtkkfmkhbdoeglabGreatDoor
