/- A part of what is proved here: lemmas and contracts of single functions. No condition but those that each names. -/
import Derived.Test.YtkkfmkhbdoeglabGreatDoorG12
import Derived.Test.YtkkfmkhbdoeglabGreatDoorG22
import Derived.Test.YtkkfmkhbdoeglabGreatDoorG23
namespace Go.Proofs.YtkkfmkhbdoeglabGreatDoor
open Go.RowKit
/-- an entry as the change that lays it -/
def putOp (x : E) : OpB := ⟨1, x.1.1, x.1.2, x.2⟩
/-- tables of these entries, each laid by a delta of its own -/
def laidS (l : List E) : List E := l.foldl (fun S x => applyS 1 S [putOp x]) []
theorem laidS_take (l : List E) (k : Nat) (h : k < l.length) : laidS (l.take (k + 1)) = applyS 1 (laidS (l.take k)) [putOp l[k]] := by
  unfold laidS
  rw [List.take_succ_eq_append_getElem h, List.foldl_append]
  rfl
theorem tablesApply_drop (q r : Nat) (S : List E) (v : Nat) (sv : Value) (os : List OpB) (w : World) (he : EntAt w q 0 r S) (hs : OpsAt w sv os) (hg : ShapesVar w) (hfit : OpsFit os) :
    Calls Tryz.prog 93 #[.pointer (some ⟨q, 0, none⟩), .agg #[.int .u64 v, sv]] w fun e w' => (∃ ev, e = .returned ev) ∧ TabAt w' r (applyS v S os) ∧ Ext (fun i => i = r) w w' := by
  unfold applyS
  cases hw : wrongB v os with
  | none => exact (tablesApply_good q r S v sv os w he hs hg hfit hw).mono fun e w' ⟨h1, h2, h3⟩ => ⟨⟨_, h1⟩, h2, h3⟩
  | some f => exact (tablesApply_bad q r S v sv os w he hs hg hfit f hw).mono fun e w' ⟨ev, h1, _, h3⟩ => ⟨⟨_, h1⟩, he.tab.old (h3.block r he.tab.lt), Ext.of_new h3⟩
def LaidRel (w1 : World) (_q r : Nat) (l : List E) (i : Value) (wr : World) : Prop :=
  ∃ k : Nat, k ≤ l.length ∧ i = .int .i64 (k : Int) ∧ TabAt wr r (laidS (l.take k)) ∧ Ext (fun i => i = r) w1 wr
set_option maxRecDepth 100000 in
set_option maxHeartbeats 1000000 in
theorem laid_any (v : Value) (l : List E) (w : World) (h : EntsAt w v l) (hg : ShapesVar w) (hfit : ∀ x ∈ l, OpsFit [putOp x]) (hl : l.length ≤ 1000000000) :
    Calls Tryz.prog 61 #[v] w fun e w' => e = .returned (.pointer (some ⟨w.heap.size + 1, 0, none⟩)) ∧ EntAt w' (w.heap.size + 1) 0 w.heap.size (laidS l) ∧ Below w.heap.size w w' := by
  obtain ⟨a, cap, rfl, hcap, -⟩ := h.opened
  have HL := Lib.hid h
  clear h
  go_enter Tryz.func61, Tryz.ntmps61
  go_wp2_with fail
  refine (newTables_any _).mono ?_
  rintro e w1 ⟨rfl, he, hb1, hs1⟩
  have HE := Lib.hid he
  have HS1 := Lib.hid hs1
  have HL1 := Lib.hid (HL.out.below hb1)
  have HG1 := Lib.hid (hg.new hb1)
  have h2w := hg.two
  clear he hs1 hg
  obtain ⟨r, hr⟩ : ∃ r, r = w.heap.size := ⟨_, rfl⟩
  have hsz : r + 2 ≤ w1.heap.size := by have := HS1.out; omega
  have h2r : 2 ≤ r := by omega
  have HR := Lib.hid hr
  rw [← hr] at HE ⊢
  clear hr
  have HF := Lib.hid hfit
  clear hfit HS1
  go_wp2_with fail
  go_loopw [9] (fun i wr => LaidRel w1 (r + 1) r l i wr) (fun i _ => l.length - (intOf i).toNat)
  case atStart => exact ⟨0, Nat.zero_le _, rfl, HE.out.tab, Ext.refl _ _⟩
  case round =>
    obtain ⟨k, hk, rfl, htab, hx⟩ := hrel
    have hsr := hx.size
    by_cases hlt : k < l.length
    · have hlt' : (k : Int) < l.length := by omega
      obtain ⟨a', cap', he, -, hcell⟩ := HL.out.opened
      cases he
      obtain ⟨ob, oo, rfl, C0, C1, C2⟩ := hcell k hlt
      have lob : ob < r := by rw [HR.out]; exact cell_lt C0
      have hxx : Ext (fun i => i = r) w wr := (Ext.of_new hb1).trans hx
      have c0 := hxx.cell (p := ⟨ob, oo + k * 3, none⟩) (by show ¬ ob = r; omega) C0
      have c1 := hxx.cell (p := ⟨ob, oo + k * 3 + 1, none⟩) (by show ¬ ob = r; omega) C1
      have c2 := hxx.cell (p := ⟨ob, oo + k * 3 + 2, none⟩) (by show ¬ ob = r; omega) C2
      have HT := Lib.hid (laidS_take l k hlt)
      have hF := HF.out l[k] (List.getElem_mem hlt)
      have lob2 := cell_lt c0
      have hgr : ShapesVar wr := HG1.out.old hx.size (hx.block _ (cell_lt HG1.out.c0) (fun e => absurd (show 1 < 2 by decide) (by omega)))
      clear hcell C0 C1 C2
      have hal : Below wr.heap.size wr ((wr.alloc (.cells #[.int .i64 l[k].1.1, .string ⟨l[k].1.2.toArray⟩, .string ⟨l[k].2.toArray⟩] 101)).alloc (.cells #[.int .i64 (putOp l[k]).kind, .int .i64 (putOp l[k]).table, .string ⟨(putOp l[k]).key.toArray⟩, .string ⟨(putOp l[k]).val.toArray⟩] 105)) := ((Below.refl _ wr).alloc (Nat.le_refl _) _).alloc (by simp) _
      have hop := oneOp_at (wr.alloc (.cells #[.int .i64 l[k].1.1, .string ⟨l[k].1.2.toArray⟩, .string ⟨l[k].2.toArray⟩] 101)) (putOp l[k])
      rw [World.size_alloc] at hop
      have HAP := Lib.hid (tablesApply_drop (r + 1) r (laidS (l.take k)) 1 _ _ _ ((HE.out.step hx htab).below hal) hop (hgr.new hal) hF)
      unfold putOp at HAP
      clear hop
      go_wp2_with fail
      refine HAP.out.mono ?_
      rintro e w2 ⟨⟨ev, rfl⟩, ht2, hx2⟩
      have HT2 := Lib.hid ht2
      clear ht2
      go_wp2
      refine ⟨⟨k + 1, by omega, rfl, by rw [HT.out]; exact HT2.out, (hx.past hal).trans hx2⟩, ?_⟩
      simp [intOf]
      omega
    · obtain rfl : k = l.length := by omega
      have hge : ¬ (l.length : Int) < l.length := by omega
      rw [List.take_length] at htab
      go_wp2
      go_ret
      rw [← HR.out]
      refine ⟨rfl, HE.out.step hx htab, ?_⟩
      rw [HR.out]
      exact hb1.trans (hx.below hb1.size (fun j hj e => by have := HR.out; omega))
end Go.Proofs.YtkkfmkhbdoeglabGreatDoor
