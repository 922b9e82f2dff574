/- The contract of package overlay's told: tables as bytes. No condition. -/
import Derived.Test.YtkkfmkhbdoeglaaGreatDoorSize
import Derived.Test.YtkkfmkhbdoeglaaGreatDoorEncode
import Derived.Test.YtkkfmkhbdoeglaaGreatDoorHeap4
import Derived.Test.YtkkfmkhbdoeglaaGreatDoorTyped
import Derived.Deep.DeepCutAuto
namespace Go.Proofs.YtkkfmkhbdoeglaaGreatDoor
open Go.RowKit Go.Shelf
attribute [local go_sem] Oper.semAt_some

/-- an entry as bytes; a state as bytes -/
def entBytes (x : E) : List UInt8 := UInt8.ofNat x.1.1.toNat :: (x.1.2 ++ x.2)
def entsB (l : List E) : List UInt8 := l.flatMap entBytes
def allB (v : Nat) (S : List E) : List UInt8 := be8 v ++ [UInt8.ofNat (S.length / 256), UInt8.ofNat S.length] ++ entsB S
theorem entsB_snoc (l : List E) (x : E) : entsB (l ++ [x]) = entsB l ++ entBytes x := by simp [entsB]
theorem TabAt.len {w : World} {r : Nat} {S : List E} (h : TabAt w r S) (ty : TypeId) : (Builtin.len_ #[107] ty #[.map (some r)]).run Tryz.prog w = .ok (.int .i64 (S.length : Int)) w := by
  obtain ⟨-, L, ⟨es, clock, hb, he, -⟩, hp⟩ := h
  have e1 : es.size = S.length := by
    have h1 := congrArg List.length he
    have h2 := hp.length_eq
    simp at h1 h2
    omega
  rw [← e1]
  simp [Builtin.len_, run_underlying Tryz.underlying107, MapKept.run_getObj_map hb, goInt, Result.andThen]
theorem wrap_u8n (n : Nat) : IntKind.u8.wrap (n : Int) = ((UInt8.ofNat n).toNat : Int) := by
  simp [IntKind.wrap, IntKind.bits, IntKind.signed]
theorem twoLen_at (w : World) (n : Nat) : BytesAt (w.alloc (.cells #[.int .u8 (IntKind.u8.wrap ((n : Int) / 256)), .int .u8 (IntKind.u8.wrap (n : Int))] 5)) (.slice (some ⟨w.heap.size, 0, none⟩) 2 2) [UInt8.ofNat (n / 256), UInt8.ofNat n] := by
  rw [show (n : Int) / 256 = ((n / 256 : Nat) : Int) by omega, wrap_u8n, wrap_u8n]
  refine ⟨rfl, _, 2, rfl, Nat.le_refl _, fun i hi => ⟨w.heap.size, 0, rfl, ?_⟩⟩
  rw [Nat.zero_add, cell_new]
  have hi' : i < 2 := hi
  have : i = 0 ∨ i = 1 := by omega
  rcases this with rfl | rfl <;> rfl
/-- a slice of two bytes at least lies in no variable's box -/
theorem own_not_box {W : World} {base n : Nat} {v : Value} {l : List UInt8} (h : OwnS W base 1 v n (u8s l)) (hl : 2 ≤ l.length) {B : Nat} {u : Value} {t : TypeId} (hB : W.heap[B]? = some (.cells #[u] t (0, 0))) : v.ownBlock ≠ some B := by
  obtain ⟨hlen, ⟨rfl, -⟩ | ⟨g, off, cap, rfl, -, -, -, -, hc, -⟩⟩ := h
  · simp [Value.ownBlock]
  · intro e
    obtain rfl : g = B := by simpa [Value.ownBlock] using e
    have h1 := hc 1 (by rw [u8s_length]; omega)
    rw [cell_of_row _ _ _ _ _ _ hB] at h1
    have h2 : (#[u] : Array Value)[off + 1]? = none := by simp
    rw [h2] at h1
    cases h1
section
variable {w2 w3 : World} {base n : Nat} {bv : Value} {l : List UInt8} {u : Value} {t : TypeId}
theorem box_first (h : OwnS w2 base 1 bv n (u8s l)) (hl : 2 ≤ l.length) {o2 : Obj} (hg : ((w2.alloc (.cells #[u] t (0, 0))).alloc o2).grownBy w3 bv.ownBlock) : w3.heap[w2.heap.size]? = some (.cells #[u] t (0, 0)) := by
  have h9 := heap_old (w2.alloc (.cells #[u] t (0, 0))) o2 (heap_new w2 (.cells #[u] t (0, 0)))
  have hb : Below w2.heap.size w2 ((w2.alloc (.cells #[u] t (0, 0))).alloc o2) := ((Below.refl _ w2).alloc (Nat.le_refl _) _).alloc (by simp) _
  exact (hg.block w2.heap.size (block_lt h9) (own_not_box (h.below hb) hl h9).symm).trans h9
theorem box_second (h : OwnS w2 base 1 bv n (u8s l)) (hl : 2 ≤ l.length) {o1 : Obj} (hg : ((w2.alloc o1).alloc (.cells #[u] t (0, 0))).grownBy w3 bv.ownBlock) : w3.heap[w2.heap.size + 1]? = some (.cells #[u] t (0, 0)) := by
  have h9 := heap_new (w2.alloc o1) (.cells #[u] t (0, 0))
  rw [World.size_alloc] at h9
  have hb : Below w2.heap.size w2 ((w2.alloc o1).alloc (.cells #[u] t (0, 0))) := ((Below.refl _ w2).alloc (Nat.le_refl _) _).alloc (by simp) _
  exact (hg.block (w2.heap.size + 1) (block_lt h9) (own_not_box (h.below hb) hl h9).symm).trans h9
theorem box_early (h : OwnS w2 base 1 bv n (u8s l)) (hl : 2 ≤ l.length) {B : Nat} (hB : w2.heap[B]? = some (.cells #[u] t (0, 0))) {o1 : Obj} (hg : (w2.alloc o1).grownBy w3 bv.ownBlock) : w3.heap[B]? = some (.cells #[u] t (0, 0)) := by
  have h9 := heap_old w2 o1 hB
  have hb : Below w2.heap.size w2 (w2.alloc o1) := (Below.refl _ w2).alloc (Nat.le_refl _) _
  exact (hg.block B (block_lt h9) (own_not_box (h.below hb) hl h9).symm).trans h9
end
theorem entsB_len {S : List E} (h : ∀ x ∈ S, 0 ≤ x.1.1 ∧ x.1.1 < 256 ∧ x.1.2.length ≤ 100 ∧ x.2.length ≤ 100) : ∀ pre : List {x : E // x ∈ S}, (entsB (pre.map Subtype.val)).length ≤ 201 * pre.length
  | [] => Nat.zero_le _
  | x :: pre => by
    have h1 := entsB_len h pre
    obtain ⟨-, -, h2, h3⟩ := h x.1 x.2
    have e : (entsB ((x :: pre).map Subtype.val)).length = 1 + x.1.1.2.length + x.1.2.length + (entsB (pre.map Subtype.val)).length := by
      simp [entsB, entBytes]; omega
    rw [e, List.length_cons]
    omega
theorem conv_byte (k : Int) (h0 : 0 ≤ k) (h1 : k < 256) (w : World) : (Go.convert 3 5 (.int .i64 k)).run Tryz.prog w = .ok (.int .u8 k) w := by
  simp [go_sem]
  exact IntWalk.u8_in k (by omega)
theorem one_byte (k : Int) (h0 : 0 ≤ k) (h1 : k < 256) (w : World) : BytesAt (w.alloc (.cells #[.int .u8 k] 5)) (.slice (some ⟨w.heap.size, 0, none⟩) 1 1) [UInt8.ofNat k.toNat] := by
  have h := one_at w (UInt8.ofNat k.toNat)
  have e : ((UInt8.ofNat k.toNat).toNat : Int) = k := by simp; omega
  rw [e] at h
  exact h
/-- what told's loop keeps -/
def ToldI {S : List E} (base Bb Bm q off : Nat) (w : World) (l : List UInt8) (pre : List {x : E // x ∈ S}) (W : World) : Prop :=
  (∃ bv, InBox base Bb (l ++ entsB (pre.map Subtype.val)) bv W) ∧ Boxed W Bm 173 (.pointer (some ⟨q, off, none⟩)) ∧ Below base w W
theorem toldI_own {S : List E} {base Bb Bm q off B : Nat} {w : World} {l : List UInt8} (hB : base ≤ B) (hw : base ≤ w.heap.size) : OwnFrom B (ToldI (S := S) base Bb Bm q off w l) := by
  rintro pre X Y row ⟨⟨bv, h0⟩, h1, h2⟩ hg hr
  refine ⟨⟨bv, h0.kept hg fun r e => (hr r e).2⟩, ?_, (ownFrom_below (β := Unit) hw hB) () X Y row h2 hg hr⟩
  exact (Own.from (boxed_own (β := Unit) _ _ (fun _ => _)) B) () X Y row h1 hg hr
set_option maxRecDepth 100000 in
set_option maxHeartbeats 4000000 in
theorem told_any (q off r v : Nat) (S : List E) (w : World) (he : EntAt w q off r S) (hS : S.length < 65536) (hv : v < 18446744073709551616) (hb : ∀ x ∈ S, 0 ≤ x.1.1 ∧ x.1.1 < 256 ∧ x.1.2.length ≤ 100 ∧ x.2.length ≤ 100) :
    Calls Tryz.prog 101 #[.int .u64 v, .pointer (some ⟨q, off, none⟩)] w fun e w' => ∃ bv, e = .returned bv ∧ OwnS w' w.heap.size 1 bv (allB v S).length (u8s (allB v S)) ∧ Below w.heap.size w w' := by
  have hc := he.cell
  have hlen := he.tab.len (ty := 3)
  have HL := Lib.hid (fun (W : World) (hW : Below w.heap.size w W) => (he.below hW).tab.len (ty := 3))
  have hq := he.lt
  have hr := he.tab.lt
  refine (callsIn_wide (n := 9)).1 ?_
  refine callsIn_of_wp_marks Tryz.func101 rfl trivial ?_ rfl
  try simp only [Tryz.ntmps101, List.size_toArray, List.length_cons, List.length_nil, Nat.reduceAdd, Nat.reduceSub, Array.replicate_succ, Array.replicate_zero, List.push_toArray, List.append_toArray, List.nil_append, List.cons_append]
  gi_wp2_with fail
  have hs1 : ∀ W, Below w.heap.size w W → W.cell? ⟨q, off, none⟩ = some (.map (some r)) := fun W hW => (hW.cell (p := ⟨q, off, none⟩) hq).trans hc
  have HS1 := Lib.hid hs1
  clear hs1
  have htwo := fun W => twoLen_at W S.length
  refine wpIn_wide.2 ?_
  go_upto_region 1 with fail
  go_cut [5] from 8 to 42 (fun b wx => ∃ Bb bv, b = .pointer (some ⟨Bb, 0, none⟩) ∧ InBox w.heap.size Bb (be8 v ++ [UInt8.ofNat (S.length / 256), UInt8.ofNat S.length]) bv wx ∧ Below w.heap.size w wx)
  case first =>
    go_region_held3 (fun w' => Below w.heap.size w w' ∧ w'.cell? ⟨q, off, none⟩ = some (.map (some r)) ∧ (Builtin.len_ #[107] 3 #[.map (some r)]).run Tryz.prog w' = .ok (.int .i64 (S.length : Int)) w')
      (first | exact ⟨(Below.refl _ _).drew, HS1.out _ (Below.refl _ _).drew, HL.out _ (Below.refl _ _).drew⟩ | exact ⟨((Below.refl w.heap.size w).drew.alloc (Nat.le_refl _) _), HS1.out _ ((Below.refl w.heap.size w).drew.alloc (Nat.le_refl _) _), HL.out _ ((Below.refl w.heap.size w).drew.alloc (Nat.le_refl _) _)⟩ | exact ⟨(((Below.refl w.heap.size w).alloc (Nat.le_refl _) _).drew), HS1.out _ (((Below.refl w.heap.size w).alloc (Nat.le_refl _) _).drew), HL.out _ (((Below.refl w.heap.size w).alloc (Nat.le_refl _) _).drew)⟩ | exact ⟨b2, HS1.out _ b2, HL.out _ b2⟩ | exact ⟨(b2.alloc b2.size _), HS1.out _ (b2.alloc b2.size _), HL.out _ (b2.alloc b2.size _)⟩ | exact ⟨((b2.alloc b2.size _).alloc (by have := b2.size; simp; omega) _), HS1.out _ ((b2.alloc b2.size _).alloc (by have := b2.size; simp; omega) _), HL.out _ ((b2.alloc b2.size _).alloc (by have := b2.size; simp; omega) _)⟩ | exact ⟨b3, HS1.out _ b3, HL.out _ b3⟩ | exact ⟨(b3.alloc b3.size _), HS1.out _ (b3.alloc b3.size _), HL.out _ (b3.alloc b3.size _)⟩ | exact ⟨(b3.setCell (p := ⟨w.heap.size, 0, none⟩) (Nat.le_refl _) _), HS1.out _ (b3.setCell (p := ⟨w.heap.size, 0, none⟩) (Nat.le_refl _) _), HL.out _ (b3.setCell (p := ⟨w.heap.size, 0, none⟩) (Nat.le_refl _) _)⟩ | exact ⟨(b3.setCell (p := ⟨w2.heap.size, 0, none⟩) b2.size _), HS1.out _ (b3.setCell (p := ⟨w2.heap.size, 0, none⟩) b2.size _), HL.out _ (b3.setCell (p := ⟨w2.heap.size, 0, none⟩) b2.size _)⟩ | exact ⟨(b3.setCell (p := ⟨w2.heap.size + 1, 0, none⟩) (by have := b2.size; simp; omega) _), HS1.out _ (b3.setCell (p := ⟨w2.heap.size + 1, 0, none⟩) (by have := b2.size; simp; omega) _), HL.out _ (b3.setCell (p := ⟨w2.heap.size + 1, 0, none⟩) (by have := b2.size; simp; omega) _)⟩)
      ((first
        | (go_at_call 113; refine (number_anyT _ (.slice none 0 0) [] v _ (OwnS.nil _ _ _) (CellsOf.nil _ _) (Nat.le_refl _) (by simp [maxB]) hv).mono ?_; rintro e w2 ⟨bv, rfl, hownb, htb', hbb⟩; have htb := Lib.hid htb'; clear htb'; simp only [List.length_nil, Nat.zero_add, List.nil_append] at hownb;
            have b2 : Below w.heap.size w w2 := (by first | exact (Below.refl w.heap.size w).drew.trans hbb | exact (((Below.refl w.heap.size w).alloc (Nat.le_refl _) _).drew).trans (hbb.mono (by simp)) | exact ((Below.refl w.heap.size w).drew.alloc (Nat.le_refl _) _).trans (hbb.mono (by simp)));
            have hownb' : OwnS w2 w.heap.size 1 bv 8 (u8s (be8 v)) := hownb.mono (by simp);
            (first
              | (have hA : Below w.drew.heap.size w.drew w2 := by with_reducible exact hbb)
              | (have Q2 : Hid (w2.heap[w.heap.size]? = some (.cells #[.slice none 0 0] 59 (0, 0))) := Lib.hid (below_at hbb (by simp) (by first | exact heap_new w _ | exact heap_new w.drew _)))))
        | (refine step_append_u8T rfl (.tmp 9) (.tmp 23) rfl w.heap.size bv 8 (be8 v) rfl (by first | exact hownb'.below ((Below.refl _ w2).alloc (Nat.le_refl _) _) | exact hownb'.below (((Below.refl _ w2).alloc (Nat.le_refl _) _).alloc (by simp) _)) (by first | exact htb.out.alloc _ | exact (htb.out.alloc _).alloc _) [UInt8.ofNat (S.length / 256), UInt8.ofNat S.length] (by first | exact htwo _ | (have h9 := htwo (w2.alloc (.cells #[.slice none 0 0] 59 (0, 0))); rw [World.size_alloc] at h9; exact h9) | exact BytesAt.below (htwo w2) ((Below.refl _ _).alloc (Nat.le_refl _) _)) (by simp) (by have h9 := b2.size; simp at h9 ⊢; omega) ?_; intro v3 w3 hown3 hg3 ht3' hb3; have ht3 := Lib.hid ht3'; clear ht3';
            have b3 : Below w.heap.size w w3 := (by first | exact (b2.alloc b2.size _).trans hb3 | exact ((b2.alloc b2.size _).alloc (by have := b2.size; simp; omega) _).trans hb3);
            obtain ⟨va, vcap, rfl⟩ := hown3.shape;
            (first
              | (have Q3 : Hid (w3.heap[w.heap.size]? = some (.cells #[.slice none 0 0] 59 (0, 0))) := Lib.hid (box_early hownb' (by rw [be8_length]; omega) Q2.out hg3); have x0 := cell_of_row _ _ 0 _ _ _ Q3.out; have y0 := frozen_of_row _ _ 0 _ _ Q3.out; have l0 := block_lt Q3.out)
              | (have Q3 : Hid (w3.heap[w2.heap.size]? = some (.cells #[.slice none 0 0] 59 (0, 0))) := Lib.hid (box_first hownb' (by rw [be8_length]; omega) hg3); have x0 := cell_of_row _ _ 0 _ _ _ Q3.out; have y0 := frozen_of_row _ _ 0 _ _ Q3.out; have l0 := block_lt Q3.out)
              | (have Q3 : Hid (w3.heap[w2.heap.size + 1]? = some (.cells #[.slice none 0 0] 59 (0, 0))) := Lib.hid (box_second hownb' (by rw [be8_length]; omega) hg3); have x0 := cell_of_row _ _ 0 _ _ _ Q3.out; have y0 := frozen_of_row _ _ 0 _ _ Q3.out; have l0 := block_lt Q3.out)
              | skip))))
    all_goals go_wp2_with fail
    all_goals go_meet
    · exact ⟨w3.heap.size, _, rfl, InBox.late hown3 (by simp [be8_length]) ht3.out b3.size, b3.alloc b3.size _⟩
    · exact ⟨w2.heap.size + 1, _, rfl, InBox.put Q3.out hown3 (by simp [be8_length]) ht3.out (by have := b2.size; omega), b3.setCell (p := ⟨w2.heap.size + 1, 0, none⟩) (Nat.le_succ_of_le b2.size) _⟩
    · exact ⟨w2.heap.size, _, rfl, InBox.put Q3.out hown3 (by simp [be8_length]) ht3.out b2.size, b3.setCell (p := ⟨w2.heap.size, 0, none⟩) b2.size _⟩
    · exact ⟨w.heap.size, _, rfl, InBox.put Q3.out hown3 (by simp [be8_length]) ht3.out (Nat.le_refl _), b3.setCell (p := ⟨w.heap.size, 0, none⟩) (Nat.le_refl _) _⟩
  case rest =>
    obtain ⟨Bb, bv, rfl, hI, hB⟩ := hcut
    have hEc := he.below hB
    gi_wp2_with (refine ⟨trivial, (callsIn_wide.2 (entsFn_any q off _)).mono ?_⟩; rintro e w5 ⟨rfl, rfl⟩)
    have bM := Boxed.new wc 173 (.pointer (some ⟨q, off, none⟩))
    have hI5 := hI.alloc (.cells #[.pointer (some ⟨q, off, none⟩)] 173)
    have hB5 := hB.alloc hB.size (.cells #[.pointer (some ⟨q, off, none⟩)] 173)
    have hM : wc.heap.size < (wc.alloc (.cells #[.pointer (some ⟨q, off, none⟩)] 173)).heap.size := by simp
    have hwM : w.heap.size ≤ wc.heap.size := hB.size
    obtain ⟨Bm, hBm⟩ : ∃ Bm, Bm = wc.heap.size := ⟨_, rfl⟩
    obtain ⟨W5, hW5⟩ : ∃ W5, W5 = wc.alloc (.cells #[.pointer (some ⟨q, off, none⟩)] 173) := ⟨_, rfl⟩
    rw [← hW5] at bM hI5 hB5 hM ⊢
    rw [← hBm] at bM hM hwM ⊢
    clear hW5 hBm hI hB hEc
    have hE5 := he.below hB5
    have hmx : maxLen = 9223372036854775807 := rfl
    refine wpIn_rangeFunc_ownH rfl (by omega) (gf := 90) (lb := #[.pointer (some ⟨Bm, 0, none⟩)]) rfl trivial (enters_of Tryz.func90 (by kernel_rfl) rfl)
      (entries_stopsF (β := {x : E // x ∈ S}) Subtype.val S.attach (9 - 1) Bm q off r S (List.attach_map_subtype_val S) W5 hM bM.cell hE5 (by omega)) (fun h k => KeepsE.trans h k)
      (fun W l o o' hl ho hc _ => ⟨by simp, (fun k hk => World.putObj_heap_other (by have := hB5.size; rcases hk with rfl | rfl | rfl <;> omega)), (fun k cs fz hk => (World.putObj_heap_other (fun e => by subst e; rw [hk] at ho; cases ho; cases hc)).trans hk)⟩) (Below.refl _ _) (fun _ => rfl)
      (ToldI w.heap.size Bb Bm q off w (be8 v ++ [UInt8.ofNat (S.length / 256), UInt8.ofNat S.length]))
      (fun _ _ _ => False)
      (toldI_own (by have := hB5.size; omega) (Nat.le_refl _))
      (fun _ _ _ _ _ hs _ _ => hs)
      ⟨⟨bv, by simpa [entsB] using hI5⟩, bM, hB5⟩
      (fun x a' W => ∃ Bx, Bm < Bx ∧ W.heap[Bx]? = some (.cells #[.int .i64 x.1.1.1, .string ⟨x.1.1.2.toArray⟩] 94 (0, 0)) ∧ a' = { tmps := #[.int .u64 v, .pointer (some ⟨q, off, none⟩), undef, undef, .slice none 0 0, .pointer (some ⟨Bb, 0, none⟩), .pointer (some ⟨Bx, 0, none⟩), .string ⟨x.1.2.toArray⟩, u8, u9, u10, u11, u12, u13, u14, u15, u16, u17, u18, u19, u20, u21, u22, u23, u24, .pointer (some ⟨q, off, none⟩), .func (.func 90) #[] #[.pointer (some ⟨Bm, 0, none⟩)], .agg #[.int .i64 x.1.1.1, .string ⟨x.1.1.2.toArray⟩], .string ⟨x.1.2.toArray⟩, u29, u30, u31, u32, u33, u34, u35, u36, u37, u38, u39, u40, u41, u42], defers := [] })
      (fun x a' _ X Y row hs hg hr => by
        obtain ⟨Bx, h1, h2, h3⟩ := hs
        exact ⟨Bx, h1, (hg.block Bx (block_lt h2) (fun e => by obtain ⟨-, o, ho, hc⟩ := hr Bx e.symm; rw [h2] at ho; cases ho; cases hc)).trans h2, h3⟩)
      ?assign ?body ?done ?stop
    case assign =>
      rintro l pre x W K ⟨⟨bw, h0⟩, h1, h2⟩ hK
      unfold kV keyV
      gi_wp2
      exact hK _ _ ((KeepsOthers.alloc _ _).from _) (KeepsE.of_below ((Below.refl _ W).alloc (Nat.le_refl _) _) h1.lt (by have := h2.size; omega) (by have := h2.size; omega)) ⟨⟨bw, h0.alloc _⟩, h1.alloc _, h2.alloc h2.size _⟩ ⟨W.heap.size, h1.lt, heap_new W _, rfl⟩
    case body =>
      rintro l pre ⟨⟨⟨kt, kb⟩, vb⟩, hxm⟩ a' W hl ⟨rr, hrr⟩ ⟨⟨bw, h0⟩, h1, h2⟩ ⟨Bx, hBx, bX, rfl⟩ hlt
      obtain ⟨g0, g1, g2, g3⟩ := hb _ hxm
      simp only at g0 g1 g2 g3
      have gl := entsB_len hb pre
      have HB := Lib.hid hb
      clear hb
      obtain ⟨va, vcap, rfl⟩ := h0.own.shape
      obtain ⟨L, hL⟩ : ∃ L, L = be8 v ++ [UInt8.ofNat (S.length / 256), UInt8.ofNat S.length] ++ entsB (pre.map Subtype.val) := ⟨_, rfl⟩
      have hLl : L.length ≤ 20000000 := by rw [hL]; simp only [List.length_append, be8_length, List.length_cons, List.length_nil]; omega
      have HL := Lib.hid hL
      rw [← hL] at h0
      clear hL gl
      have x0 := cell_of_row _ _ 0 _ _ _ bX
      have x1 := cell_of_row _ _ 1 _ _ _ bX
      have hcv := conv_byte kt g0 g1
      have cB := h0.box.cell
      have sW := h2.size
      have hone := one_byte kt g0 g1 W
      have hA := h0.alloc (.cells #[.int .u8 kt] 5)
      have hsA : w.heap.size ≤ (W.alloc (.cells #[.int .u8 kt] 5)).heap.size := by simp; omega
      have bXA := heap_old W (.cells #[.int .u8 kt] 5) bX
      have KA : KeepsE Bm q r W (W.alloc (.cells #[.int .u8 kt] 5)) := KeepsE.of_below ((Below.refl _ W).alloc (Nat.le_refl _) _) h1.lt (by omega) (by omega)
      have bMA := h1.alloc (.cells #[.int .u8 kt] 5)
      have bBA := h2.alloc h2.size (.cells #[.int .u8 kt] 5)
      gi_wp2_with (first
        | (gi_at_builtin; refine wpListIn_append_u8T (fun _ => trivial) rfl (.tmp 29) (.tmp 33) rfl w.heap.size (.slice va L.length vcap) L.length L rfl hA.own hA.typ [UInt8.ofNat kt.toNat] hone (by simp only [List.length_cons, List.length_nil]; omega) hsA ?_; intro v1 w1 ho1 hg1 ht1 hb1; simp only [List.length_cons, List.length_nil, Nat.zero_add] at ho1; obtain ⟨va1, vcap1, rfl⟩ := ho1.shape; have c1 := (hA.still hg1).cell; have f1 := (hA.still hg1).frozen; have hS1 := hA.stored hg1 ho1 (by simp) ht1; have bX1 := hA.otherType (v' := .slice va1 (L.length + 1) vcap1) hg1 bXA (by decide) (by decide); have y1 := cell_of_row _ _ 1 _ _ _ bX1; have cS1 := hS1.box.cell; have hsS1 : w.heap.size ≤ (w1.setCell ⟨Bb, 0, none⟩ (.slice va1 (L.length + 1) vcap1)).heap.size := (by rw [size_setCell]; have := hg1.size; omega))
        | (gi_at_builtin; refine wpListIn_append_strT (fun _ => trivial) rfl (.tmp 35) (.tmp 37) rfl w.heap.size (.slice va1 (L.length + 1) vcap1) (L.length + 1) (L ++ [UInt8.ofNat kt.toNat]) rfl (by have h9 := hS1.own; rw [List.length_append] at h9; exact h9) hS1.typ kb rfl (by omega) hsS1 ?_; intro v2 w2 ho2 hg2 ht2 hb2; obtain ⟨va2, vcap2, rfl⟩ := ho2.shape; have c2 := (hS1.still hg2).cell; have f2 := (hS1.still hg2).frozen; have hS2 := hS1.stored hg2 ho2 (by simp; omega) ht2; have cS2 := hS2.box.cell; have hsS2 : w.heap.size ≤ (w2.setCell ⟨Bb, 0, none⟩ (.slice va2 (L.length + 1 + kb.length) vcap2)).heap.size := (by rw [size_setCell]; have := hg2.size; omega))
        | (gi_at_builtin; refine wpListIn_append_strT (fun _ => trivial) rfl (.tmp 39) (.tmp 40) rfl w.heap.size (.slice va2 (L.length + 1 + kb.length) vcap2) (L.length + 1 + kb.length) (L ++ [UInt8.ofNat kt.toNat] ++ kb) rfl (by have h9 := hS2.own; rw [show (L ++ [UInt8.ofNat kt.toNat] ++ kb).length = L.length + 1 + kb.length by simp; omega] at h9; exact h9) hS2.typ vb rfl (by omega) hsS2 ?_; intro v3 w3 ho3 hg3 ht3 hb3; obtain ⟨va3, vcap3, rfl⟩ := ho3.shape; have c3 := (hS2.still hg3).cell; have f3 := (hS2.still hg3).frozen; have hS3 := hS2.stored hg3 ho3 (by simp; omega) ht3))
      have bM1 := hA.otherType (v' := .slice va1 (L.length + 1) vcap1) hg1 bMA (by decide) (by decide)
      have bM2 := hS1.otherType (v' := .slice va2 (L.length + 1 + kb.length) vcap2) hg2 bM1 (by decide) (by decide)
      have bM3 := hS2.otherType (v' := .slice va3 (L.length + 1 + kb.length + vb.length) vcap3) hg3 bM2 (by decide) (by decide)
      have e : be8 v ++ [UInt8.ofNat (S.length / 256), UInt8.ofNat S.length] ++ entsB ((pre ++ [(⟨((kt, kb), vb), hxm⟩ : {x : E // x ∈ S})]).map Subtype.val) = L ++ [UInt8.ofNat kt.toNat] ++ kb ++ vb := by
        rw [List.map_append, List.map_singleton, entsB_snoc, HL.out]; simp [entBytes]
      have kO := ((KeepsOthers.alloc W (.cells #[.int .u8 kt] 5)).trans (hA.others (v' := .slice va1 (L.length + 1) vcap1) hg1)).trans ((hS1.others (v' := .slice va2 (L.length + 1 + kb.length) vcap2) hg2).trans (hS2.others (v' := .slice va3 (L.length + 1 + kb.length + vb.length) vcap3) hg3))
      have kE := KA.trans ((hA.keepsE (x := Bm) (y := q) (z := r) (v' := .slice va1 (L.length + 1) vcap1) hg1 hsA bMA (by decide) (by decide) (by omega) (by omega)).trans ((hS1.keepsE (x := Bm) (y := q) (z := r) (v' := .slice va2 (L.length + 1 + kb.length) vcap2) hg2 hsS1 bM1 (by decide) (by decide) (by omega) (by omega)).trans (hS2.keepsE (x := Bm) (y := q) (z := r) (v' := .slice va3 (L.length + 1 + kb.length + vb.length) vcap3) hg3 hsS2 bM2 (by decide) (by decide) (by omega) (by omega))))
      have kB := bBA.trans ((hA.lower (v' := .slice va1 (L.length + 1) vcap1) hg1 hsA).trans ((hS1.lower (v' := .slice va2 (L.length + 1 + kb.length) vcap2) hg2 hsS1).trans (hS2.lower (v' := .slice va3 (L.length + 1 + kb.length + vb.length) vcap3) hg3 hsS2)))
      refine ⟨kO.from _, kE, ⟨.slice va3 (L.length + 1 + kb.length + vb.length) vcap3, ?_⟩, bM3, kB⟩
      rw [e]
      exact hS3
    case done =>
      rintro D ys W hD rfl ⟨⟨bw, h0⟩, h1, h2⟩ hK
      have cB := h0.box.cell
      have hsW := h2.size
      gi_wp2_with fail
      refine ⟨by simp, .inl ⟨_, _, rfl, run_takeDeferred hK, ?_⟩⟩
      have hP := h0.kept (grownBy_putObj' W D (.deferred none)) (fun r e => by cases e; exact ⟨_, hK, rfl⟩)
      have e : be8 v ++ [UInt8.ofNat (S.length / 256), UInt8.ofNat S.length] ++ entsB (S.attach.map Subtype.val) = allB v S := by rw [List.attach_map_subtype_val]; rfl
      rw [e] at hP
      exact ⟨_, results_tmp rfl _ _ _, bw, rfl, hP.own, h2.trans (belowK_b (w := w) (Nat.le_refl _) W D _ _ (by omega) hK rfl rfl)⟩
    case stop =>
      rintro D c pre W _ _ h _
      exact h.elim
end Go.Proofs.YtkkfmkhbdoeglaaGreatDoor
