/- The contract of Route. No condition. -/
import Derived.Test.YtkkfmkhbdoeglaaDoorApply
import Derived.Test.YtkkfmkhbdoeglaaDoorLongPlain
import Derived.Test.YtkkfmkhbdoeglaaDoorPlainA
namespace Go.Proofs.YtkkfmkhbdoeglaaDoor
open Go.RowKit

theorem litAt (w : World) (l : List UInt8) (C : Array Value) (n : Nat) (hn : l.length = n) (hC : C.toList = u8s l) (hm : n ≤ 100) : BytesAt (w.alloc (.cells C 5)) (.slice (some ⟨w.heap.size, 0, none⟩) n n) l := by
  have hs : C.size = n := by rw [← Array.length_toList, hC, u8s_length, hn]
  have := (OwnS.new w C 5 0 0 0 1 n n (Nat.zero_le _) (Nat.le_refl _) (by unfold maxLen; omega) (by omega) (.inl (Nat.le_refl _))).sliceAt
  rw [hC, List.take_of_length_le (by rw [u8s_length]; omega)] at this
  rw [← hn] at this ⊢
  exact this
theorem key_bytes (B k : Nat) (hB : B < 4294967296) (hk : k ≤ 32) : (#[Value.int .u8 ((B : Int) / 16777216), .int .u8 ((B : Int) / 65536 % 256), .int .u8 ((B : Int) / 256 % 256), .int .u8 ((B : Int) % 256), .int .u8 (k : Int)] : Array Value).toList = u8s (keyA B k) := by
  simp [u8s, keyA, be4]
  omega
theorem cut_int (A k : Nat) (hA : A < 4294967296) : (A : Int) / 2 ^ (32 - k) * 2 ^ (32 - k) % 4294967296 = ((cutN A k : Nat) : Int) := by
  have h3 : (A : Int) / 2 ^ (32 - k) * 2 ^ (32 - k) = ((cutN A k : Nat) : Int) := by
    unfold cutN topN
    push_cast
    rfl
  have h4 := cutN_le A k
  rw [h3]
  exact Int.emod_eq_of_lt (by omega) (by omega)
/-- what holds at Route's loop -/
def RouteRel (w : World) (A : Nat) (S : List E) (n : Value) (wr : World) : Prop :=
  Below w.heap.size w wr ∧ ((∃ k : Nat, k ≤ 32 ∧ n = .int .i64 (k : Int) ∧ routeN A S 32 = routeN A S k) ∨ (n = .int .i64 (-1) ∧ routeN A S 32 = none))
def routeV (o : Option (List UInt8)) : Value := match o with
  | some v => .tuple #[.string ⟨v.toArray⟩, .bool true]
  | none => .tuple #[.string ⟨#[]⟩, .bool false]
theorem routeN_at (A : Nat) (S : List E) (k : Nat) : routeN A S k = match getS (1, keyA (cutN A k) k) S with
    | some v => some v
    | none => if k = 0 then none else routeN A S (k - 1) := by
  cases k with
  | zero =>
    unfold routeN
    cases getS (1, keyA (cutN A 0) 0) S <;> rfl
  | succ k =>
    rw [show routeN A S (k + 1) = match getS (1, keyA (cutN A (k + 1)) (k + 1)) S with | some v => some v | none => routeN A S k from rfl]
    cases getS (1, keyA (cutN A (k + 1)) (k + 1)) S with
    | some v => rfl
    | none => simp
theorem RouteRel.next {w W : World} {A k : Nat} {S : List E} (hb : Below w.heap.size w W) (hk : k ≤ 32) (h32 : routeN A S 32 = routeN A S k) (hg : getS (1, keyA (cutN A k) k) S = none) (q : Nat) : RouteRel w A S (.int .i64 ((k : Int) - 1)) (W.drewN q) := by
  rw [routeN_at A S k, hg] at h32
  refine ⟨hb.drewN q, ?_⟩
  by_cases h0 : k = 0
  · subst h0
    exact .inr ⟨rfl, h32⟩
  · simp only [if_neg h0] at h32
    exact .inl ⟨k - 1, by omega, by rw [show ((k - 1 : Nat) : Int) = (k : Int) - 1 by omega], h32⟩
set_option maxRecDepth 100000 in
set_option maxHeartbeats 1000000 in
theorem route_short (b off r : Nat) (S : List E) (s : List UInt8) (w : World) (_he : EntAt w b off r S) (_hl : s.length ≤ maxB) (h4 : s.length ≠ 4) :
    Calls Tryd.prog 39 #[.pointer (some ⟨b, off, none⟩), .string ⟨s.toArray⟩] w fun e w' => e = .returned (routeV none) ∧ Below w.heap.size w w' := by
  unfold maxB at _hl
  have hne : ((s.length : Int) != 4) = true := by rw [bne_iff_ne]; omega
  go_enter Tryd.func39, Tryd.ntmps39
  go_wp2
  go_ret2
  exact ⟨rfl, Below.refl _ _⟩
set_option maxRecDepth 100000 in
set_option maxHeartbeats 2000000 in
theorem route_any (b off r : Nat) (S : List E) (x0 x1 x2 x3 : UInt8) (w : World) (he : EntAt w b off r S) :
    Calls Tryd.prog 39 #[.pointer (some ⟨b, off, none⟩), .string ⟨[x0, x1, x2, x3].toArray⟩] w fun e w' => e = .returned (routeV (routeN (be32 x0 x1 x2 x3) S 32)) ∧ Below w.heap.size w w' := by
  have hA : be32 x0 x1 x2 x3 < 4294967296 := by
    have := x0.toNat_lt; have := x1.toNat_lt; have := x2.toNat_lt; have := x3.toNat_lt
    unfold be32; omega
  have HAD := Lib.hid (fun W => address_any x0 x1 x2 x3 [] W (by decide))
  generalize be32 x0 x1 x2 x3 = A at *
  have HE := Lib.hid he
  clear he
  go_enter Tryd.func39, Tryd.ntmps39
  go_wp2_with fail
  refine (HAD.out _).mono ?_
  rintro e w1 ⟨rfl, q1, rfl⟩
  go_wp2
  go_loopw [7] (fun n wr => RouteRel w A S n wr) (fun n _ => (intOf n + 1).toNat)
  case atStart => exact ⟨(Below.refl _ w).drewN q1, .inl ⟨32, Nat.le_refl _, rfl, rfl⟩⟩
  case round =>
    obtain ⟨hb, ⟨k, hk, rfl, h32⟩ | ⟨rfl, h32⟩⟩ := hrel
    · have hBv := cut_int A k hA
      have hcl := cutN_le A k
      have hek : EntAt wr b off r S := HE.out.below hb
      have hc := hek.cell
      have hbl := hek.lt
      have H32 := Lib.hid h32
      have HEK := Lib.hid hek
      clear h32 hek
      have hB : cutN A k < 4294967296 := by omega
      obtain ⟨B, hBe⟩ : ∃ B, B = cutN A k := ⟨_, rfl⟩
      rw [← hBe] at hBv hB hcl
      have HB := Lib.hid hBe
      clear hBe
      have hkk : (0 : Int) ≤ k := by omega
      have hk32 : (k : Int) ≤ 32 := by omega
      have hlit := litAt wr (keyA B k) #[Value.int .u8 ((B : Int) / 16777216), .int .u8 ((B : Int) / 65536 % 256), .int .u8 ((B : Int) / 256 % 256), .int .u8 ((B : Int) % 256), .int .u8 (k : Int)] 5 (by simp [keyA, be4]) (key_bytes B k hB hk) (by decide)
      have HLIT := Lib.hid hlit
      have hal : Below wr.heap.size wr (wr.alloc (.cells #[Value.int .u8 ((B : Int) / 16777216), .int .u8 ((B : Int) / 65536 % 256), .int .u8 ((B : Int) / 256 % 256), .int .u8 ((B : Int) % 256), .int .u8 (k : Int)] 5)) := (Below.refl _ wr).alloc (Nat.le_refl _) _
      have hlk := TabAt.lookup_ok (w := wr.alloc (.cells #[Value.int .u8 ((B : Int) / 16777216), .int .u8 ((B : Int) / 65536 % 256), .int .u8 ((B : Int) / 256 % 256), .int .u8 ((B : Int) % 256), .int .u8 (k : Int)] 5)) (HEK.out.tab.old (hal.block r HEK.out.tab.lt)) (mt := 89) Tryd.underlying89 (zeroVal _) (1, keyA B k)
      clear hlit
      obtain ⟨KB, hKB⟩ : ∃ KB, KB = keyA B k := ⟨_, rfl⟩
      rw [← hKB] at HLIT hlk
      have HKB := Lib.hid hKB
      clear hKB
      simp only [kV, keyV, strV] at hlk
      cases hg : getS (1, KB) S with
      | some v =>
        rw [hg] at hlk
        simp only [Option.getD_some, Option.isSome_some] at hlk
        have HRT : Hid (routeN A S 32 = some v) := Lib.hid (by rw [H32.out, routeN_at A S k, ← HB.out, ← HKB.out, hg])
        clear hg
        go_wp2_with (refine wpList_string_of rfl (.tmp 41) rfl KB (by exact HLIT.out) ?_)
        go_ret2
        exact ⟨by rw [HRT.out]; rfl, (hb.trans (hal.mono hb.size)).alloc (by have := hb.size; simp; omega) _⟩
      | none =>
        rw [hg] at hlk
        simp only [Option.getD_none, Option.isSome_none] at hlk
        have HG : Hid (getS (1, keyA (cutN A k) k) S = none) := Lib.hid (by rw [← HB.out, ← HKB.out, hg])
        clear hg
        go_wp2_with (refine wpList_string_of rfl (.tmp 41) rfl KB (by exact HLIT.out) ?_)
        refine ⟨RouteRel.next ((hb.trans (hal.mono hb.size)).alloc (by have := hb.size; simp; omega) _) hk H32.out HG.out 0, ?_⟩
        simp [intOf]
    · have H32 := Lib.hid h32
      clear h32
      have hneg : ¬ (0 : Int) ≤ -1 := by decide
      go_wp2
      go_ret2
      exact ⟨by rw [H32.out]; rfl, hb⟩
end Go.Proofs.YtkkfmkhbdoeglaaDoor
