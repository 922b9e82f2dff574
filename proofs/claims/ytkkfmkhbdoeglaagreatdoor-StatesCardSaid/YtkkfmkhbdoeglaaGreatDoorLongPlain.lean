/- The longest route that holds, in plain data. No program. No condition. -/
import Derived.Test.YtkkfmkhbdoeglaaGreatDoorTabPlain
import Derived.Test.YtkkfmkhbdoeglaaGreatDoorTurn
import Derived.Test.YtkkfmkhbdoeglaaGreatDoorRefCodecA
import Derived.Test.YtkkfmkhbdoeglaaGreatDoorApply
import Derived.Test.YtkkfmkhbdoeglaaGreatDoorPlainA
namespace Go.Proofs.YtkkfmkhbdoeglaaGreatDoor

/-- the first n bits of 32, as a number; the others struck -/
def topN (N n : Nat) : Nat := N / 2 ^ (32 - n)
def cutN (N n : Nat) : Nat := topN N n * 2 ^ (32 - n)
def keyA (N n : Nat) : List UInt8 := be4 N ++ [UInt8.ofNat n]
theorem cutN_le (N n : Nat) : cutN N n ≤ N := Nat.div_mul_le_self _ _
theorem topN_cut (N n : Nat) : topN (cutN N n) n = topN N n := by
  unfold cutN
  rw [show topN (topN N n * 2 ^ (32 - n)) n = topN N n * 2 ^ (32 - n) / 2 ^ (32 - n) from rfl]
  exact Nat.mul_div_cancel _ (Nat.two_pow_pos _)
theorem cutN_cut (N n : Nat) : cutN (cutN N n) n = cutN N n := by
  rw [show cutN (cutN N n) n = topN (cutN N n) n * 2 ^ (32 - n) from rfl, topN_cut]
  rfl
theorem cut_eq {A P n : Nat} (h : cutN P n = P) : cutN A n = P ↔ topN A n = topN P n := by
  constructor
  · intro e
    rw [← e, topN_cut]
  · intro e
    rw [← h]
    unfold cutN
    rw [e]
theorem topN_succ (N k : Nat) (h : k < 32) : topN N (k + 1) = 2 * topN N k + N / 2 ^ (31 - k) % 2 := by
  unfold topN
  rw [show 32 - (k + 1) = 31 - k by omega, show 32 - k = (31 - k) + 1 by omega, Nat.pow_succ, ← Nat.div_div_eq_div_mul]
  omega
theorem top_step (A P k : Nat) (h : k < 32) : (topN A (k + 1) = topN P (k + 1)) ↔ (topN A k = topN P k ∧ A / 2 ^ (31 - k) % 2 = P / 2 ^ (31 - k) % 2) := by
  rw [topN_succ A k h, topN_succ P k h]
  omega
theorem topN_zero (N : Nat) (h : N < 4294967296) : topN N 0 = 0 := Nat.div_eq_of_lt h
theorem be4_inj {M N : Nat} (hm : M < 4294967296) (hn : N < 4294967296) (h : be4 M = be4 N) : M = N := by
  obtain ⟨a, b, c, d, h1, h2⟩ := be4_be32 M hm
  obtain ⟨a', b', c', d', h3, h4⟩ := be4_be32 N hn
  rw [h1, h3] at h
  cases h
  exact h2.symm.trans h4
theorem keyA_inj {M N m n : Nat} (hM : M < 4294967296) (hN : N < 4294967296) (hm : m ≤ 32) (hn : n ≤ 32) (h : keyA M m = keyA N n) : M = N ∧ m = n := by
  unfold keyA at h
  obtain ⟨h1, h2⟩ := List.append_inj h (by simp [be4])
  refine ⟨be4_inj hM hN h1, ?_⟩
  have := congrArg (fun l => l.map UInt8.toNat) h2
  simp at this
  omega
/-- all entries are routes -/
def RouteE (e : E) : Prop := ∃ N n, n ≤ 32 ∧ N < 4294967296 ∧ e.1 = (1, keyA N n)
/-- best and value: the longest route of S that holds for A, and its next hop -/
def LongInv (A : Nat) (S : List E) (best : Int) (value : List UInt8) : Prop :=
  SortedE S ∧ (∀ e ∈ S, RouteE e) ∧ ((best = -1 ∧ value = [] ∧ ∀ N n v, ((1, keyA N n), v) ∈ S → n ≤ 32 → N < 4294967296 → cutN A n ≠ N) ∨
    ∃ b : Nat, best = b ∧ b ≤ 32 ∧ ((1, keyA (cutN A b) b), value) ∈ S ∧ ∀ N n v, ((1, keyA N n), v) ∈ S → n ≤ 32 → N < 4294967296 → cutN A n = N → n ≤ b)
theorem LongInv.start (A : Nat) : LongInv A [] (-1) [] := ⟨SortedE.nil, (fun _ h => by cases h), .inl ⟨rfl, rfl, fun _ _ _ h => by cases h⟩⟩
theorem LongInv.step {A : Nat} {S : List E} {best : Int} {value v : List UInt8} {N n : Nat} (h : LongInv A S best value) (_hA : A < 4294967296) (hn : n ≤ 32) (hN : N < 4294967296) (hfree : ∀ x ∈ S, x.1 ≠ (1, keyA N n)) :
    LongInv A (putS (1, keyA N n) v S) (if cutN A n = N ∧ best < n then (n : Int) else best) (if cutN A n = N ∧ best < n then v else value) := by
  obtain ⟨hs, hr, hb⟩ := h
  refine ⟨sorted_put _ _ hs, fun e he => ?_, ?_⟩
  · rcases (mem_put _ _ _ _).1 he with rfl | ⟨h1, -⟩
    · exact ⟨N, n, hn, hN, rfl⟩
    · exact hr e h1
  · have hold : ∀ N' n' v', ((1, keyA N' n'), v') ∈ putS (1, keyA N n) v S → n' ≤ 32 → N' < 4294967296 → (N' = N ∧ n' = n) ∨ ((1, keyA N' n'), v') ∈ S := by
      intro N' n' v' hm h1 h2
      rcases (mem_put _ _ _ _).1 hm with e | ⟨h3, -⟩
      · have := congrArg (fun x : E => x.1.2) e
        exact .inl (keyA_inj h2 hN h1 hn this)
      · exact .inr h3
    by_cases hc : cutN A n = N ∧ best < n
    · rw [if_pos hc, if_pos hc]
      refine .inr ⟨n, rfl, hn, (mem_put _ _ _ _).2 (.inl (by rw [hc.1])), fun N' n' v' hm h1 h2 h3 => ?_⟩
      rcases hold N' n' v' hm h1 h2 with ⟨-, rfl⟩ | hm'
      · exact Nat.le_refl _
      · rcases hb with ⟨-, -, hb⟩ | ⟨b, hb1, -, -, hb⟩
        · exact absurd h3 (hb N' n' v' hm' h1 h2)
        · have := hb N' n' v' hm' h1 h2 h3
          have := hc.2
          omega
    · rw [if_neg hc, if_neg hc]
      rcases hb with ⟨hb0, hv, hb⟩ | ⟨b, hb1, hb2, hb3, hb⟩
      · refine .inl ⟨hb0, hv, fun N' n' v' hm h1 h2 h3 => ?_⟩
        rcases hold N' n' v' hm h1 h2 with ⟨rfl, rfl⟩ | hm'
        · exact hc ⟨h3, by omega⟩
        · exact hb N' n' v' hm' h1 h2 h3
      · refine .inr ⟨b, hb1, hb2, (mem_put _ _ _ _).2 (.inr ⟨hb3, hfree _ hb3⟩), fun N' n' v' hm h1 h2 h3 => ?_⟩
        rcases hold N' n' v' hm h1 h2 with ⟨rfl, rfl⟩ | hm'
        · refine Nat.le_of_not_lt fun hlt => hc ⟨h3, by omega⟩
        · exact hb N' n' v' hm' h1 h2 h3
/-- what Route finds: from 32 bits down -/
def routeN (A : Nat) (S : List E) : Nat → Option (List UInt8)
  | 0 => getS (1, keyA (cutN A 0) 0) S
  | n + 1 => match getS (1, keyA (cutN A (n + 1)) (n + 1)) S with
    | some v => some v
    | none => routeN A S n
theorem routeN_spec {A : Nat} {S : List E} {best : Int} {value : List UInt8} (h : LongInv A S best value) (hA : A < 4294967296) : ∀ m : Nat, best ≤ m → m ≤ 32 → routeN A S m = if best < 0 then none else some value := by
  obtain ⟨hs, -, hb⟩ := h
  have hc : ∀ n, cutN A n < 4294967296 := fun n => Nat.lt_of_le_of_lt (cutN_le A n) hA
  have hnone : ∀ n : Nat, best < n → n ≤ 32 → getS (1, keyA (cutN A n) n) S = none := by
    intro n h1 h2
    rw [get_none]
    rintro ⟨k, v⟩ hx e
    simp only at e
    subst e
    rcases hb with ⟨-, -, hb⟩ | ⟨b, hb1, -, -, hb⟩
    · exact hb _ _ _ hx h2 (hc n) rfl
    · have := hb _ _ _ hx h2 (hc n) rfl
      omega
  have hsome : ∀ n : Nat, best = n → getS (1, keyA (cutN A n) n) S = some value := by
    intro n h1
    rcases hb with ⟨hb0, -, -⟩ | ⟨b, hb1, -, hb3, -⟩
    · omega
    · obtain rfl : n = b := by omega
      exact (get_iff hs.keys _ _).2 hb3
  intro m
  induction m with
  | zero =>
    intro h1 h2
    unfold routeN
    by_cases h0 : best = 0
    · rw [hsome 0 h0, if_neg (by omega)]
    · rw [hnone 0 (by omega) h2, if_pos (by omega)]
  | succ m ih =>
    intro h1 h2
    unfold routeN
    by_cases h0 : best = (m + 1 : Nat)
    · rw [hsome _ h0, if_neg (by omega)]
    · rw [hnone _ (by omega) h2]
      exact ih (by omega) (by omega)
/-- such a key may be -/
theorem keyA_good {N n : Nat} (hn : n ≤ 32) (hN : N < 4294967296) (hc : cutN N n = N) : isKeyB 1 (keyA N n) = true := by
  obtain ⟨a, b, c, d, h1, h2⟩ := be4_be32 N hN
  unfold keyA
  rw [h1]
  have hn2 : (UInt8.ofNat n).toNat = n := by simp; omega
  have : N * 2 ^ n % 4294967296 = 0 := by
    rw [← hc]
    unfold cutN
    rw [Nat.mul_assoc, ← Nat.pow_add, show 32 - n + n = 32 by omega]
    exact Nat.mul_mod_left _ _
  simp [isKeyB, hn2, h2, this, hn]
/-- clearing the bits behind n, one by one -/
def maskN (N n k : Nat) : Nat := cutN N n + N % 2 ^ (32 - k)
theorem maskN_start (N n : Nat) : maskN N n n = N := by
  unfold maskN cutN topN
  rw [Nat.mul_comm]
  exact Nat.div_add_mod _ _
theorem maskN_end (N n : Nat) : maskN N n 32 = cutN N n := by
  unfold maskN
  rw [Nat.sub_self, Nat.pow_zero, Nat.mod_one]
  rfl
theorem mod_step (N k : Nat) (h : k < 32) : N % 2 ^ (32 - k) = N / 2 ^ (31 - k) % 2 * 2 ^ (31 - k) + N % 2 ^ (31 - k) := by
  rw [show 32 - k = (31 - k) + 1 by omega, Nat.pow_succ, Nat.mod_mul]
  rw [Nat.mul_comm (2 ^ (31 - k))]
  omega
theorem maskN_bit (N n k : Nat) (h1 : n ≤ k) (h2 : k < 32) : maskN N n k / 2 ^ (31 - k) % 2 = N / 2 ^ (31 - k) % 2 := by
  unfold maskN cutN
  rw [mod_step N k h2]
  obtain ⟨d, hd⟩ : ∃ d, 32 - n = (31 - k) + 1 + d := ⟨k - n, by omega⟩
  have hp := Nat.two_pow_pos (31 - k)
  rw [hd, Nat.pow_add, Nat.pow_succ]
  generalize 2 ^ (31 - k) = p at *
  have hlt := Nat.mod_lt N hp
  generalize N % p = r at *
  have hb : N / p % 2 < 2 := Nat.mod_lt _ (by decide)
  generalize N / p % 2 = b at *
  rw [show topN N n * (p * 2 * 2 ^ d) + (b * p + r) = r + p * (topN N n * 2 ^ d * 2 + b) by simp [Nat.mul_add, Nat.mul_comm, Nat.mul_assoc]; omega]
  rw [Nat.add_mul_div_left _ _ hp, Nat.div_eq_of_lt hlt]
  omega
theorem maskN_step (N n k : Nat) (h1 : n ≤ k) (h2 : k < 32) : maskN N n (k + 1) + maskN N n k / 2 ^ (31 - k) % 2 * 2 ^ (31 - k) = maskN N n k := by
  rw [maskN_bit N n k h1 h2]
  unfold maskN
  rw [mod_step N k h2, show 32 - (k + 1) = 31 - k by omega]
  omega
end Go.Proofs.YtkkfmkhbdoeglaaGreatDoor

/- The contract of Route. No condition. -/
namespace Go.Proofs.YtkkfmkhbdoeglaaGreatDoor
open Go.RowKit

theorem litAt (w : World) (l : List UInt8) (C : Array Value) (n : Nat) (hn : l.length = n) (hC : C.toList = u8s l) (hm : n ≤ 100) : BytesAt (w.alloc (.cells C 5)) (.slice (some ⟨w.heap.size, 0, none⟩) n n) l := by
  have hs : C.size = n := by rw [← Array.length_toList, hC, u8s_length, hn]
  have := (OwnS.new w C 5 0 0 0 1 n n (Nat.zero_le _) (Nat.le_refl _) (by unfold maxLen; omega) (by omega) (.inl (Nat.le_refl _))).sliceAt
  rw [hC, List.take_of_length_le (by rw [u8s_length]; omega)] at this
  rw [← hn] at this ⊢
  exact this
theorem key_bytes (B k : Nat) (hB : B < 4294967296) (hk : k ≤ 32) : (#[Value.int .u8 ((B : Int) / 16777216), .int .u8 ((B : Int) / 65536 % 256), .int .u8 ((B : Int) / 256 % 256), .int .u8 ((B : Int) % 256), .int .u8 (k : Int)] : Array Value).toList = u8s (keyA B k) := by
  simp [u8s, keyA, be4]
  omega
theorem cut_int (A k : Nat) (hA : A < 4294967296) : (A : Int) / 2 ^ (32 - k) * 2 ^ (32 - k) % 4294967296 = ((cutN A k : Nat) : Int) := by
  have h3 : (A : Int) / 2 ^ (32 - k) * 2 ^ (32 - k) = ((cutN A k : Nat) : Int) := by
    unfold cutN topN
    push_cast
    rfl
  have h4 := cutN_le A k
  rw [h3]
  exact Int.emod_eq_of_lt (by omega) (by omega)
/-- what holds at Route's loop -/
def RouteRel (w : World) (A : Nat) (S : List E) (n : Value) (wr : World) : Prop :=
  Below w.heap.size w wr ∧ ((∃ k : Nat, k ≤ 32 ∧ n = .int .i64 (k : Int) ∧ routeN A S 32 = routeN A S k) ∨ (n = .int .i64 (-1) ∧ routeN A S 32 = none))
def routeV (o : Option (List UInt8)) : Value := match o with
  | some v => .tuple #[.string ⟨v.toArray⟩, .bool true]
  | none => .tuple #[.string ⟨#[]⟩, .bool false]
theorem routeN_at (A : Nat) (S : List E) (k : Nat) : routeN A S k = match getS (1, keyA (cutN A k) k) S with
    | some v => some v
    | none => if k = 0 then none else routeN A S (k - 1) := by
  cases k with
  | zero =>
    unfold routeN
    cases getS (1, keyA (cutN A 0) 0) S <;> rfl
  | succ k =>
    rw [show routeN A S (k + 1) = match getS (1, keyA (cutN A (k + 1)) (k + 1)) S with | some v => some v | none => routeN A S k from rfl]
    cases getS (1, keyA (cutN A (k + 1)) (k + 1)) S with
    | some v => rfl
    | none => simp
theorem RouteRel.next {w W : World} {A k : Nat} {S : List E} (hb : Below w.heap.size w W) (hk : k ≤ 32) (h32 : routeN A S 32 = routeN A S k) (hg : getS (1, keyA (cutN A k) k) S = none) (q : Nat) : RouteRel w A S (.int .i64 ((k : Int) - 1)) (W.drewN q) := by
  rw [routeN_at A S k, hg] at h32
  refine ⟨hb.drewN q, ?_⟩
  by_cases h0 : k = 0
  · subst h0
    exact .inr ⟨rfl, h32⟩
  · simp only [if_neg h0] at h32
    exact .inl ⟨k - 1, by omega, by rw [show ((k - 1 : Nat) : Int) = (k : Int) - 1 by omega], h32⟩
set_option maxRecDepth 100000 in
set_option maxHeartbeats 1000000 in
theorem route_short (b off r : Nat) (S : List E) (s : List UInt8) (w : World) (_he : EntAt w b off r S) (_hl : s.length ≤ maxB) (h4 : s.length ≠ 4) :
    Calls Tryz.prog 108 #[.pointer (some ⟨b, off, none⟩), .string ⟨s.toArray⟩] w fun e w' => e = .returned (routeV none) ∧ Below w.heap.size w w' := by
  unfold maxB at _hl
  have hne : ((s.length : Int) != 4) = true := by rw [bne_iff_ne]; omega
  go_enter Tryz.func108, Tryz.ntmps108
  go_wp2
  go_ret2
  exact ⟨rfl, Below.refl _ _⟩
set_option maxRecDepth 100000 in
set_option maxHeartbeats 2000000 in
theorem route_any (b off r : Nat) (S : List E) (x0 x1 x2 x3 : UInt8) (w : World) (he : EntAt w b off r S) :
    Calls Tryz.prog 108 #[.pointer (some ⟨b, off, none⟩), .string ⟨[x0, x1, x2, x3].toArray⟩] w fun e w' => e = .returned (routeV (routeN (be32 x0 x1 x2 x3) S 32)) ∧ Below w.heap.size w w' := by
  have hA : be32 x0 x1 x2 x3 < 4294967296 := by
    have := x0.toNat_lt; have := x1.toNat_lt; have := x2.toNat_lt; have := x3.toNat_lt
    unfold be32; omega
  have HAD := Lib.hid (fun W => address_any x0 x1 x2 x3 [] W (by decide))
  generalize be32 x0 x1 x2 x3 = A at *
  have HE := Lib.hid he
  clear he
  go_enter Tryz.func108, Tryz.ntmps108
  go_wp2_with fail
  refine (HAD.out _).mono ?_
  rintro e w1 ⟨rfl, q1, rfl⟩
  go_wp2
  go_loopw [7] (fun n wr => RouteRel w A S n wr) (fun n _ => (intOf n + 1).toNat)
  case atStart => exact ⟨(Below.refl _ w).drewN q1, .inl ⟨32, Nat.le_refl _, rfl, rfl⟩⟩
  case round =>
    obtain ⟨hb, ⟨k, hk, rfl, h32⟩ | ⟨rfl, h32⟩⟩ := hrel
    · have hBv := cut_int A k hA
      have hcl := cutN_le A k
      have hek : EntAt wr b off r S := HE.out.below hb
      have hc := hek.cell
      have hbl := hek.lt
      have H32 := Lib.hid h32
      have HEK := Lib.hid hek
      clear h32 hek
      have hB : cutN A k < 4294967296 := by omega
      obtain ⟨B, hBe⟩ : ∃ B, B = cutN A k := ⟨_, rfl⟩
      rw [← hBe] at hBv hB hcl
      have HB := Lib.hid hBe
      clear hBe
      have hkk : (0 : Int) ≤ k := by omega
      have hk32 : (k : Int) ≤ 32 := by omega
      have hlit := litAt wr (keyA B k) #[Value.int .u8 ((B : Int) / 16777216), .int .u8 ((B : Int) / 65536 % 256), .int .u8 ((B : Int) / 256 % 256), .int .u8 ((B : Int) % 256), .int .u8 (k : Int)] 5 (by simp [keyA, be4]) (key_bytes B k hB hk) (by decide)
      have HLIT := Lib.hid hlit
      have hal : Below wr.heap.size wr (wr.alloc (.cells #[Value.int .u8 ((B : Int) / 16777216), .int .u8 ((B : Int) / 65536 % 256), .int .u8 ((B : Int) / 256 % 256), .int .u8 ((B : Int) % 256), .int .u8 (k : Int)] 5)) := (Below.refl _ wr).alloc (Nat.le_refl _) _
      have hlk := TabAt.lookup_ok (w := wr.alloc (.cells #[Value.int .u8 ((B : Int) / 16777216), .int .u8 ((B : Int) / 65536 % 256), .int .u8 ((B : Int) / 256 % 256), .int .u8 ((B : Int) % 256), .int .u8 (k : Int)] 5)) (HEK.out.tab.old (hal.block r HEK.out.tab.lt)) (mt := 107) Tryz.underlying107 (zeroVal _) (1, keyA B k)
      clear hlit
      obtain ⟨KB, hKB⟩ : ∃ KB, KB = keyA B k := ⟨_, rfl⟩
      rw [← hKB] at HLIT hlk
      have HKB := Lib.hid hKB
      clear hKB
      simp only [kV, keyV, strV] at hlk
      cases hg : getS (1, KB) S with
      | some v =>
        rw [hg] at hlk
        simp only [Option.getD_some, Option.isSome_some] at hlk
        have HRT : Hid (routeN A S 32 = some v) := Lib.hid (by rw [H32.out, routeN_at A S k, ← HB.out, ← HKB.out, hg])
        clear hg
        go_wp2_with (refine wpList_string_of rfl (.tmp 41) rfl KB (by exact HLIT.out) ?_)
        go_ret2
        exact ⟨by rw [HRT.out]; rfl, (hb.trans (hal.mono hb.size)).alloc (by have := hb.size; simp; omega) _⟩
      | none =>
        rw [hg] at hlk
        simp only [Option.getD_none, Option.isSome_none] at hlk
        have HG : Hid (getS (1, keyA (cutN A k) k) S = none) := Lib.hid (by rw [← HB.out, ← HKB.out, hg])
        clear hg
        go_wp2_with (refine wpList_string_of rfl (.tmp 41) rfl KB (by exact HLIT.out) ?_)
        refine ⟨RouteRel.next ((hb.trans (hal.mono hb.size)).alloc (by have := hb.size; simp; omega) _) hk H32.out HG.out 0, ?_⟩
        simp [intOf]
    · have H32 := Lib.hid h32
      clear h32
      have hneg : ¬ (0 : Int) ≤ -1 := by decide
      go_wp2
      go_ret2
      exact ⟨by rw [H32.out]; rfl, hb⟩
end Go.Proofs.YtkkfmkhbdoeglaaGreatDoor
