/- A part of what is proved here: lemmas and contracts of single functions. No condition but those that each names. -/
import Derived.Deep.AppendSrc
import Derived.Handy
import Derived.Lib.Hide
import Derived.Test.YtkkfmkhbdoeglabGreatDoorProg
import Derived.WalkKit
import Derived.WalkLawsBesides
import Derived.WalkSpells
namespace Go.Proofs.YtkkfmkhbdoeglabGreatDoor
open Go.RowKit
/-- how long a slice or a string may be that a contract takes -/
def maxB : Nat := 140737488355000
/-- bytes as cells -/
def u8s (l : List UInt8) : List Value := l.map fun x => .int .u8 (x.toNat : Int)
theorem u8s_length (l : List UInt8) : (u8s l).length = l.length := by simp [u8s]
theorem u8s_get (l : List UInt8) (i : Nat) (h : i < l.length) : (u8s l)[i]? = some (.int .u8 (l[i].toNat : Int)) := by simp [u8s, h]
theorem cell_lt {w : World} {a : Addr} {v : Value} (h : w.cell? a = some v) : a.block < w.heap.size := by
  unfold World.cell? at h
  split at h
  · rename_i heq
    exact (Array.getElem?_eq_some_iff.1 heq).1
  · cases h
/-- a value is a slice of n elements, of k cells each, that reads as a list of cells -/
def SliceAt (w : World) (v : Value) (k n : Nat) (xs : List Value) : Prop :=
  xs.length = n * k ∧ ∃ a cap, v = .slice a n cap ∧ n ≤ cap ∧ ∀ i (h : i < xs.length), ∃ b off, a = some ⟨b, off, none⟩ ∧ w.cell? ⟨b, off + i, none⟩ = some xs[i]
/-- a value is a slice of bytes that reads as a list -/
def BytesAt (w : World) (v : Value) (l : List UInt8) : Prop := SliceAt w v 1 l.length (u8s l)
theorem BytesAt.opened {w : World} {v : Value} {l : List UInt8} (h : BytesAt w v l) :
    ∃ a cap, v = .slice a l.length cap ∧ l.length ≤ cap ∧ ∀ i (h : i < l.length), ∃ b off, a = some ⟨b, off, none⟩ ∧ w.cell? ⟨b, off + i, none⟩ = some (.int .u8 (l[i].toNat : Int)) := by
  obtain ⟨_, a, cap, rfl, hc, hx⟩ := h
  refine ⟨a, cap, rfl, hc, fun i hi => ?_⟩
  obtain ⟨b, off, rfl, hcell⟩ := hx i (by rw [u8s_length]; exact hi)
  exact ⟨b, off, rfl, by rw [hcell]; simp [u8s]⟩
theorem BytesAt.mk' {w : World} {a : Option Addr} {l : List UInt8} {cap : Nat} (hc : l.length ≤ cap) (hx : ∀ i (h : i < l.length), ∃ b off, a = some ⟨b, off, none⟩ ∧ w.cell? ⟨b, off + i, none⟩ = some (.int .u8 (l[i].toNat : Int))) :
    BytesAt w (.slice a l.length cap) l := by
  refine ⟨by simp [u8s], a, cap, rfl, hc, fun i hi => ?_⟩
  obtain ⟨b, off, rfl, hcell⟩ := hx i (by rw [u8s_length] at hi; exact hi)
  exact ⟨b, off, rfl, by rw [hcell]; simp [u8s]⟩
theorem SliceAt.frame {w w' : World} {v : Value} {k n : Nat} {xs : List Value} (h : SliceAt w v k n xs) (hb : ∀ b, v.ownBlock = some b → b < w.heap.size → w'.heap[b]? = w.heap[b]?) : SliceAt w' v k n xs := by
  obtain ⟨hl, a, cap, rfl, hc, hx⟩ := h
  refine ⟨hl, a, cap, rfl, hc, fun i hi => ?_⟩
  obtain ⟨b, off, rfl, hcell⟩ := hx i hi
  exact ⟨b, off, rfl, (World.cell?_of_block (w := w) (hb b rfl (cell_lt hcell))).trans hcell⟩
theorem SliceAt.below {w w' : World} {v : Value} {k n : Nat} {xs : List Value} (h : SliceAt w v k n xs) (hb : Below w.heap.size w w') : SliceAt w' v k n xs :=
  h.frame fun b _ hlt => hb.block b hlt
theorem BytesAt.below {w w' : World} {v : Value} {l : List UInt8} (h : BytesAt w v l) (hb : Below w.heap.size w w') : BytesAt w' v l := SliceAt.below h hb
theorem SliceAt.nil (w : World) (a : Option Addr) (k cap : Nat) : SliceAt w (.slice a 0 cap) k 0 [] := ⟨by simp, a, cap, rfl, Nat.zero_le _, fun i h => absurd h (by simp)⟩
theorem BytesAt.nil (w : World) (a : Option Addr) (cap : Nat) : BytesAt w (.slice a 0 cap) [] := SliceAt.nil w a 1 cap
/-- what such a slice yields to an append -/
theorem SliceAt.src {P : Program} {w : World} {v : Value} {k n : Nat} {xs : List Value} {tx e' : TypeId} (hk : P.underlying tx = some (.slice e')) (h : SliceAt w v k n xs) (h1 : ∀ u ∈ xs, u.oneCell' = true) : Src P k tx v n xs w := by
  obtain ⟨hl, a, cap, rfl, hc, hx⟩ := h
  cases a with
  | none =>
    have : xs = [] := by
      cases xs with
      | nil => rfl
      | cons x xs => obtain ⟨b, off, hh, _⟩ := hx 0 (by simp); cases hh
    subst this
    have hn : (Builtin.firstCells k n (.slice none n cap)).run P w = .ok ([] : List Value).toArray w := run_firstCells_none w k n n cap
    have hn' : (Builtin.firstCells k n (.slice none n cap)).run P w.drew = .ok ([] : List Value).toArray w.drew := run_firstCells_none w.drew k n n cap
    exact ⟨.inl ⟨e', hk⟩, fun _ => rfl, hn, hn', hl, h1⟩
  | some a =>
    by_cases h0 : xs = []
    · subst h0
      exact Src.ofSlice w hk a n cap [] hl (fun j u hu => by simp at hu) h1
    · obtain ⟨b, off, ha, _⟩ := hx 0 (List.length_pos_iff.2 h0)
      obtain rfl := Option.some.inj ha
      refine Src.ofSlice w hk _ n cap xs hl (fun j u hu => ?_) h1
      obtain ⟨hj, hv⟩ := List.getElem?_eq_some_iff.1 hu
      obtain ⟨b', off', ha', hc'⟩ := hx j hj
      cases ha'
      rw [← hv]
      rw [Addr.add_lit]
      exact hc'
/-- the call owns a slice: of n elements, of k cells each, in a block from base on (or nil); it may be written, as far as its capacity goes -/
def OwnS (w : World) (base k : Nat) (v : Value) (n : Nat) (xs : List Value) : Prop :=
  xs.length = n * k ∧
  ((v = .slice none 0 0 ∧ n = 0) ∨
   ∃ g off cap, v = .slice (some ⟨g, off, none⟩) n cap ∧ base ≤ g ∧ g < w.heap.size ∧ n ≤ cap ∧ cap ≤ maxLen ∧
     (∀ i (h : i < xs.length), w.cell? ⟨g, off + i, none⟩ = some xs[i]) ∧
     (∀ i, i < cap * k → (w.cell? ⟨g, off + i, none⟩).isSome = true ∧ w.frozen? ⟨g, off + i, none⟩ = false))
theorem OwnS.sliceAt {w : World} {base k : Nat} {v : Value} {n : Nat} {xs : List Value} (h : OwnS w base k v n xs) : SliceAt w v k n xs := by
  obtain ⟨hl, ⟨rfl, rfl⟩ | ⟨g, off, cap, rfl, _, _, hn, _, hc, _⟩⟩ := h
  · obtain rfl : xs = [] := List.eq_nil_of_length_eq_zero (by simpa using hl)
    exact SliceAt.nil w none k 0
  · exact ⟨hl, _, cap, rfl, hn, fun i hi => ⟨g, off, rfl, hc i hi⟩⟩
theorem OwnS.nil (w : World) (base k : Nat) : OwnS w base k (.slice none 0 0) 0 [] := ⟨by simp, .inl ⟨rfl, rfl⟩⟩
theorem OwnS.mono {w : World} {base base' k : Nat} {v : Value} {n : Nat} {xs : List Value} (h : OwnS w base k v n xs) (hb : base' ≤ base) : OwnS w base' k v n xs := by
  obtain ⟨hl, h | ⟨g, off, cap, rfl, hg, r⟩⟩ := h
  · exact ⟨hl, .inl h⟩
  · exact ⟨hl, .inr ⟨g, off, cap, rfl, Nat.le_trans hb hg, r⟩⟩
theorem OwnS.frame {w w' : World} {base k : Nat} {v : Value} {n : Nat} {xs : List Value} (h : OwnS w base k v n xs) (hs : w.heap.size ≤ w'.heap.size) (hb : ∀ b, v.ownBlock = some b → b < w.heap.size → w'.heap[b]? = w.heap[b]?) : OwnS w' base k v n xs := by
  obtain ⟨hl, h | ⟨g, off, cap, rfl, hg, hlt, hn, hm, hc, hf⟩⟩ := h
  · exact ⟨hl, .inl h⟩
  · have e := hb g rfl hlt
    refine ⟨hl, .inr ⟨g, off, cap, rfl, hg, by omega, hn, hm, fun i hi => ?_, fun i hi => ?_⟩⟩
    · rw [World.cell?_of_block (a := ⟨g, off + i, none⟩) e]; exact hc i hi
    · rw [World.cell?_of_block (a := ⟨g, off + i, none⟩) e, World.frozen?_of_block (a := ⟨g, off + i, none⟩) e]; exact hf i hi
theorem OwnS.below {w w' : World} {base k : Nat} {v : Value} {n : Nat} {xs : List Value} (h : OwnS w base k v n xs) (hb : Below w.heap.size w w') : OwnS w' base k v n xs :=
  h.frame hb.size fun b _ hlt => hb.block b hlt
/-- kept by whatever writes one other block -/
theorem OwnS.grown {w w' : World} {base k : Nat} {v : Value} {n : Nat} {xs : List Value} {row : Option Nat} (h : OwnS w base k v n xs) (hg : w.grownBy w' row) (hr : ∀ b, v.ownBlock = some b → row ≠ some b) : OwnS w' base k v n xs :=
  h.frame hg.size fun b hb hlt => hg.block b hlt (fun e => hr b hb e.symm)
theorem SliceAt.grown {w w' : World} {v : Value} {k n : Nat} {xs : List Value} {row : Option Nat} (h : SliceAt w v k n xs) (hg : w.grownBy w' row) (hr : ∀ b, v.ownBlock = some b → row ≠ some b) : SliceAt w' v k n xs :=
  h.frame fun b hb hlt => hg.block b hlt (fun e => hr b hb e.symm)
theorem heap_new (w : World) (o : Obj) : (w.alloc o).heap[w.heap.size]? = some o := by
  show (w.heap.push o)[w.heap.size]? = _
  simp
theorem cell_new (w : World) (C : Array Value) (e : TypeId) (fz : Nat × Nat) (i : Nat) : (w.alloc (.cells C e fz)).cell? ⟨w.heap.size, i, none⟩ = C[i]? := by
  unfold World.cell?
  simp only [heap_new]
  rfl
theorem frozen_new (w : World) (C : Array Value) (e : TypeId) (lo hi i : Nat) : (w.alloc (.cells C e (lo, hi))).frozen? ⟨w.heap.size, i, none⟩ = (decide (lo ≤ i) && decide (i < hi)) := by
  unfold World.frozen?
  simp only [heap_new]
/-- a row just made -/
theorem OwnS.new (w : World) (C : Array Value) (e : TypeId) (lo hi : Nat) (base k n cap : Nat) (hb : base ≤ w.heap.size) (hn : n ≤ cap) (hm : cap ≤ maxLen) (hs : cap * k ≤ C.size) (hf : hi ≤ lo ∨ cap * k ≤ lo) :
    OwnS (w.alloc (.cells C e (lo, hi))) base k (.slice (some ⟨w.heap.size, 0, none⟩) n cap) n (C.toList.take (n * k)) := by
  have hnk : n * k ≤ cap * k := Nat.mul_le_mul_right _ hn
  refine ⟨by rw [List.length_take, Array.length_toList]; omega, .inr ⟨w.heap.size, 0, cap, rfl, hb, by simp, hn, hm, fun i hi' => ?_, fun i hi' => ?_⟩⟩
  · rw [Nat.zero_add, cell_new]
    rw [List.length_take, Array.length_toList] at hi'
    have : i < C.size := by omega
    simp [this]
  · rw [Nat.zero_add, cell_new, frozen_new]
    have : i < C.size := by omega
    refine ⟨by simp [this], ?_⟩
    simp only [Bool.and_eq_false_iff, decide_eq_false_iff_not]
    omega
theorem heap_setCells (b : Nat) : ∀ (vs : List Value) (o : Nat) (w : World) (j : Nat), j ≠ b → (w.setCells b o vs).heap[j]? = w.heap[j]?
  | [], _, _, _, _ => rfl
  | v :: vs, o, w, j, h => by
    simp only [World.setCells]
    rw [heap_setCells b vs _ _ j h]
    exact Below.heap_setCell w ⟨b, o, none⟩ v j h
theorem size_setCells (b : Nat) : ∀ (vs : List Value) (o : Nat) (w : World), (w.setCells b o vs).heap.size = w.heap.size
  | [], _, _ => rfl
  | v :: vs, o, w => by
    simp only [World.setCells]
    rw [size_setCells b vs]
    simp [World.setCell]
theorem setCells_streams (b : Nat) : ∀ (vs : List Value) (o : Nat) (w : World), (w.setCells b o vs).os = w.os ∧ (w.setCells b o vs).tape = w.tape ∧ (w.setCells b o vs).output = w.output
  | [], _, _ => ⟨rfl, rfl, rfl⟩
  | v :: vs, o, w => by
    simp only [World.setCells]
    exact setCells_streams b vs (o + 1) (w.setCell ⟨b, o, none⟩ v)
theorem grownBy_setCells (w : World) (b o : Nat) (vs : List Value) : w.grownBy (w.setCells b o vs) (some b) :=
  have h := setCells_streams b vs o w
  ⟨h.1, h.2.1, h.2.2, Nat.le_of_eq (size_setCells b vs o w).symm, fun k _ hk => heap_setCells b vs o w k (fun e => hk (by rw [e]))⟩
/-- an append to a slice of the call's own, of whatever is appended; what becomes of the memory, in full -/
theorem run_append_own_src {P : Program} (w : World) (base : Nat) (t tx ty e : TypeId) (i : TypeInfo) (z : Value) (ht : P.underlying t = some (.slice e)) (hi : P.info? e = some i) (hz : i.zero = some z) (hzs : z.cells.size = i.size) (_hsz : 0 < i.size)
    (v : Value) (n : Nat) (xs : List Value) (hown : OwnS w base i.size v n xs) (x : Value) (m : Nat) (news : List Value) (hs : Src P i.size tx x m news w)
    (h63 : n + m ≤ maxLen) (hbytes : (n + m) * i.bytes ≤ 140737488355328) (hbase : base ≤ w.heap.size) :
    ∃ v' w', (Builtin.append_ #[t, tx] ty #[v, x]).run P w = .ok v' w' ∧ OwnS w' base i.size v' (n + m) (xs ++ news) ∧ w.grownBy w' v.ownBlock ∧
      ((∃ g off cap, v = .slice (some ⟨g, off, none⟩) n cap ∧ v' = .slice (some ⟨g, off, none⟩) (n + m) cap ∧ w' = w.setCells g (off + n * i.size) news) ∨ v' = .slice none 0 0 ∨ ∃ cap, v' = .slice (some ⟨w.heap.size, 0, none⟩) (n + m) cap ∧ Below w.heap.size w w') := by
  have hmx : maxLen = 9223372036854775807 := rfl
  have hlen : (xs ++ news).length = (n + m) * i.size := by rw [List.length_append, hown.1, hs.newsLen, Nat.add_mul]
  have grown : ∀ (base0 : Option Addr) (old : Nat), old < n + m → (Builtin.firstCells i.size n (.slice base0 n old)).run P w.drew = .ok xs.toArray w.drew → ∀ (row : Option Nat),
      ∃ v' w', (Builtin.append_ #[t, tx] ty #[.slice base0 n old, x]).run P w = .ok v' w' ∧ OwnS w' base i.size v' (n + m) (xs ++ news) ∧ w.grownBy w' row ∧ ∃ cap, v' = .slice (some ⟨w.heap.size, 0, none⟩) (n + m) cap ∧ Below w.heap.size w w' := by
    intro base0 old ho hf row
    have hr := run_append_grow_src (P := P) w t tx ty e i z ht hi hz base0 n old xs hf x m news hs ho (by omega) (growslice_fits ho hbytes)
    have hge := grownCap_ge w (n + m) old e
    have hcm : grownCap w (n + m) old e ≤ maxLen := grownCap_le_maxLen w (n + m) old e h63
    refine ⟨_, _, hr, ?_, ⟨rfl, rfl, rfl, by simp, fun k hk _ => heap_alloc_old w.drew _ hk⟩, _, rfl, ⟨rfl, rfl, rfl, by simp, fun k hk => heap_alloc_old w.drew _ hk⟩⟩
    have hC : ((xs ++ news).toArray ++ Builtin.zeroCells z.cells (grownCap w (n + m) old e - (n + m))).size = grownCap w (n + m) old e * i.size := by
      rw [Array.size_append, List.size_toArray, hlen, size_zeroCells, hzs, ← Nat.add_mul]
      congr 1
      omega
    have := OwnS.new w.drew ((xs ++ news).toArray ++ Builtin.zeroCells z.cells (grownCap w (n + m) old e - (n + m))) e 0 0 base i.size (n + m) (grownCap w (n + m) old e) hbase hge hcm (Nat.le_of_eq hC.symm) (.inl (Nat.le_refl _))
    have e1 : ((xs ++ news).toArray ++ Builtin.zeroCells z.cells (grownCap w (n + m) old e - (n + m))).toList.take ((n + m) * i.size) = xs ++ news := by
      rw [Array.toList_append, ← hlen]
      exact List.take_left
    rw [e1] at this
    exact this
  obtain ⟨hxl, hown⟩ := hown
  rcases hown with ⟨rfl, rfl⟩ | ⟨g, off, cap, rfl, hbg, hlt, hnc, hcm, hcell, hfree⟩
  · have hx : xs = [] := List.eq_nil_of_length_eq_zero (by simpa using hxl)
    subst hx
    by_cases hm : m = 0
    · subst hm
      have hn : news = [] := List.eq_nil_of_length_eq_zero (by simpa using hs.newsLen)
      subst hn
      refine ⟨.slice none 0 0, w, ?_, OwnS.nil w base i.size, ⟨rfl, rfl, rfl, Nat.le_refl _, fun _ _ _ => rfl⟩, .inr (.inl rfl)⟩
      have hl := hs.len w
      have hc := hs.cells
      rcases hs.kind with ⟨e', hk⟩ | hk <;> simp [Builtin.append_, run_underlying ht, run_underlying hk, sizeOf, typeInfo, hi, hl, hc]
    · obtain ⟨v', w', h1, h2, h3, h4⟩ := grown none 0 (by omega) (run_firstCells_none w.drew i.size 0 0 0) none
      exact ⟨v', w', h1, h2, h3, .inr (.inr h4)⟩
  · by_cases hroom : n + m ≤ cap
    · have hin : n * i.size + news.length ≤ cap * i.size := by rw [hs.newsLen, ← Nat.add_mul]; exact Nat.mul_le_mul_right _ hroom
      have hc : ∀ j, j < news.length → (w.cell? ⟨g, off + n * i.size + j, none⟩).isSome = true := fun j hj => by
        have := (hfree (n * i.size + j) (by omega)).1
        rw [Nat.add_assoc]; exact this
      have hf : ∀ j, j < news.length → w.frozen? ⟨g, off + n * i.size + j, none⟩ = false := fun j hj => by
        have := (hfree (n * i.size + j) (by omega)).2
        rw [Nat.add_assoc]; exact this
      have hr := run_append_room_src (P := P) w t tx ty e i ht hi g off n cap x m news hs hroom hc hf
      refine ⟨_, _, hr, ⟨hlen, .inr ⟨g, off, cap, rfl, hbg, by rw [size_setCells]; exact hlt, hroom, hcm, fun j hj => ?_, fun j hj => ?_⟩⟩, grownBy_setCells w g _ _, .inl ⟨g, off, cap, rfl, rfl, rfl⟩⟩
      · by_cases hjx : j < xs.length
        · rw [World.cell?_setCells_out g news (off + n * i.size) w ⟨g, off + j, none⟩ (fun _ _ => .inl (by simp only; omega)), hcell j hjx, List.getElem_append_left hjx]
        · have hj2 : j - xs.length < news.length := by rw [List.length_append] at hj; omega
          have := World.cell?_setCells_in g news (off + n * i.size) w hc (j - xs.length) hj2
          rw [show off + n * i.size + (j - xs.length) = off + j by omega] at this
          rw [this, List.getElem_append_right (by omega)]
      · rw [World.frozen?_setCells]
        refine ⟨?_, (hfree j hj).2⟩
        by_cases hin2 : off + n * i.size ≤ off + j ∧ off + j < off + n * i.size + news.length
        · have := World.cell?_setCells_in g news (off + n * i.size) w hc (j - n * i.size) (by omega)
          rw [show off + n * i.size + (j - n * i.size) = off + j by omega] at this
          rw [this]; rfl
        · rw [World.cell?_setCells_out g news (off + n * i.size) w ⟨g, off + j, none⟩ (fun _ _ => by simp only; omega)]
          exact (hfree j hj).1
    · have hf : (Builtin.firstCells i.size n (.slice (some ⟨g, off, none⟩) n cap)).run P w.drew = .ok xs.toArray w.drew := by
        refine run_firstCells_some w.drew i.size n ⟨g, off, none⟩ n cap xs hxl (fun j u hu => ?_)
        obtain ⟨hj, hv⟩ := List.getElem?_eq_some_iff.1 hu
        rw [← hv]
        rw [Addr.add_lit]
        exact hcell j hj
      obtain ⟨v', w', h1, h2, h3, h4⟩ := grown (some ⟨g, off, none⟩) cap (by omega) hf (some g)
      exact ⟨v', w', h1, h2, h3, .inr (.inr h4)⟩
/-- the same as an operation of a region -/
theorem wpList_append_own_src {P : Program} {ops : Array Oper} {rest : List Oper} {o : Oper} {a : Act} {Q : Exit → Act → World → Prop} {w : World} (hgd : o.guard = none) (s x : Operand) (t tx : TypeId)
    (ho : o.op = .call { callee := .builtin .append, args := #[s, x], argTypes := #[t, tx] })
    (base k : Nat) (e : TypeId) (i : TypeInfo) (z : Value) (ht : P.underlying t = some (.slice e)) (hi : P.info? e = some i) (hz : i.zero = some z) (hk : i.size = k) (hzs : z.cells.size = i.size) (hsz : 0 < i.size)
    (v : Value) (n : Nat) (xs : List Value) (hv : a.eval s = v) (hown : OwnS w base k v n xs) (m : Nat) (news : List Value) (hs : Src P k tx (a.eval x) m news w)
    (h63 : n + m ≤ maxLen) (hbytes : (n + m) * i.bytes ≤ 140737488355328) (hbase : base ≤ w.heap.size)
    (h : ∀ v' w', OwnS w' base k v' (n + m) (xs ++ news) → w.grownBy w' v.ownBlock →
      ((∃ g off cap, v = .slice (some ⟨g, off, none⟩) n cap ∧ v' = .slice (some ⟨g, off, none⟩) (n + m) cap ∧ w' = w.setCells g (off + n * k) news) ∨ v' = .slice none 0 0 ∨ ∃ cap, v' = .slice (some ⟨w.heap.size, 0, none⟩) (n + m) cap ∧ Below w.heap.size w w') →
      wpList P ops Q rest (a.put o.dst v') w') : wpList P ops Q (o :: rest) a w := by
  subst hk
  obtain ⟨v', w', hr, h1, h2, h3⟩ := run_append_own_src (P := P) w base t tx o.type e i z ht hi hz hzs hsz v n xs hown (a.eval x) m news hs h63 hbytes hbase
  refine wpList_plain hgd fun K hK => ?_
  unfold Oper.wp execOp
  simp only [ho, resolve, invoke, builtin, Sem.run_bind, Sem.run_pure, Result.andThen_ok, List.map_toArray, List.map_cons, List.map_nil, hv, hr]
  exact hK _ _ (h v' w' h1 h2 h3)
theorem u8s_one (l : List UInt8) : ∀ u ∈ u8s l, u.oneCell' = true := by
  intro u hu
  obtain ⟨x, _, rfl⟩ := List.mem_map.1 hu
  rfl
theorem OwnS.bytes {w : World} {base : Nat} {v : Value} {n : Nat} {l : List UInt8} (h : OwnS w base 1 v n (u8s l)) : BytesAt w v l := by
  have hn : n = l.length := by have := h.1; rw [u8s_length] at this; omega
  subst hn
  exact h.sliceAt
theorem OwnS.ownBlock_ge {w : World} {base k : Nat} {v : Value} {n : Nat} {xs : List Value} (h : OwnS w base k v n xs) : ∀ g, v.ownBlock = some g → base ≤ g := by
  intro g hg
  obtain ⟨_, ⟨rfl, _⟩ | ⟨g', off, cap, rfl, hb, _⟩⟩ := h
  · cases hg
  · cases hg; exact hb
theorem below_of_grown {w w' : World} {base k : Nat} {v : Value} {n : Nat} {xs : List Value} (h : OwnS w base k v n xs) (hg : w.grownBy w' v.ownBlock) (hbase : base ≤ w.heap.size) : Below base w w' :=
  (Below.refl base w).grown hg hbase h.ownBlock_ge
/-- a part of a byte slice -/
theorem BytesAt.sub {w : World} {b off cap : Nat} {l : List UInt8} (h : BytesAt w (.slice (some ⟨b, off, none⟩) l.length cap) l) (i j : Nat) (hij : i ≤ j) (hj : j ≤ l.length) :
    BytesAt w (.slice (some ⟨b, off + i, none⟩) (j - i) (cap - i)) ((l.take j).drop i) := by
  obtain ⟨a, cap', he, hc, hx⟩ := h.opened
  cases he
  have hl : ((l.take j).drop i).length = j - i := by simp; omega
  rw [← hl]
  refine BytesAt.mk' (by omega) fun k hk => ⟨b, off + i, rfl, ?_⟩
  obtain ⟨b', off', ha, hcell⟩ := hx (i + k) (by omega)
  cases ha
  rw [Nat.add_assoc, hcell]
  simp
theorem BytesAt.left {w : World} {b off cap n : Nat} {x y : List UInt8} (h : BytesAt w (.slice (some ⟨b, off, none⟩) n cap) (x ++ y)) : BytesAt w (.slice (some ⟨b, off, none⟩) x.length cap) x := by
  obtain ⟨a, cap', he, hc, hx⟩ := h.opened
  cases he
  simp only [List.length_append] at hc
  refine BytesAt.mk' (by omega) fun k hk => ⟨b, off, rfl, ?_⟩
  obtain ⟨b', off', ha, hcell⟩ := hx k (by simp; omega)
  cases ha
  rw [hcell, List.getElem_append_left hk]
theorem BytesAt.right {w : World} {b off cap n : Nat} {x y : List UInt8} (h : BytesAt w (.slice (some ⟨b, off, none⟩) n cap) (x ++ y)) : BytesAt w (.slice (some ⟨b, off + x.length, none⟩) y.length (cap - x.length)) y := by
  obtain ⟨a, cap', he, hc, hx⟩ := h.opened
  cases he
  simp only [List.length_append] at hc
  refine BytesAt.mk' (by omega) fun k hk => ⟨b, off + x.length, rfl, ?_⟩
  obtain ⟨b', off', ha, hcell⟩ := hx (x.length + k) (by simp; omega)
  cases ha
  rw [Nat.add_assoc, hcell, List.getElem_append_right (by omega)]
  simp
/-- a byte slice as a string -/
theorem BytesAt.convert {w : World} {v : Value} {l : List UInt8} (h : BytesAt w v l) : (convert 112 9 v).run Tryz.prog w = .ok (.string ⟨l.toArray⟩) w := by
  obtain ⟨a, cap, rfl, hc, hx⟩ := h.opened
  cases a with
  | none =>
    have h0 : l = [] := by
      cases l with
      | nil => rfl
      | cons x l => obtain ⟨b, off, hh, _⟩ := hx 0 (by simp); cases hh
    subst h0
    exact run_convert_bytes_nil (P := Tryz.prog) w 112 5 Tryz.underlying112 Tryz.underlying5 0 cap 9 Tryz.underlying9
  | some a =>
    refine run_convert_bytes_back w 112 9 5 a cap l Tryz.underlying112 Tryz.underlying5 Tryz.underlying9 fun j hj => ?_
    obtain ⟨b', off', ha, hcell⟩ := hx j hj
    cases ha
    rw [Addr.add_lit]
    exact hcell
theorem BytesAt.drewN {w : World} {v : Value} {l : List UInt8} (h : BytesAt w v l) (n : Nat) : BytesAt (w.drewN n) v l := h
theorem _root_.Go.RowKit.Below.drewN {B : Nat} {a w : World} (h : Below B a w) (n : Nat) : Below B a (w.drewN n) := ⟨h.os, h.tape, h.output, h.size, h.block⟩
theorem ret_int {k : IntKind} {a b : Int} (h : a = b) : Ending.returned (.int k a) = .returned (.int k b) := by rw [h]
/-- an index into a string whose bytes are a list -/
theorem run_index_str {P : Program} {t : TypeId} (ht : P.underlying t = some .string) (l : List UInt8) (k : IntKind) (i : Int) (x : UInt8) (h0 : 0 ≤ i) (hx : l[i.toNat]? = some x) (w : World) :
    (Instr.index t (.string ⟨l.toArray⟩) (.int k i)).run P w = .ok (.int .u8 (x.toNat : Int)) w := by
  obtain ⟨hlt, hv⟩ := List.getElem?_eq_some_iff.1 hx
  rw [run_index_string w t ⟨l.toArray⟩ k i ht]
  have hs : (⟨l.toArray⟩ : ByteArray).size = l.length := by simp [ByteArray.size]
  rw [dif_pos ⟨h0, by rw [hs]; omega⟩]
  have : (⟨l.toArray⟩ : ByteArray)[i.toNat]'(by rw [hs]; exact hlt) = x := by rw [← hv]; rfl
  rw [this]
/-- w' is w with new blocks; of the old ones those in S alone may have turned -/
structure Ext (S : Nat → Prop) (w w' : World) : Prop where
  os : w'.os = w.os
  tape : w'.tape = w.tape
  output : w'.output = w.output
  size : w.heap.size ≤ w'.heap.size
  block : ∀ k, k < w.heap.size → ¬ S k → w'.heap[k]? = w.heap[k]?
theorem Ext.refl (S : Nat → Prop) (w : World) : Ext S w w := ⟨rfl, rfl, rfl, Nat.le_refl _, fun _ _ _ => rfl⟩
theorem Ext.trans {S : Nat → Prop} {a b c : World} (h : Ext S a b) (k : Ext S b c) : Ext S a c :=
  ⟨k.os.trans h.os, k.tape.trans h.tape, k.output.trans h.output, Nat.le_trans h.size k.size, fun i hi hs => (k.block i (Nat.lt_of_lt_of_le hi h.size) hs).trans (h.block i hi hs)⟩
/-- a step that may turn what is new, too -/
theorem Ext.trans' {S : Nat → Prop} {a b c : World} {T : Nat → Prop} (h : Ext S a b) (k : Ext T b c) (ht : ∀ i, T i → S i ∨ a.heap.size ≤ i) : Ext S a c :=
  ⟨k.os.trans h.os, k.tape.trans h.tape, k.output.trans h.output, Nat.le_trans h.size k.size, fun i hi hs => (k.block i (Nat.lt_of_lt_of_le hi h.size) (fun e => (ht i e).elim hs (fun e => by omega))).trans (h.block i hi hs)⟩
theorem Ext.mono {S T : Nat → Prop} {w w' : World} (h : Ext S w w') (hs : ∀ k, S k → T k) : Ext T w w' := ⟨h.os, h.tape, h.output, h.size, fun k hk ht => h.block k hk (fun e => ht (hs k e))⟩
theorem Ext.of_below {B : Nat} {w w' : World} (h : Below B w w') : Ext (fun k => B ≤ k) w w' := ⟨h.os, h.tape, h.output, h.size, fun k _ hs => h.block k (by omega)⟩
theorem Ext.of_new {S : Nat → Prop} {w w' : World} (h : Below w.heap.size w w') : Ext S w w' := ⟨h.os, h.tape, h.output, h.size, fun k hk _ => h.block k hk⟩
theorem Ext.below {S : Nat → Prop} {B : Nat} {w w' : World} (h : Ext S w w') (hB : B ≤ w.heap.size) (hs : ∀ k, k < B → ¬ S k) : Below B w w' := ⟨h.os, h.tape, h.output, h.size, fun k hk => h.block k (by omega) (hs k hk)⟩
theorem Ext.cell {S : Nat → Prop} {w w' : World} (h : Ext S w w') {p : Addr} {v : Value} (hs : ¬ S p.block) (hc : w.cell? p = some v) : w'.cell? p = some v :=
  (World.cell?_of_block (w := w) (h.block p.block (cell_lt hc) hs)).trans hc
theorem block_lt {w : World} {b : Nat} {o : Obj} (h : w.heap[b]? = some o) : b < w.heap.size := (Array.getElem?_eq_some_iff.1 h).1
theorem Ext.at {S : Nat → Prop} {w w' : World} (h : Ext S w w') {b : Nat} {o : Obj} (hs : ¬ S b) (hb : w.heap[b]? = some o) : w'.heap[b]? = some o := (h.block b (block_lt hb) hs).trans hb
theorem below_at {B : Nat} {w w' : World} (h : Below B w w') {b : Nat} {o : Obj} (hs : b < B) (hb : w.heap[b]? = some o) : w'.heap[b]? = some o := (h.block b hs).trans hb
end Go.Proofs.YtkkfmkhbdoeglabGreatDoor
namespace Go.Proofs.YtkkfmkhbdoeglabGreatDoor
open Go.RowKit
/-- steps that leave all old blocks alone, one behind the other -/
theorem _root_.Go.RowKit.Below.tn {w w1 w2 : World} (h : Below w.heap.size w w1) (k : Below w1.heap.size w1 w2) : Below w.heap.size w w2 := h.trans (k.mono h.size)
theorem _root_.Go.RowKit.Below.al {w w1 : World} (h : Below w.heap.size w w1) (o : Obj) : Below w.heap.size w (w1.alloc o) := h.alloc h.size o
theorem _root_.Go.RowKit.Below.rf (w : World) : Below w.heap.size w w := Below.refl _ w
theorem heap_setCell (w : World) (b o : Nat) (v : Value) {C : Array Value} {T : TypeId} {fz : Nat × Nat} (h : w.heap[b]? = some (.cells C T fz)) :
    (w.setCell ⟨b, o, none⟩ v).heap[b]? = some (.cells (C.setIfInBounds o v) T fz) := by
  simp only [World.setCell, Array.getElem?_modify, if_pos, h]
  rfl
theorem size_setCell (w : World) (a : Addr) (v : Value) : (w.setCell a v).heap.size = w.heap.size := by simp [World.setCell]
theorem Ext.setCell {S : Nat → Prop} {a w : World} (h : Ext S a w) (p : Addr) (v : Value) (hp : S p.block ∨ a.heap.size ≤ p.block) : Ext S a (w.setCell p v) :=
  h.trans' (T := fun k => k = p.block) ⟨rfl, rfl, rfl, by rw [size_setCell]; exact Nat.le_refl _, fun k _ hs => Below.heap_setCell w p v k hs⟩ (fun i e => by rw [e]; exact hp)
theorem Ext.alloc {S : Nat → Prop} {a w : World} (h : Ext S a w) (o : Obj) : Ext S a (w.alloc o) := h.trans (Ext.of_new ((Below.refl _ w).alloc (Nat.le_refl _) o))
theorem Ext.drewN {S : Nat → Prop} {a w : World} (h : Ext S a w) (n : Nat) : Ext S a (w.drewN n) := ⟨h.os, h.tape, h.output, h.size, h.block⟩
theorem Ext.drew {S : Nat → Prop} {a w : World} (h : Ext S a w) : Ext S a w.drew := ⟨h.os, h.tape, h.output, h.size, h.block⟩
theorem heap_old (w : World) (o : Obj) {b : Nat} {x : Obj} (h : w.heap[b]? = some x) : (w.alloc o).heap[b]? = some x := (Below.heap_alloc w o b (block_lt h)).trans h
theorem OwnS.apart {w : World} {base k : Nat} {v : Value} {n : Nat} {xs : List Value} (h : OwnS w base k v n xs) {b : Nat} (hb : b < base) : v.ownBlock ≠ some b := fun e => by have := h.ownBlock_ge b e; omega
/-- the package-level variable that errors.As reads -/
def ErrVar (w : World) : Prop := 2 ≤ w.heap.size ∧ w.cell? ⟨0, 0, none⟩ = some (.iface 286 (.agg #[.pointer (some ⟨2, 128, none⟩)]))
theorem ErrVar.below {B : Nat} {w w' : World} (h : ErrVar w) (hb : Below B w w') (hB : 2 ≤ B) : ErrVar w' :=
  ⟨Nat.le_trans h.1 hb.size, (hb.cell (p := ⟨0, 0, none⟩) (Nat.lt_of_lt_of_le (by decide : 0 < 2) hB)).trans h.2⟩
theorem ErrVar.ext {S : Nat → Prop} {w w' : World} (h : ErrVar w) (hb : Ext S w w') (hS : ∀ k, S k → 2 ≤ k) : ErrVar w' :=
  ⟨Nat.le_trans h.1 hb.size, hb.cell (p := ⟨0, 0, none⟩) (fun e => absurd (hS _ e) (by decide)) h.2⟩
theorem ErrVar.new {w w' : World} (h : ErrVar w) (hb : Below w.heap.size w w') : ErrVar w' := h.below hb h.1
end Go.Proofs.YtkkfmkhbdoeglabGreatDoor
namespace Go.Proofs.YtkkfmkhbdoeglabGreatDoor
open Go.RowKit
theorem BytesAt.src {w : World} {v : Value} {m : List UInt8} (h : BytesAt w v m) : Src Tryz.prog 1 112 v m.length (u8s m) w := SliceAt.src Tryz.underlying112 h (u8s_one m)
theorem OwnS.ownBlock_lt {w : World} {base k : Nat} {v : Value} {n : Nat} {xs : List Value} (h : OwnS w base k v n xs) : ∀ g, v.ownBlock = some g → g < w.heap.size := by
  intro g hg
  obtain ⟨_, ⟨rfl, _⟩ | ⟨g', off, cap, rfl, hb, hlt, _⟩⟩ := h
  · cases hg
  · cases hg; exact hlt
theorem grown_at {w w' : World} {v : Value} (hg : w.grownBy w' v.ownBlock) {b : Nat} {o : Obj} (hne : v.ownBlock ≠ some b) (h : w.heap[b]? = some o) : w'.heap[b]? = some o :=
  (hg.block b (Array.getElem?_eq_some_iff.1 h).1 (fun e => hne e.symm)).trans h
end Go.Proofs.YtkkfmkhbdoeglabGreatDoor
namespace Go.Proofs.YtkkfmkhbdoeglabGreatDoor
open Go.RowKit
theorem cellAl {w : World} {a : Addr} {v : Value} (o : Obj) (h : w.cell? a = some v) : (w.alloc o).cell? a = some v :=
  (World.cell?_of_block (w := w) (heap_alloc_old w o (cell_lt h))).trans h
end Go.Proofs.YtkkfmkhbdoeglabGreatDoor
