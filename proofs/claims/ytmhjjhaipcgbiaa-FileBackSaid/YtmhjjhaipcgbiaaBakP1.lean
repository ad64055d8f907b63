/- Texts of this claim, one behind the other: Mem, Types, Scaled. -/
import Derived.WalkKit
import Derived.OwnWalk
import Derived.Deep.AppendSrc
import Derived.Deep.Draws
import Derived.Test.YtmhjjhaipcgbiaaRows
import Derived.RegionTactic
import Derived.Deep.QuietTactic
import Derived.BigQuiet
import Derived.WalkLawsBesides
import Derived.WalkSpells
import Derived.Deep.RegionHeld3
import Derived.Deep.RegionWith
import Derived.Deep.DeepCutAuto
import Derived.Outline

namespace Go.Proofs.Ytmhjjhaipcgbiaa
open Go.RowKit
structure Aside (p : Prop) : Prop where mk :: (out : p)
theorem addr_add (g k j : Nat) : (⟨g, k, none⟩ : Addr).add j = ⟨g, k + j, none⟩ := by unfold Addr.add; split <;> simp_all
theorem below_drewN (w : World) (B n : Nat) : Below B w (w.drewN n) := ⟨rfl, rfl, rfl, Nat.le_refl _, fun _ _ => rfl⟩
theorem below_of_grown {w w' : World} {row : Option Nat} {B : Nat} (hg : w.grownBy w' row) (hB : B ≤ w.heap.size) (hr : ∀ k, row = some k → B ≤ k) : Below B w w' := (Below.refl B w).grown hg hB hr
theorem lt_of_blk {w : World} {b : Nat} {o : Obj} (h : w.heap[b]? = some o) : b < w.heap.size := (Array.getElem?_eq_some_iff.1 h).1
structure Kept (S : Nat → Prop) (w w' : World) : Prop where
  os : w'.os = w.os
  tape : w'.tape = w.tape
  output : w'.output = w.output
  size : w.heap.size ≤ w'.heap.size
  block : ∀ k, k < w.heap.size → ¬ S k → w'.heap[k]? = w.heap[k]?
namespace Kept
variable {S T : Nat → Prop} {w w' w'' : World}
theorem refl (S : Nat → Prop) (w : World) : Kept S w w := ⟨rfl, rfl, rfl, Nat.le_refl _, fun _ _ _ => rfl⟩
theorem mono (h : Kept S w w') (hT : ∀ k, S k → k < w.heap.size → T k) : Kept T w w' := ⟨h.os, h.tape, h.output, h.size, fun k hk ht => h.block k hk (fun hs => ht (hT k hs hk))⟩
theorem trans (h : Kept S w w') (h' : Kept T w' w'') (hT : ∀ k, T k → k < w.heap.size → S k) : Kept S w w'' :=
  ⟨h'.os.trans h.os, h'.tape.trans h.tape, h'.output.trans h.output, Nat.le_trans h.size h'.size, fun k hk hs => (h'.block k (Nat.lt_of_lt_of_le hk h.size) (fun ht => hs (hT k ht hk))).trans (h.block k hk hs)⟩
theorem of_below (h : Below w.heap.size w w') : Kept S w w' := ⟨h.os, h.tape, h.output, h.size, fun k hk _ => h.block k hk⟩
theorem to_below {B : Nat} (h : Kept S w w') (hB : B ≤ w.heap.size) (hS : ∀ k, S k → B ≤ k) : Below B w w' := ⟨h.os, h.tape, h.output, h.size, fun k hk => h.block k (Nat.lt_of_lt_of_le hk hB) (fun hs => Nat.not_lt.2 (hS k hs) hk)⟩
theorem of_grown {row : Option Nat} (h : w.grownBy w' row) : Kept (fun k => some k = row) w w' := ⟨h.os, h.tape, h.output, h.size, h.block⟩
theorem setCell (w : World) (a : Addr) (v : Value) : Kept (fun k => k = a.block) w (w.setCell a v) := ⟨rfl, rfl, rfl, by simp [World.setCell], fun k _ hk => Below.heap_setCell w a v k hk⟩
theorem cell (h : Kept S w w') {a : Addr} {v : Value} (hc : w.cell? a = some v) (hS : ¬ S a.block) : w'.cell? a = some v := (World.cell?_of_block (w := w) (h.block _ (World.block_lt_of_cell? _ _ hc) hS)).trans hc
end Kept
theorem heap_setCell_at {w : World} {b k : Nat} {cs : Array Value} {T : TypeId} {fr : Nat × Nat} (h : w.heap[b]? = some (.cells cs T fr)) (v : Value) :
    (w.setCell ⟨b, k, none⟩ v).heap[b]? = some (.cells (cs.setIfInBounds k v) T fr) := by
  simp [World.setCell, Array.getElem?_modify, h]
theorem cell_blk {w : World} {b k : Nat} {cs : Array Value} {T : TypeId} {fr : Nat × Nat} (h : w.heap[b]? = some (.cells cs T fr)) : w.cell? ⟨b, k, none⟩ = cs[k]? := by simp [World.cell?, h]
theorem frozen_blk {w : World} {b k : Nat} {cs : Array Value} {T : TypeId} (h : w.heap[b]? = some (.cells cs T (0, 0))) : w.frozen? ⟨b, k, none⟩ = false := by simp [World.frozen?, h]
theorem cell_one_new (w : World) (x : Value) (E : TypeId) : ∀ (j : Nat) (u : Value), [x][j]? = some u → (w.alloc (.cells #[x] E)).cell? ((⟨w.heap.size, 0, none⟩ : Addr).add j) = some u := by
  intro j u hj
  match j, hj with
  | 0, hj => simp at hj; subst hj; simp [Addr.add]
structure Rd (w : World) (sz : Nat) (v : Value) (n : Nat) (xs : List Value) : Prop where
  len : xs.length = n * sz
  shape : ∃ a cap, v = .slice a n cap ∧ n ≤ cap ∧ cap ≤ maxLen ∧ (a = none → n = 0 ∧ cap = 0) ∧ ∀ j u, xs[j]? = some u → ∃ b off, a = some ⟨b, off, none⟩ ∧ w.cell? ⟨b, off + j, none⟩ = some u
namespace Rd
variable {w w' : World} {sz n : Nat} {v : Value} {xs : List Value}
theorem below (h : Rd w sz v n xs) (hb : Below w.heap.size w w') : Rd w' sz v n xs := by
  obtain ⟨hl, a, cap, rfl, h1, h2, h3, h4⟩ := h
  refine ⟨hl, a, cap, rfl, h1, h2, h3, fun j u hu => ?_⟩
  obtain ⟨b, off, ha, hc⟩ := h4 j u hu
  exact ⟨b, off, ha, (hb.cell (p := ⟨b, off + j, none⟩) (World.block_lt_of_cell? _ _ hc)).trans hc⟩
theorem kept {S : Nat → Prop} (h : Rd w sz v n xs) (hb : Kept S w w') (hS : ∀ k, v.ownBlock = some k → ¬ S k) : Rd w' sz v n xs := by
  obtain ⟨hl, a, cap, rfl, h1, h2, h3, h4⟩ := h
  refine ⟨hl, a, cap, rfl, h1, h2, h3, fun j u hu => ?_⟩
  obtain ⟨b, off, rfl, hc⟩ := h4 j u hu
  exact ⟨b, off, rfl, hb.cell hc (hS b rfl)⟩
theorem nil (w : World) (sz : Nat) : Rd w sz (.slice none 0 0) 0 [] := ⟨by simp, none, 0, rfl, Nat.le_refl _, by decide, fun _ => ⟨rfl, rfl⟩, fun j u hu => by simp at hu⟩
theorem form (h : Rd w sz v n xs) : ∃ a c, v = .slice a n c := by obtain ⟨_, a, c, rfl, _⟩ := h; exact ⟨a, c, rfl⟩
theorem some_ (h : Rd w sz v n xs) (hn : 0 < xs.length) : ∃ b off cap, v = .slice (some ⟨b, off, none⟩) n cap ∧ n ≤ cap ∧ cap ≤ 9223372036854775807 ∧ ∀ j u, xs[j]? = some u → w.cell? ⟨b, off + j, none⟩ = some u := by
  obtain ⟨hl, a, cap, rfl, h1, h2, h3, h4⟩ := h
  obtain ⟨b, off, rfl, _⟩ := h4 0 xs[0] (List.getElem?_eq_getElem hn)
  refine ⟨b, off, cap, rfl, h1, by unfold maxLen at h2; omega, fun j u hu => ?_⟩
  obtain ⟨b', off', e, hc⟩ := h4 j u hu
  cases e
  exact hc
theorem src (h : Rd w sz v n xs) {P : Program} {tx e : TypeId} (hk : P.underlying tx = some (.slice e)) (h1 : ∀ u ∈ xs, u.oneCell' = true) : Src P sz tx v n xs w := by
  obtain ⟨hl, a, cap, rfl, h2, h3, h4, h5⟩ := h
  cases a with
  | none =>
    obtain ⟨rfl, rfl⟩ := h4 rfl
    obtain rfl : xs = [] := List.eq_nil_of_length_eq_zero (by simpa using hl)
    exact Src.ofNil w hk 0
  | some a =>
    by_cases h0 : xs = []
    · subst h0
      exact Src.ofSlice w hk a n cap [] hl (by simp) h1
    · obtain ⟨b, off, e', _⟩ := h5 0 (xs[0]'(List.length_pos_iff.2 h0)) (List.getElem?_eq_getElem _)
      cases e'
      refine Src.ofSlice w hk _ n cap xs hl (fun j u hu => ?_) h1
      obtain ⟨b', off', e', hc⟩ := h5 j u hu
      cases e'
      rw [addr_add]
      exact hc
theorem max (h : Rd w sz v n xs) : n ≤ 9223372036854775807 := by
  obtain ⟨_, a, cap, rfl, h1, h2, _⟩ := h
  unfold maxLen at h2; omega
end Rd
def Own (w : World) (base : Nat) (E : TypeId) (sz : Nat) (v : Value) (n : Nat) (xs : List Value) : Prop :=
  xs.length = n * sz ∧
  ((v = .slice none 0 0 ∧ n = 0) ∨
   ∃ g off cap cur, v = .slice (some ⟨g, off, none⟩) n cap ∧ base ≤ g ∧ w.heap[g]? = some (.cells cur E (0, 0)) ∧ n ≤ cap ∧ cap ≤ maxLen ∧ off + cap * sz ≤ cur.size ∧ ∀ j, j < n * sz → cur[off + j]? = xs[j]?)
namespace Own
variable {w w' : World} {base : Nat} {E : TypeId} {sz n : Nat} {v : Value} {xs : List Value}
theorem nil (w : World) (base : Nat) (E : TypeId) (sz : Nat) : Own w base E sz (.slice none 0 0) 0 [] := ⟨by simp, .inl ⟨rfl, rfl⟩⟩
theorem form (h : Own w base E sz v n xs) : ∃ a c, v = .slice a n c := by
  rcases h.2 with ⟨h1, h2⟩ | ⟨g, off, cap, cur, h1, _⟩
  · exact ⟨none, 0, by rw [h1, h2]⟩
  · exact ⟨_, _, h1⟩
theorem lt (h : Own w base E sz v n xs) : ∀ k, v.ownBlock = some k → base ≤ k ∧ k < w.heap.size := by
  intro k hk
  rcases h.2 with ⟨rfl, _⟩ | ⟨g, off, cap, cur, rfl, hb, hg, _⟩
  · simp [Value.ownBlock] at hk
  · simp [Value.ownBlock] at hk
    subst hk
    exact ⟨hb, lt_of_blk hg⟩
theorem moved (h : Own w base E sz v n xs) (hb : ∀ k, v.ownBlock = some k → w'.heap[k]? = w.heap[k]?) : Own w' base E sz v n xs := by
  refine ⟨h.1, ?_⟩
  rcases h.2 with h2 | ⟨g, off, cap, cur, rfl, h3, h4, r⟩
  · exact .inl h2
  · exact .inr ⟨g, off, cap, cur, rfl, h3, by rw [hb g rfl]; exact h4, r⟩
theorem kept {S : Nat → Prop} (h : Own w base E sz v n xs) (hk : Kept S w w') (hS : ∀ k, v.ownBlock = some k → ¬ S k) : Own w' base E sz v n xs :=
  h.moved (fun k e => hk.block k (h.lt k e).2 (hS k e))
theorem below (h : Own w base E sz v n xs) (hb : Below w.heap.size w w') : Own w' base E sz v n xs := h.moved (fun k e => hb.block k (h.lt k e).2)
theorem alloc (h : Own w base E sz v n xs) (o : Obj) : Own (w.alloc o) base E sz v n xs := h.below ((Below.refl _ _).alloc (Nat.le_refl _) o)
theorem drewN (h : Own w base E sz v n xs) (m : Nat) : Own (w.drewN m) base E sz v n xs := h
theorem set_other (h : Own w base E sz v n xs) {a : Addr} (ha : v.ownBlock ≠ some a.block) (u : Value) : Own (w.setCell a u) base E sz v n xs :=
  h.moved (fun k e => Below.heap_setCell _ _ _ _ (fun e' => ha (by rw [e, e'])))
theorem mono {base' : Nat} (h : Own w base E sz v n xs) (hb : base' ≤ base) : Own w base' E sz v n xs := by
  refine ⟨h.1, ?_⟩
  rcases h.2 with h2 | ⟨g, off, cap, cur, rfl, h3, r⟩
  · exact .inl h2
  · exact .inr ⟨g, off, cap, cur, rfl, Nat.le_trans hb h3, r⟩
theorem rd (h : Own w base E sz v n xs) : Rd w sz v n xs := by
  refine ⟨h.1, ?_⟩
  rcases h.2 with ⟨rfl, rfl⟩ | ⟨g, off, cap, cur, rfl, _, h4, h5, h6, _, h8⟩
  · exact ⟨none, 0, rfl, Nat.le_refl _, by decide, fun _ => ⟨rfl, rfl⟩, fun j u hu => by have := (List.getElem?_eq_some_iff.1 hu).1; have := h.1; omega⟩
  · refine ⟨_, cap, rfl, h5, h6, (fun e => (by cases e)), fun j u hu => ⟨g, off, rfl, ?_⟩⟩
    rw [cell_blk h4, h8 j (by have := (List.getElem?_eq_some_iff.1 hu).1; rw [h.1] at this; exact this)]
    exact hu
theorem max (h : Own w base E sz v n xs) : n ≤ 9223372036854775807 := h.rd.max
theorem some_ (h : Own w base E sz v n xs) (hn : 0 < n) : ∃ g off cap, v = .slice (some ⟨g, off, none⟩) n cap ∧ base ≤ g ∧ g < w.heap.size ∧ n ≤ cap ∧ cap ≤ 9223372036854775807 ∧ (∀ j u, xs[j]? = some u → w.cell? ⟨g, off + j, none⟩ = some u) ∧ ∀ k, w.frozen? ⟨g, k, none⟩ = false := by
  rcases h.2 with ⟨rfl, rfl⟩ | ⟨g, off, cap, cur, rfl, h3, h4, h5, h6, _, h8⟩
  · omega
  · refine ⟨g, off, cap, rfl, h3, lt_of_blk h4, h5, by unfold maxLen at h6; omega, fun j u hu => ?_, fun k => frozen_blk h4⟩
    rw [cell_blk h4, h8 j (by have := (List.getElem?_eq_some_iff.1 hu).1; rw [h.1] at this; exact this)]
    exact hu
theorem cut {g off cap i j : Nat} (h : Own w base E sz (.slice (some ⟨g, off, none⟩) n cap) n xs) (hij : i ≤ j) (hj : j ≤ n) : Own w base E sz (.slice (some ⟨g, off + i * sz, none⟩) (j - i) (cap - i)) (j - i) ((xs.drop (i * sz)).take ((j - i) * sz)) := by
  rcases h.2 with ⟨h2, _⟩ | ⟨g', off', cap', cur, h2, h3, h4, h5, h6, h7, h8⟩
  · simp at h2
  · simp only [Value.slice.injEq, Option.some.injEq, Addr.mk.injEq, and_true, true_and] at h2
    obtain ⟨⟨rfl, rfl⟩, rfl⟩ := h2
    have hi : i * sz ≤ cap * sz := Nat.mul_le_mul_right _ (by omega)
    have hi2 : i * sz + (j - i) * sz = j * sz := by rw [← Nat.add_mul]; congr 1; omega
    have hj2 : j * sz ≤ n * sz := Nat.mul_le_mul_right _ hj
    refine ⟨?_, .inr ⟨g, off + i * sz, cap - i, cur, rfl, h3, h4, by omega, by omega, ?_, fun k hk => ?_⟩⟩
    · rw [List.length_take, List.length_drop, h.1]; omega
    · rw [Nat.sub_mul]; omega
    · rw [Nat.add_assoc, h8 _ (by omega), List.getElem?_take, if_pos hk, List.getElem?_drop]
theorem stored {g off cap : Nat} (h : Own w base E sz (.slice (some ⟨g, off, none⟩) n cap) n xs) (j : Nat) (u : Value) : Own (w.setCell ⟨g, off + j, none⟩ u) base E sz (.slice (some ⟨g, off, none⟩) n cap) n (xs.set j u) := by
  rcases h.2 with ⟨h2, _⟩ | ⟨g', off', cap', cur, h2, h3, h4, h5, h6, h7, h8⟩
  · simp at h2
  · simp only [Value.slice.injEq, Option.some.injEq, Addr.mk.injEq, and_true, true_and] at h2
    obtain ⟨⟨rfl, rfl⟩, rfl⟩ := h2
    refine ⟨by rw [List.length_set]; exact h.1, .inr ⟨g, off, cap, _, rfl, h3, heap_setCell_at h4 u, h5, h6, by simpa using h7, fun k hk => ?_⟩⟩
    rw [Array.getElem?_setIfInBounds, List.getElem?_set]
    by_cases e : j = k
    · subst e
      have hj : j < xs.length := by rw [h.1]; exact hk
      have : off + j < cur.size := by
        have : n * sz ≤ cap * sz := Nat.mul_le_mul_right _ h5
        omega
      simp [hj, this]
    · rw [if_neg (by omega), if_neg e]; exact h8 k hk
end Own
theorem blk_ne {w : World} {a b : Nat} {c1 c2 : Array Value} {t1 t2 : TypeId} {f1 f2 : Nat × Nat} (h1 : w.heap[a]? = some (.cells c1 t1 f1)) (h2 : w.heap[b]? = some (.cells c2 t2 f2)) (ht : t1 ≠ t2) : a ≠ b := by
  rintro rfl
  rw [h1] at h2; cases h2; exact ht rfl
theorem Own.blk_ne {w : World} {base : Nat} {E : TypeId} {sz n : Nat} {v : Value} {xs : List Value} (h : Own w base E sz v n xs) {a : Nat} {c : Array Value} {t : TypeId} {f : Nat × Nat} (h1 : w.heap[a]? = some (.cells c t f)) (ht : t ≠ E) : v.ownBlock ≠ some a := by
  rcases h.2 with ⟨rfl, _⟩ | ⟨g, off, cap, cur, rfl, _, hg, _⟩
  · intro e; cases e
  · intro e; cases e; rw [h1] at hg; cases hg; exact ht rfl
section
variable {P : Program}
theorem run_append_own_at (w : World) (base : Nat) (t tx ty e : TypeId) (i : TypeInfo) (z : Value) (size bytes : Nat) (ht : P.underlying t = some (.slice e)) (hi : P.info? e = some i) (hz : i.zero = some z)
    (hsize : i.size = size) (hby : i.bytes = bytes) (hzs : z.cells.size = size)
    (v : Value) (n : Nat) (xs : List Value) (hown : Own w base e size v n xs)
    (x : Value) (m : Nat) (news : List Value) (hs : Src P size tx x m news w)
    (h63 : n + m ≤ maxLen) (hbytes : (n + m) * bytes ≤ 140737488355328) (hbase : base ≤ w.heap.size) :
    ∃ v' w', (Builtin.append_ #[t, tx] ty #[v, x]).run P w = .ok v' w' ∧ Own w' base e size v' (n + m) (xs ++ news) ∧ w.grownBy w' v.ownBlock ∧
      (v' = .slice none 0 0 ↔ v = .slice none 0 0 ∧ m = 0) ∧ (v'.ownBlock = v.ownBlock ∨ ∃ b, v'.ownBlock = some b ∧ w.heap.size ≤ b) := by
  subst hsize
  subst hby
  have hl : news.length = m * i.size := hs.newsLen
  have hsmall : n + m ≤ 9223372036854775807 := by simp only [maxLen] at h63; omega
  have hlen : (xs ++ news).length = (n + m) * i.size := by rw [List.length_append, hown.1, hl, Nat.add_mul]
  have grown : ∀ (old : Nat), old < n + m → ∀ (row : Option Nat),
      Own (w.drew.alloc (.cells ((xs ++ news).toArray ++ Builtin.zeroCells z.cells (grownCap w (n + m) old e - (n + m))) e)) base e i.size
        (.slice (some ⟨w.heap.size, 0, none⟩) (n + m) (grownCap w (n + m) old e)) (n + m) (xs ++ news) ∧
      w.grownBy (w.drew.alloc (.cells ((xs ++ news).toArray ++ Builtin.zeroCells z.cells (grownCap w (n + m) old e - (n + m))) e)) row := by
    intro old ho row
    have hge := grownCap_ge w (n + m) old e
    have hcm : grownCap w (n + m) old e ≤ maxLen := grownCap_le_maxLen w (n + m) old e h63
    refine ⟨⟨hlen, .inr ⟨w.heap.size, 0, _, _, rfl, hbase, heap_alloc_new w.drew _, hge, hcm, ?_, fun j hj => ?_⟩⟩, ⟨rfl, rfl, rfl, by simp, fun k hk _ => Below.heap_alloc w.drew _ k hk⟩⟩
    · simp only [Array.size_append, List.size_toArray, size_zeroCells, hzs, hlen, ← Nat.add_mul]
      rw [Nat.zero_add]
      exact Nat.le_of_eq (by congr 1; omega)
    · rw [Nat.zero_add, Array.getElem?_append_left (by simpa [hlen] using hj)]
      simp
  rcases hown.2 with ⟨rfl, rfl⟩ | ⟨g, off, cap, cur, rfl, hbg, hg, hnc, hcm, hcs, htake⟩
  · have hx : xs = [] := List.eq_nil_of_length_eq_zero (by simpa using hown.1)
    subst hx
    by_cases hm : m = 0
    · subst hm
      have hn : news = [] := List.eq_nil_of_length_eq_zero (by simpa using hl)
      subst hn
      refine ⟨.slice none 0 0, w, ?_, Own.nil w base e i.size, ⟨rfl, rfl, rfl, Nat.le_refl _, fun _ _ _ => rfl⟩, by simp, .inl rfl⟩
      rcases hs.kind with ⟨e', hk⟩ | hk <;> simp [Builtin.append_, run_underlying ht, run_underlying hk, sizeOf, typeInfo, hi, hs.len, hs.cells]
    · have hr := run_append_grow_src (P := P) w t tx ty e i z ht hi hz none 0 0 [] (by simp [Builtin.firstCells]) x m news hs (by omega) (by omega) (growslice_fits (by omega) (by simpa using hbytes))
      have hgr := grown 0 (by omega) (Value.ownBlock (.slice none 0 0))
      exact ⟨_, _, hr, hgr.1, hgr.2, by simp [hm], .inr ⟨_, rfl, Nat.le_refl _⟩⟩
  · have hxs : ∀ j u, xs[j]? = some u → w.cell? ((⟨g, off, none⟩ : Addr).add j) = some u := by
      intro j u hu
      rw [addr_add, cell_blk hg, htake j (by have := (List.getElem?_eq_some_iff.1 hu).1; rw [hown.1] at this; exact this)]
      exact hu
    by_cases hroom : n + m ≤ cap
    · have hfit : n * i.size + news.length ≤ cap * i.size := by rw [hl, ← Nat.add_mul]; exact Nat.mul_le_mul_right _ hroom
      have hst := run_storeCells_at P g (off + n * i.size) e news 0 cur w hg (by omega) hs.one
      simp only [Nat.add_zero] at hst
      have hr : (Builtin.append_ #[t, tx] ty #[.slice (some ⟨g, off, none⟩) n cap, x]).run P w = .ok (.slice (some ⟨g, off, none⟩) (n + m) cap) (w.setRow g (cur.toList.take (off + n * i.size) ++ news ++ cur.toList.drop (off + n * i.size + news.length)).toArray) := by
        rcases hs.kind with ⟨e', hk⟩ | hk <;> simp [Builtin.append_, run_underlying ht, run_underlying hk, sizeOf, typeInfo, hi, hs.len, hroom, hs.cells, addr_add, hst]
      refine ⟨_, _, hr, ⟨hlen, .inr ⟨g, off, cap, _, rfl, hbg, setRow_heap w g cur _ e _ hg, hroom, hcm, ?_, fun j hj => ?_⟩⟩, ⟨rfl, rfl, rfl, by simp, fun k _ hk => setRow_other w g k _ (fun e => hk (by simp [Value.ownBlock, e]))⟩, by simp, .inl rfl⟩
      · simp only [List.size_toArray, List.length_append, List.length_take, List.length_drop, Array.length_toList]
        omega
      · have hx := hown.1
        have ht1 : (cur.toList.take (off + n * i.size)).length = off + n * i.size := by rw [List.length_take, Array.length_toList]; omega
        rw [List.getElem?_toArray]
        by_cases hj2 : j < n * i.size
        · rw [List.append_assoc, List.getElem?_append_left (by omega), List.getElem?_take, if_pos (by omega), Array.getElem?_toList, htake j hj2, List.getElem?_append_left (by omega)]
        · rw [List.append_assoc, List.getElem?_append_right (by omega), ht1, List.getElem?_append_left (by rw [hl]; rw [Nat.add_mul] at hj; omega), List.getElem?_append_right (by omega)]
          congr 1
          omega
    · have hold : (Builtin.firstCells i.size n (.slice (some ⟨g, off, none⟩) n cap)).run P w.drew = .ok xs.toArray w.drew := run_firstCells_some w.drew i.size n ⟨g, off, none⟩ n cap xs hown.1 (by simpa using hxs)
      have hr := run_append_grow_src (P := P) w t tx ty e i z ht hi hz (some ⟨g, off, none⟩) n cap xs hold x m news hs (by omega) (by omega) (growslice_fits (by omega) hbytes)
      have hgr := grown cap (by omega) (Value.ownBlock (.slice (some ⟨g, off, none⟩) n cap))
      exact ⟨_, _, hr, hgr.1, hgr.2, by simp, .inr ⟨_, rfl, Nat.le_refl _⟩⟩
theorem own_empty (w : World) (base b : Nat) (E : TypeId) (sz : Nat) (hb : w.heap.size = b) (h : base ≤ b) : Own (w.alloc (.cells #[] E)) base E sz (.slice (some ⟨b, 0, none⟩) 0 0) 0 [] := by
  subst hb
  exact ⟨by simp, .inr ⟨_, 0, 0, #[], rfl, h, heap_alloc_new w _, Nat.le_refl _, by decide, by simp, fun j hj => by simp at hj⟩⟩
theorem wpList_app (w : World) {ops : Array Oper} {rest : List Oper} {o : Oper} {a : Act} {Q : Exit → Act → World → Prop} (hgd : o.guard = none) (s x : Operand) (t tx : TypeId)
    (ho : o.op = .call { callee := .builtin .append, args := #[s, x], argTypes := #[t, tx] })
    (base : Nat) (e : TypeId) (z : Value) (size bytes : Nat) (ht : P.underlying t = some (.slice e)) (hi : (P.info? e).map (fun i => (i.zero, i.size, i.bytes)) = some (some z, size, bytes))
    (hzs : z.cells.size = size)
    (v : Value) (n : Nat) (xs : List Value) (hs : a.eval s = v) (hown : Own w base e size v n xs)
    (u : Value) (m : Nat) (news : List Value) (hx : a.eval x = u) (hsrc : Src P size tx u m news w)
    (h63 : n + m ≤ maxLen) (hbytes : (n + m) * bytes ≤ 140737488355328) (hbase : base ≤ w.heap.size)
    (h : ∀ v' w', Own w' base e size v' (n + m) (xs ++ news) → w.grownBy w' v.ownBlock → (v' = .slice none 0 0 ↔ v = .slice none 0 0 ∧ m = 0) → (v'.ownBlock = v.ownBlock ∨ ∃ b, v'.ownBlock = some b ∧ w.heap.size ≤ b) →
      wpList P ops Q rest (a.put o.dst v') w') : wpList P ops Q (o :: rest) a w := by
  obtain ⟨i0, hi, hz0, hz1, hz2⟩ := info_parts hi
  obtain ⟨v', w', hr, h2, h3, h4, h5⟩ := run_append_own_at (P := P) w base t tx o.type e i0 z size bytes ht hi hz0 hz1 hz2 hzs v n xs hown u m news hsrc h63 hbytes hbase
  have hw : Region.wanted o (yielded ops a.tmps) = true := by simp [Region.wanted, hgd]
  simp only [wpList, hw, if_true]
  left
  unfold Oper.wp execOp
  simp only [ho, resolve, invoke, builtin, Sem.run_bind, Sem.run_pure, Result.andThen_ok, List.map_toArray, List.map_cons, List.map_nil, hs, hx, hr]
  exact h v' w' h2 h3 h4 h5
theorem src_one {w : World} {tx e : TypeId} (hk : P.underlying tx = some (.slice e)) (b : Nat) (x : Value) (E : TypeId) (h1 : x.oneCell' = true) (hb : w.heap.size = b) : Src P 1 tx (.slice (some ⟨b, 0, none⟩) 1 1) 1 [x] (w.alloc (.cells #[x] E)) := by
  subst hb
  exact Src.ofSlice _ hk _ 1 1 [x] rfl (cell_one_new _ _ _) (by simpa using h1)
end
end Go.Proofs.Ytmhjjhaipcgbiaa


namespace Go.Proofs.Ytmhjjhaipcgbiaa
open Go.RowKit
set_option linter.unusedVariables false
set_option linter.unusedSimpArgs false
theorem bcell {W w1 : World} (hb : Below W.heap.size W w1) : (∀ b o, b < W.heap.size → w1.cell? ⟨b, o, none⟩ = W.cell? ⟨b, o, none⟩) ∧ (∀ b o, b < W.heap.size → w1.frozen? ⟨b, o, none⟩ = W.frozen? ⟨b, o, none⟩) :=
  ⟨fun b o h => hb.cell (p := ⟨b, o, none⟩) h, fun b o h => hb.frozen (p := ⟨b, o, none⟩) h⟩
theorem below_new (w : World) (o : Obj) : Below w.heap.size w (w.alloc o) := (Below.refl _ _).alloc (Nat.le_refl _) o
theorem ret_int {k : IntKind} {a b : Int} (h : a = b) : Ending.returned (.int k a) = .returned (.int k b) := by rw [h]
theorem ret_bool {a b : Bool} (h : a = b) : Ending.returned (.bool a) = .returned (.bool b) := by rw [h]
def okType (k s : Int) : Bool := decide (1 ≤ k ∧ k ≤ 16 ∧ 0 ≤ s ∧ s ≤ 18 ∧ (k = 12 ∨ s = 0))
def widthOf (k : Int) : Int := if k = 1 ∨ k = 5 ∨ k = 11 then 1 else if k = 2 ∨ k = 6 then 2 else if k = 3 ∨ k = 7 ∨ k = 9 ∨ k = 16 then 4 else if k = 4 ∨ k = 8 ∨ k = 10 ∨ k = 12 ∨ k = 13 ∨ k = 14 then 8 else 0
set_option maxHeartbeats 400000 in
theorem checkType_yes (k s : Int) (w : World) (h : okType k s = true) :
    Calls Try.prog 10 #[.agg #[.int .i64 k, .int .i64 s]] w fun e w' => e = .returned (.int .i64 0) ∧ Below w.heap.size w w' := by
  unfold okType at h
  simp only [decide_eq_true_eq] at h
  obtain ⟨h1, h2, h3, h4, h5⟩ := h
  have hb := Aside.mk (below_new w (.cells #[.int .i64 k, .int .i64 s] 23))
  rcases h5 with h5 | h5
  · subst h5
    go_enter Try.func10, Try.ntmps10
    go_wp2
    go_ret
    exact ⟨rfl, hb.out⟩
  · subst h5
    by_cases h6 : k = 12
    · subst h6
      go_enter Try.func10, Try.ntmps10
      go_wp2
      go_ret
      exact ⟨rfl, hb.out⟩
    · have h7 : (k == 12) = false := by simpa using h6
      clear h6
      go_enter Try.func10, Try.ntmps10
      go_wp2
      go_ret
      exact ⟨rfl, hb.out⟩
set_option maxHeartbeats 400000 in
theorem checkType_no (k s : Int) (w : World) (h : okType k s = false) :
    Calls Try.prog 10 #[.agg #[.int .i64 k, .int .i64 s]] w fun e w' => e = .returned (.int .i64 170) ∧ Below w.heap.size w w' := by
  unfold okType at h
  simp only [decide_eq_false_iff_not] at h
  have hb := Aside.mk (below_new w (.cells #[.int .i64 k, .int .i64 s] 23))
  have go : k < 1 ∨ (1 ≤ k ∧ 16 < k) ∨ (1 ≤ k ∧ k ≤ 16 ∧ s < 0) ∨ (1 ≤ k ∧ k ≤ 16 ∧ 0 ≤ s ∧ k = 12 ∧ 18 < s) ∨ (1 ≤ k ∧ k ≤ 16 ∧ 0 < s ∧ k ≠ 12) := by omega
  clear h
  by_cases h6 : k = 12
  · subst h6
    rcases go with h | ⟨_, h⟩ | ⟨_, _, h⟩ | ⟨_, _, h0, _, h⟩ | ⟨_, _, _, h⟩
    · omega
    · omega
    · go_enter Try.func10, Try.ntmps10
      go_wp2
      go_ret
      exact ⟨rfl, hb.out⟩
    · go_enter Try.func10, Try.ntmps10
      go_wp2
      go_ret
      exact ⟨rfl, hb.out⟩
    · omega
  · have h7 : (k == 12) = false := by simpa using h6
    have H6 := Aside.mk h6
    clear h6
    rcases go with h | ⟨h1, h⟩ | ⟨h1, h2, h⟩ | ⟨_, _, h0, h, _⟩ | ⟨h1, h2, h, _⟩
    · go_enter Try.func10, Try.ntmps10
      go_wp2
      go_ret
      exact ⟨rfl, hb.out⟩
    · go_enter Try.func10, Try.ntmps10
      go_wp2
      go_ret
      exact ⟨rfl, hb.out⟩
    · go_enter Try.func10, Try.ntmps10
      go_wp2
      go_ret
      exact ⟨rfl, hb.out⟩
    · exact absurd h H6.out
    · have h3 : ¬ s < 0 := by omega
      go_enter Try.func10, Try.ntmps10
      go_wp2
      go_ret
      exact ⟨rfl, hb.out⟩
theorem checkType_any (k s : Int) (w : World) :
    Calls Try.prog 10 #[.agg #[.int .i64 k, .int .i64 s]] w fun e w' => e = .returned (.int .i64 (if okType k s then 0 else 170)) ∧ Below w.heap.size w w' := by
  cases h : okType k s
  · exact checkType_no k s w h
  · exact checkType_yes k s w h
set_option maxHeartbeats 800000 in
theorem width_any (k : Int) (w : World) : Calls Try.prog 12 #[.int .i64 k] w fun e w' => e = .returned (.int .i64 (widthOf k)) ∧ w = w' := by
  by_cases h : 1 ≤ k ∧ k ≤ 16
  · obtain ⟨h1, h2⟩ := h
    have hk : k = 1 ∨ k = 2 ∨ k = 3 ∨ k = 4 ∨ k = 5 ∨ k = 6 ∨ k = 7 ∨ k = 8 ∨ k = 9 ∨ k = 10 ∨ k = 11 ∨ k = 12 ∨ k = 13 ∨ k = 14 ∨ k = 15 ∨ k = 16 := by omega
    clear h1 h2
    rcases hk with rfl | rfl | rfl | rfl | rfl | rfl | rfl | rfl | rfl | rfl | rfl | rfl | rfl | rfl | rfl | rfl
    all_goals
      go_enter Try.func12, Try.ntmps12
      go_wp2
      go_ret
      exact ⟨rfl, rfl⟩
  · have hw : Aside (widthOf k = 0) := ⟨by unfold widthOf; rw [if_neg (by omega), if_neg (by omega), if_neg (by omega), if_neg (by omega)]⟩
    have h' : k < 1 ∨ 16 < k := by omega
    clear h
    rcases h' with h | h
    all_goals
      go_enter Try.func12, Try.ntmps12
      go_wp2
      go_ret
      exact ⟨by rw [hw.out]; rfl, rfl⟩
end Go.Proofs.Ytmhjjhaipcgbiaa


namespace Go.Proofs.Ytmhjjhaipcgbiaa
open Go.RowKit
set_option linter.unusedVariables false
set_option linter.unusedSimpArgs false
set_option maxRecDepth 100000
set_option maxHeartbeats 2000000
def asInt (b : Int) : Int := wrap64 b
def decOK (b : Int) : Bool := decide (-999999999999999999 ≤ asInt b ∧ asInt b ≤ 999999999999999999)
def SizeP (b : Int) (w : World) (e : Ending) (w' : World) : Prop := ∃ v n, e = .returned (.tuple #[.int .u64 v, .bool n, .bool (decOK b)]) ∧ w = w'
def CmpP (b : Int) (w : World) (e : Ending) (w' : World) : Prop := ∃ v, e = .returned (.tuple #[.int .i64 v, .int .i64 (if decOK b then 0 else 123)]) ∧ w = w'
def R12P (b : Int) (w : World) (e : Ending) (w' : World) : Prop := ∃ v n, e = .returned (.tuple #[.bool (decOK b), .bool n, .int .u64 v]) ∧ w = w'
def WhenP (ok : Bool) (w : World) (e : Ending) (w' : World) : Prop := ∃ v, e = .returned (.tuple #[.int .i64 v, .bool ok]) ∧ w = w'
theorem size_any (b : Int) (h0 : 0 ≤ b) (h1 : b ≤ 18446744073709551615) (w : World) : Calls Try.prog 91 #[.int .u64 b] w (SizeP b w) := by
  by_cases hs : wrap64 b < 0
  · have HD : Aside (decOK b = decide (IntKind.u64.wrap (-b) ≤ 999999999999999999)) := ⟨by
      have hw : IntKind.u64.wrap (-b) = (-b) % 18446744073709551616 := by simp [IntKind.wrap, IntKind.bits, IntKind.signed]
      rw [hw]
      unfold decOK asInt
      unfold wrap64 at hs ⊢
      rw [decide_eq_decide]; omega⟩
    go_enter Try.func91, Try.ntmps91
    go_wp2
    go_ret3
    refine ⟨IntKind.u64.wrap (-b), true, ?_, rfl⟩; rw [HD.out]; rfl
  · have HD : Aside (decOK b = decide (b ≤ 999999999999999999)) := ⟨by
      unfold decOK asInt
      unfold wrap64 at hs ⊢
      rw [decide_eq_decide]; omega⟩
    go_enter Try.func91, Try.ntmps91
    go_wp2
    go_ret3
    refine ⟨b, false, ?_, rfl⟩; rw [HD.out]; rfl
theorem cmp_self (b : Int) (h0 : 0 ≤ b) (h1 : b ≤ 18446744073709551615) (w : World) : Calls Try.prog 41 #[.int .u64 b, .int .u64 b] w (CmpP b w) := by
  have e1 : (b == b) = true := by simp
  cases hd : decOK b
  · have HD := Aside.mk hd
    clear hd
    go_enter Try.func41, Try.ntmps41
    go_wp2_with (go_at_call 91; refine (size_any _ h0 h1 _).mono ?_; unfold SizeP; rw [HD.out]; rintro e w1 ⟨v1, n1, rfl, rfl⟩)
    go_ret2
    refine ⟨0, ?_, rfl⟩; rw [HD.out]; rfl
  · have HD := Aside.mk hd
    clear hd
    go_enter Try.func41, Try.ntmps41
    go_wp2_with (go_at_call 91; refine (size_any _ h0 h1 _).mono ?_; unfold SizeP; rw [HD.out]; rintro e w1 ⟨v1, n1, rfl, rfl⟩)
    go_ret2
    refine ⟨0, ?_, rfl⟩; rw [HD.out]; rfl
theorem r12fits_any (b : Int) (h0 : 0 ≤ b) (h1 : b ≤ 18446744073709551615) (w : World) : Calls Try.prog 48 #[.int .u64 b] w (R12P b w) := by
  have hw : IntKind.u64.wrap (-b) = (-b) % 18446744073709551616 := by simp [IntKind.wrap, IntKind.bits, IntKind.signed]
  by_cases hs : b ≤ 999999999999999999
  · have HD : Aside (decOK b = true) := ⟨by unfold decOK asInt wrap64; simp; omega⟩
    clear hw
    go_enter Try.func48, Try.ntmps48
    go_wp2
    go_ret3
    refine ⟨b, false, ?_, rfl⟩; rw [HD.out]; rfl
  · have HD : Aside (decOK b = decide (IntKind.u64.wrap (-b) ≤ 999999999999999999)) := ⟨by rw [hw]; unfold decOK asInt wrap64; rw [decide_eq_decide]; omega⟩
    clear hw
    go_enter Try.func48, Try.ntmps48
    go_wp2
    all_goals
      go_ret3
      refine ⟨IntKind.u64.wrap (-b), true, ?_, rfl⟩; rw [HD.out]; rfl
def dayOK (b : Int) : Bool := decide (-719528 ≤ asInt b ∧ asInt b ≤ 2932896)
def momOK (b : Int) : Bool := decide (-62167219200000000 ≤ asInt b ∧ asInt b < 253402300800000000)
theorem r13isDay_any (b : Int) (w : World) : Calls Try.prog 49 #[.int .u64 b] w (WhenP (dayOK b) w) := by
  have hd : Aside (dayOK b = (decide (-719528 ≤ wrap64 b) && decide (wrap64 b ≤ 2932896))) := ⟨by unfold dayOK asInt; rw [Bool.decide_and]⟩
  by_cases h1 : -719528 ≤ wrap64 b
  · have H1 := Aside.mk h1
    go_enter Try.func49, Try.ntmps49
    go_wp2
    go_ret2
    refine ⟨wrap64 b, ?_, rfl⟩; rw [hd.out, decide_eq_true H1.out]; rfl
  · have H1 := Aside.mk h1
    have h2 : decide (-719528 ≤ wrap64 b) = false := by simpa using h1
    clear h1
    go_enter Try.func49, Try.ntmps49
    go_wp2
    go_ret2
    refine ⟨wrap64 b, ?_, rfl⟩; rw [hd.out, decide_eq_false (Int.not_le.2 H1.out)]; rfl
theorem r13isMoment_any (b : Int) (w : World) : Calls Try.prog 50 #[.int .u64 b] w (WhenP (momOK b) w) := by
  have hd : Aside (momOK b = (decide (-62167219200000000 ≤ wrap64 b) && decide (wrap64 b < 253402300800000000))) := ⟨by unfold momOK asInt; rw [Bool.decide_and]⟩
  by_cases h1 : -62167219200000000 ≤ wrap64 b
  · have H1 := Aside.mk h1
    go_enter Try.func50, Try.ntmps50
    go_wp2
    go_ret2
    refine ⟨wrap64 b, ?_, rfl⟩; rw [hd.out, decide_eq_true H1.out]; rfl
  · have H1 := Aside.mk h1
    have h2 : decide (-62167219200000000 ≤ wrap64 b) = false := by simpa using h1
    clear h1
    go_enter Try.func50, Try.ntmps50
    go_wp2
    go_ret2
    refine ⟨wrap64 b, ?_, rfl⟩; rw [hd.out, decide_eq_false (Int.not_le.2 H1.out)]; rfl
end Go.Proofs.Ytmhjjhaipcgbiaa
