/- Texts of this claim, one behind the other: Mem, Sl, Step, App2, Types, Scaled, Date, Pad, Pad2, Print, Moment, Bits, Class, Whole, Ref3, Fits, Fits2, Dict0. -/
import Derived.WalkKit
import Derived.OwnWalk
import Derived.Deep.AppendSrc
import Derived.Deep.Draws
import Derived.Deep.AppendLies
import Derived.Deep.RegionLaw
import Derived.Deep.RegionHeld3
import Derived.Test.YtmhjjhaipcgbiaaGreatRows
import Derived.RegionTactic
import Derived.Deep.QuietTactic
import Derived.BigQuiet
import Derived.WalkLawsBesides
import Derived.WalkSpells
import Derived.Deep.RegionWith
import Derived.Deep.DeepCutAuto
import Derived.Outline
import Derived.Laws.BitsAllLaws
import Derived.Maps.OwnSet
import Derived.Maps.OwnOps
import Derived.StringKeys
import Derived.Laws.BytesArg

namespace Go.Proofs.YtmhjjhaipcgbiaaGreat
open Go.RowKit
structure Aside (p : Prop) : Prop where mk :: (out : p)
theorem addr_add (g k j : Nat) : (⟨g, k, none⟩ : Addr).add j = ⟨g, k + j, none⟩ := by unfold Addr.add; split <;> simp_all
theorem below_drewN (w : World) (B n : Nat) : Below B w (w.drewN n) := ⟨rfl, rfl, rfl, Nat.le_refl _, fun _ _ => rfl⟩
theorem below_of_grown {w w' : World} {row : Option Nat} {B : Nat} (hg : w.grownBy w' row) (hB : B ≤ w.heap.size) (hr : ∀ k, row = some k → B ≤ k) : Below B w w' := (Below.refl B w).grown hg hB hr
theorem lt_of_blk {w : World} {b : Nat} {o : Obj} (h : w.heap[b]? = some o) : b < w.heap.size := (Array.getElem?_eq_some_iff.1 h).1
structure Kept (S : Nat → Prop) (w w' : World) : Prop where
  os : w'.os = w.os
  tape : w'.tape = w.tape
  output : w'.output = w.output
  size : w.heap.size ≤ w'.heap.size
  block : ∀ k, k < w.heap.size → ¬ S k → w'.heap[k]? = w.heap[k]?
namespace Kept
variable {S T : Nat → Prop} {w w' w'' : World}
theorem refl (S : Nat → Prop) (w : World) : Kept S w w := ⟨rfl, rfl, rfl, Nat.le_refl _, fun _ _ _ => rfl⟩
theorem mono (h : Kept S w w') (hT : ∀ k, S k → k < w.heap.size → T k) : Kept T w w' := ⟨h.os, h.tape, h.output, h.size, fun k hk ht => h.block k hk (fun hs => ht (hT k hs hk))⟩
theorem trans (h : Kept S w w') (h' : Kept T w' w'') (hT : ∀ k, T k → k < w.heap.size → S k) : Kept S w w'' :=
  ⟨h'.os.trans h.os, h'.tape.trans h.tape, h'.output.trans h.output, Nat.le_trans h.size h'.size, fun k hk hs => (h'.block k (Nat.lt_of_lt_of_le hk h.size) (fun ht => hs (hT k ht hk))).trans (h.block k hk hs)⟩
theorem of_below (h : Below w.heap.size w w') : Kept S w w' := ⟨h.os, h.tape, h.output, h.size, fun k hk _ => h.block k hk⟩
theorem to_below {B : Nat} (h : Kept S w w') (hB : B ≤ w.heap.size) (hS : ∀ k, S k → B ≤ k) : Below B w w' := ⟨h.os, h.tape, h.output, h.size, fun k hk => h.block k (Nat.lt_of_lt_of_le hk hB) (fun hs => Nat.not_lt.2 (hS k hs) hk)⟩
theorem of_grown {row : Option Nat} (h : w.grownBy w' row) : Kept (fun k => some k = row) w w' := ⟨h.os, h.tape, h.output, h.size, h.block⟩
theorem setCell (w : World) (a : Addr) (v : Value) : Kept (fun k => k = a.block) w (w.setCell a v) := ⟨rfl, rfl, rfl, by simp [World.setCell], fun k _ hk => Below.heap_setCell w a v k hk⟩
theorem cell (h : Kept S w w') {a : Addr} {v : Value} (hc : w.cell? a = some v) (hS : ¬ S a.block) : w'.cell? a = some v := (World.cell?_of_block (w := w) (h.block _ (World.block_lt_of_cell? _ _ hc) hS)).trans hc
end Kept
theorem heap_setCell_at {w : World} {b k : Nat} {cs : Array Value} {T : TypeId} {fr : Nat × Nat} (h : w.heap[b]? = some (.cells cs T fr)) (v : Value) :
    (w.setCell ⟨b, k, none⟩ v).heap[b]? = some (.cells (cs.setIfInBounds k v) T fr) := by
  simp [World.setCell, Array.getElem?_modify, h]
theorem cell_blk {w : World} {b k : Nat} {cs : Array Value} {T : TypeId} {fr : Nat × Nat} (h : w.heap[b]? = some (.cells cs T fr)) : w.cell? ⟨b, k, none⟩ = cs[k]? := by simp [World.cell?, h]
theorem frozen_blk {w : World} {b k : Nat} {cs : Array Value} {T : TypeId} (h : w.heap[b]? = some (.cells cs T (0, 0))) : w.frozen? ⟨b, k, none⟩ = false := by simp [World.frozen?, h]
theorem cell_one_new (w : World) (x : Value) (E : TypeId) : ∀ (j : Nat) (u : Value), [x][j]? = some u → (w.alloc (.cells #[x] E)).cell? ((⟨w.heap.size, 0, none⟩ : Addr).add j) = some u := by
  intro j u hj
  match j, hj with
  | 0, hj => simp at hj; subst hj; simp [Addr.add]
structure Rd (w : World) (sz : Nat) (v : Value) (n : Nat) (xs : List Value) : Prop where
  len : xs.length = n * sz
  shape : ∃ a cap, v = .slice a n cap ∧ n ≤ cap ∧ cap ≤ maxLen ∧ (a = none → n = 0 ∧ cap = 0) ∧ ∀ j u, xs[j]? = some u → ∃ b off, a = some ⟨b, off, none⟩ ∧ w.cell? ⟨b, off + j, none⟩ = some u
namespace Rd
variable {w w' : World} {sz n : Nat} {v : Value} {xs : List Value}
theorem below (h : Rd w sz v n xs) (hb : Below w.heap.size w w') : Rd w' sz v n xs := by
  obtain ⟨hl, a, cap, rfl, h1, h2, h3, h4⟩ := h
  refine ⟨hl, a, cap, rfl, h1, h2, h3, fun j u hu => ?_⟩
  obtain ⟨b, off, ha, hc⟩ := h4 j u hu
  exact ⟨b, off, ha, (hb.cell (p := ⟨b, off + j, none⟩) (World.block_lt_of_cell? _ _ hc)).trans hc⟩
theorem kept {S : Nat → Prop} (h : Rd w sz v n xs) (hb : Kept S w w') (hS : ∀ k, v.ownBlock = some k → ¬ S k) : Rd w' sz v n xs := by
  obtain ⟨hl, a, cap, rfl, h1, h2, h3, h4⟩ := h
  refine ⟨hl, a, cap, rfl, h1, h2, h3, fun j u hu => ?_⟩
  obtain ⟨b, off, rfl, hc⟩ := h4 j u hu
  exact ⟨b, off, rfl, hb.cell hc (hS b rfl)⟩
theorem nil (w : World) (sz : Nat) : Rd w sz (.slice none 0 0) 0 [] := ⟨by simp, none, 0, rfl, Nat.le_refl _, by decide, fun _ => ⟨rfl, rfl⟩, fun j u hu => by simp at hu⟩
theorem form (h : Rd w sz v n xs) : ∃ a c, v = .slice a n c := by obtain ⟨_, a, c, rfl, _⟩ := h; exact ⟨a, c, rfl⟩
theorem some_ (h : Rd w sz v n xs) (hn : 0 < xs.length) : ∃ b off cap, v = .slice (some ⟨b, off, none⟩) n cap ∧ n ≤ cap ∧ cap ≤ 9223372036854775807 ∧ ∀ j u, xs[j]? = some u → w.cell? ⟨b, off + j, none⟩ = some u := by
  obtain ⟨hl, a, cap, rfl, h1, h2, h3, h4⟩ := h
  obtain ⟨b, off, rfl, _⟩ := h4 0 xs[0] (List.getElem?_eq_getElem hn)
  refine ⟨b, off, cap, rfl, h1, by unfold maxLen at h2; omega, fun j u hu => ?_⟩
  obtain ⟨b', off', e, hc⟩ := h4 j u hu
  cases e
  exact hc
theorem src (h : Rd w sz v n xs) {P : Program} {tx e : TypeId} (hk : P.underlying tx = some (.slice e)) (h1 : ∀ u ∈ xs, u.oneCell' = true) : Src P sz tx v n xs w := by
  obtain ⟨hl, a, cap, rfl, h2, h3, h4, h5⟩ := h
  cases a with
  | none =>
    obtain ⟨rfl, rfl⟩ := h4 rfl
    obtain rfl : xs = [] := List.eq_nil_of_length_eq_zero (by simpa using hl)
    exact Src.ofNil w hk 0
  | some a =>
    by_cases h0 : xs = []
    · subst h0
      exact Src.ofSlice w hk a n cap [] hl (by simp) h1
    · obtain ⟨b, off, e', _⟩ := h5 0 (xs[0]'(List.length_pos_iff.2 h0)) (List.getElem?_eq_getElem _)
      cases e'
      refine Src.ofSlice w hk _ n cap xs hl (fun j u hu => ?_) h1
      obtain ⟨b', off', e', hc⟩ := h5 j u hu
      cases e'
      rw [addr_add]
      exact hc
theorem max (h : Rd w sz v n xs) : n ≤ 9223372036854775807 := by
  obtain ⟨_, a, cap, rfl, h1, h2, _⟩ := h
  unfold maxLen at h2; omega
end Rd
def Own (w : World) (base : Nat) (E : TypeId) (sz : Nat) (v : Value) (n : Nat) (xs : List Value) : Prop :=
  xs.length = n * sz ∧
  ((v = .slice none 0 0 ∧ n = 0) ∨
   ∃ g off cap cur, v = .slice (some ⟨g, off, none⟩) n cap ∧ base ≤ g ∧ w.heap[g]? = some (.cells cur E (0, 0)) ∧ n ≤ cap ∧ cap ≤ maxLen ∧ off + cap * sz ≤ cur.size ∧ ∀ j, j < n * sz → cur[off + j]? = xs[j]?)
namespace Own
variable {w w' : World} {base : Nat} {E : TypeId} {sz n : Nat} {v : Value} {xs : List Value}
theorem nil (w : World) (base : Nat) (E : TypeId) (sz : Nat) : Own w base E sz (.slice none 0 0) 0 [] := ⟨by simp, .inl ⟨rfl, rfl⟩⟩
theorem of_row (h : w.ownsRow base E sz v n xs) : Own w base E sz v n xs := by
  refine ⟨h.1, ?_⟩
  rcases h.2 with h2 | ⟨g, cap, cur, rfl, h3, h4, h5, h6, h7, h8⟩
  · exact .inl h2
  · refine .inr ⟨g, 0, cap, cur, rfl, h3, h4, h5, h6, by omega, fun j hj => ?_⟩
    rw [Nat.zero_add, ← h8, List.getElem?_take, if_pos hj]
    simp
theorem form (h : Own w base E sz v n xs) : ∃ a c, v = .slice a n c := by
  rcases h.2 with ⟨h1, h2⟩ | ⟨g, off, cap, cur, h1, _⟩
  · exact ⟨none, 0, by rw [h1, h2]⟩
  · exact ⟨_, _, h1⟩
theorem lt (h : Own w base E sz v n xs) : ∀ k, v.ownBlock = some k → base ≤ k ∧ k < w.heap.size := by
  intro k hk
  rcases h.2 with ⟨rfl, _⟩ | ⟨g, off, cap, cur, rfl, hb, hg, _⟩
  · simp [Value.ownBlock] at hk
  · simp [Value.ownBlock] at hk
    subst hk
    exact ⟨hb, lt_of_blk hg⟩
theorem moved (h : Own w base E sz v n xs) (hb : ∀ k, v.ownBlock = some k → w'.heap[k]? = w.heap[k]?) : Own w' base E sz v n xs := by
  refine ⟨h.1, ?_⟩
  rcases h.2 with h2 | ⟨g, off, cap, cur, rfl, h3, h4, r⟩
  · exact .inl h2
  · exact .inr ⟨g, off, cap, cur, rfl, h3, by rw [hb g rfl]; exact h4, r⟩
theorem kept {S : Nat → Prop} (h : Own w base E sz v n xs) (hk : Kept S w w') (hS : ∀ k, v.ownBlock = some k → ¬ S k) : Own w' base E sz v n xs :=
  h.moved (fun k e => hk.block k (h.lt k e).2 (hS k e))
theorem below (h : Own w base E sz v n xs) (hb : Below w.heap.size w w') : Own w' base E sz v n xs := h.moved (fun k e => hb.block k (h.lt k e).2)
theorem alloc (h : Own w base E sz v n xs) (o : Obj) : Own (w.alloc o) base E sz v n xs := h.below ((Below.refl _ _).alloc (Nat.le_refl _) o)
theorem drewN (h : Own w base E sz v n xs) (m : Nat) : Own (w.drewN m) base E sz v n xs := h
theorem set_other (h : Own w base E sz v n xs) {a : Addr} (ha : v.ownBlock ≠ some a.block) (u : Value) : Own (w.setCell a u) base E sz v n xs :=
  h.moved (fun k e => Below.heap_setCell _ _ _ _ (fun e' => ha (by rw [e, e'])))
theorem mono {base' : Nat} (h : Own w base E sz v n xs) (hb : base' ≤ base) : Own w base' E sz v n xs := by
  refine ⟨h.1, ?_⟩
  rcases h.2 with h2 | ⟨g, off, cap, cur, rfl, h3, r⟩
  · exact .inl h2
  · exact .inr ⟨g, off, cap, cur, rfl, Nat.le_trans hb h3, r⟩
theorem rd (h : Own w base E sz v n xs) : Rd w sz v n xs := by
  refine ⟨h.1, ?_⟩
  rcases h.2 with ⟨rfl, rfl⟩ | ⟨g, off, cap, cur, rfl, _, h4, h5, h6, _, h8⟩
  · exact ⟨none, 0, rfl, Nat.le_refl _, by decide, fun _ => ⟨rfl, rfl⟩, fun j u hu => by have := (List.getElem?_eq_some_iff.1 hu).1; have := h.1; omega⟩
  · refine ⟨_, cap, rfl, h5, h6, (fun e => (by cases e)), fun j u hu => ⟨g, off, rfl, ?_⟩⟩
    rw [cell_blk h4, h8 j (by have := (List.getElem?_eq_some_iff.1 hu).1; rw [h.1] at this; exact this)]
    exact hu
theorem max (h : Own w base E sz v n xs) : n ≤ 9223372036854775807 := h.rd.max
theorem some_ (h : Own w base E sz v n xs) (hn : 0 < n) : ∃ g off cap, v = .slice (some ⟨g, off, none⟩) n cap ∧ base ≤ g ∧ g < w.heap.size ∧ n ≤ cap ∧ cap ≤ 9223372036854775807 ∧ (∀ j u, xs[j]? = some u → w.cell? ⟨g, off + j, none⟩ = some u) ∧ ∀ k, w.frozen? ⟨g, k, none⟩ = false := by
  rcases h.2 with ⟨rfl, rfl⟩ | ⟨g, off, cap, cur, rfl, h3, h4, h5, h6, _, h8⟩
  · omega
  · refine ⟨g, off, cap, rfl, h3, lt_of_blk h4, h5, by unfold maxLen at h6; omega, fun j u hu => ?_, fun k => frozen_blk h4⟩
    rw [cell_blk h4, h8 j (by have := (List.getElem?_eq_some_iff.1 hu).1; rw [h.1] at this; exact this)]
    exact hu
theorem cut {g off cap i j : Nat} (h : Own w base E sz (.slice (some ⟨g, off, none⟩) n cap) n xs) (hij : i ≤ j) (hj : j ≤ n) : Own w base E sz (.slice (some ⟨g, off + i * sz, none⟩) (j - i) (cap - i)) (j - i) ((xs.drop (i * sz)).take ((j - i) * sz)) := by
  rcases h.2 with ⟨h2, _⟩ | ⟨g', off', cap', cur, h2, h3, h4, h5, h6, h7, h8⟩
  · simp at h2
  · simp only [Value.slice.injEq, Option.some.injEq, Addr.mk.injEq, and_true, true_and] at h2
    obtain ⟨⟨rfl, rfl⟩, rfl⟩ := h2
    have hi : i * sz ≤ cap * sz := Nat.mul_le_mul_right _ (by omega)
    have hi2 : i * sz + (j - i) * sz = j * sz := by rw [← Nat.add_mul]; congr 1; omega
    have hj2 : j * sz ≤ n * sz := Nat.mul_le_mul_right _ hj
    refine ⟨?_, .inr ⟨g, off + i * sz, cap - i, cur, rfl, h3, h4, by omega, by omega, ?_, fun k hk => ?_⟩⟩
    · rw [List.length_take, List.length_drop, h.1]; omega
    · rw [Nat.sub_mul]; omega
    · rw [Nat.add_assoc, h8 _ (by omega), List.getElem?_take, if_pos hk, List.getElem?_drop]
theorem stored {g off cap : Nat} (h : Own w base E sz (.slice (some ⟨g, off, none⟩) n cap) n xs) (j : Nat) (u : Value) : Own (w.setCell ⟨g, off + j, none⟩ u) base E sz (.slice (some ⟨g, off, none⟩) n cap) n (xs.set j u) := by
  rcases h.2 with ⟨h2, _⟩ | ⟨g', off', cap', cur, h2, h3, h4, h5, h6, h7, h8⟩
  · simp at h2
  · simp only [Value.slice.injEq, Option.some.injEq, Addr.mk.injEq, and_true, true_and] at h2
    obtain ⟨⟨rfl, rfl⟩, rfl⟩ := h2
    refine ⟨by rw [List.length_set]; exact h.1, .inr ⟨g, off, cap, _, rfl, h3, heap_setCell_at h4 u, h5, h6, by simpa using h7, fun k hk => ?_⟩⟩
    rw [Array.getElem?_setIfInBounds, List.getElem?_set]
    by_cases e : j = k
    · subst e
      have hj : j < xs.length := by rw [h.1]; exact hk
      have : off + j < cur.size := by
        have : n * sz ≤ cap * sz := Nat.mul_le_mul_right _ h5
        omega
      simp [hj, this]
    · rw [if_neg (by omega), if_neg e]; exact h8 k hk
end Own
theorem blk_ne {w : World} {a b : Nat} {c1 c2 : Array Value} {t1 t2 : TypeId} {f1 f2 : Nat × Nat} (h1 : w.heap[a]? = some (.cells c1 t1 f1)) (h2 : w.heap[b]? = some (.cells c2 t2 f2)) (ht : t1 ≠ t2) : a ≠ b := by
  rintro rfl
  rw [h1] at h2; cases h2; exact ht rfl
theorem Own.blk_ne {w : World} {base : Nat} {E : TypeId} {sz n : Nat} {v : Value} {xs : List Value} (h : Own w base E sz v n xs) {a : Nat} {c : Array Value} {t : TypeId} {f : Nat × Nat} (h1 : w.heap[a]? = some (.cells c t f)) (ht : t ≠ E) : v.ownBlock ≠ some a := by
  rcases h.2 with ⟨rfl, _⟩ | ⟨g, off, cap, cur, rfl, _, hg, _⟩
  · intro e; cases e
  · intro e; cases e; rw [h1] at hg; cases hg; exact ht rfl
section
variable {P : Program}
theorem run_append_own_at (w : World) (base : Nat) (t tx ty e : TypeId) (i : TypeInfo) (z : Value) (size bytes : Nat) (ht : P.underlying t = some (.slice e)) (hi : P.info? e = some i) (hz : i.zero = some z)
    (hsize : i.size = size) (hby : i.bytes = bytes) (hzs : z.cells.size = size)
    (v : Value) (n : Nat) (xs : List Value) (hown : Own w base e size v n xs)
    (x : Value) (m : Nat) (news : List Value) (hs : Src P size tx x m news w)
    (h63 : n + m ≤ maxLen) (hbytes : (n + m) * bytes ≤ 140737488355328) (hbase : base ≤ w.heap.size) :
    ∃ v' w', (Builtin.append_ #[t, tx] ty #[v, x]).run P w = .ok v' w' ∧ Own w' base e size v' (n + m) (xs ++ news) ∧ w.grownBy w' v.ownBlock ∧
      (v' = .slice none 0 0 ↔ v = .slice none 0 0 ∧ m = 0) ∧ (v'.ownBlock = v.ownBlock ∨ ∃ b, v'.ownBlock = some b ∧ w.heap.size ≤ b) := by
  subst hsize
  subst hby
  have hl : news.length = m * i.size := hs.newsLen
  have hsmall : n + m ≤ 9223372036854775807 := by simp only [maxLen] at h63; omega
  have hlen : (xs ++ news).length = (n + m) * i.size := by rw [List.length_append, hown.1, hl, Nat.add_mul]
  have grown : ∀ (old : Nat), old < n + m → ∀ (row : Option Nat),
      Own (w.drew.alloc (.cells ((xs ++ news).toArray ++ Builtin.zeroCells z.cells (grownCap w (n + m) old e - (n + m))) e)) base e i.size
        (.slice (some ⟨w.heap.size, 0, none⟩) (n + m) (grownCap w (n + m) old e)) (n + m) (xs ++ news) ∧
      w.grownBy (w.drew.alloc (.cells ((xs ++ news).toArray ++ Builtin.zeroCells z.cells (grownCap w (n + m) old e - (n + m))) e)) row := by
    intro old ho row
    have hge := grownCap_ge w (n + m) old e
    have hcm : grownCap w (n + m) old e ≤ maxLen := grownCap_le_maxLen w (n + m) old e h63
    refine ⟨⟨hlen, .inr ⟨w.heap.size, 0, _, _, rfl, hbase, heap_alloc_new w.drew _, hge, hcm, ?_, fun j hj => ?_⟩⟩, ⟨rfl, rfl, rfl, by simp, fun k hk _ => Below.heap_alloc w.drew _ k hk⟩⟩
    · simp only [Array.size_append, List.size_toArray, size_zeroCells, hzs, hlen, ← Nat.add_mul]
      rw [Nat.zero_add]
      exact Nat.le_of_eq (by congr 1; omega)
    · rw [Nat.zero_add, Array.getElem?_append_left (by simpa [hlen] using hj)]
      simp
  rcases hown.2 with ⟨rfl, rfl⟩ | ⟨g, off, cap, cur, rfl, hbg, hg, hnc, hcm, hcs, htake⟩
  · have hx : xs = [] := List.eq_nil_of_length_eq_zero (by simpa using hown.1)
    subst hx
    by_cases hm : m = 0
    · subst hm
      have hn : news = [] := List.eq_nil_of_length_eq_zero (by simpa using hl)
      subst hn
      refine ⟨.slice none 0 0, w, ?_, Own.nil w base e i.size, ⟨rfl, rfl, rfl, Nat.le_refl _, fun _ _ _ => rfl⟩, by simp, .inl rfl⟩
      rcases hs.kind with ⟨e', hk⟩ | hk <;> simp [Builtin.append_, run_underlying ht, run_underlying hk, sizeOf, typeInfo, hi, hs.len, hs.cells]
    · have hr := run_append_grow_src (P := P) w t tx ty e i z ht hi hz none 0 0 [] (by simp [Builtin.firstCells]) x m news hs (by omega) (by omega) (growslice_fits (by omega) (by simpa using hbytes))
      have hgr := grown 0 (by omega) (Value.ownBlock (.slice none 0 0))
      exact ⟨_, _, hr, hgr.1, hgr.2, by simp [hm], .inr ⟨_, rfl, Nat.le_refl _⟩⟩
  · have hxs : ∀ j u, xs[j]? = some u → w.cell? ((⟨g, off, none⟩ : Addr).add j) = some u := by
      intro j u hu
      rw [addr_add, cell_blk hg, htake j (by have := (List.getElem?_eq_some_iff.1 hu).1; rw [hown.1] at this; exact this)]
      exact hu
    by_cases hroom : n + m ≤ cap
    · have hfit : n * i.size + news.length ≤ cap * i.size := by rw [hl, ← Nat.add_mul]; exact Nat.mul_le_mul_right _ hroom
      have hst := run_storeCells_at P g (off + n * i.size) e news 0 cur w hg (by omega) hs.one
      simp only [Nat.add_zero] at hst
      have hr : (Builtin.append_ #[t, tx] ty #[.slice (some ⟨g, off, none⟩) n cap, x]).run P w = .ok (.slice (some ⟨g, off, none⟩) (n + m) cap) (w.setRow g (cur.toList.take (off + n * i.size) ++ news ++ cur.toList.drop (off + n * i.size + news.length)).toArray) := by
        rcases hs.kind with ⟨e', hk⟩ | hk <;> simp [Builtin.append_, run_underlying ht, run_underlying hk, sizeOf, typeInfo, hi, hs.len, hroom, hs.cells, addr_add, hst]
      refine ⟨_, _, hr, ⟨hlen, .inr ⟨g, off, cap, _, rfl, hbg, setRow_heap w g cur _ e _ hg, hroom, hcm, ?_, fun j hj => ?_⟩⟩, ⟨rfl, rfl, rfl, by simp, fun k _ hk => setRow_other w g k _ (fun e => hk (by simp [Value.ownBlock, e]))⟩, by simp, .inl rfl⟩
      · simp only [List.size_toArray, List.length_append, List.length_take, List.length_drop, Array.length_toList]
        omega
      · have hx := hown.1
        have ht1 : (cur.toList.take (off + n * i.size)).length = off + n * i.size := by rw [List.length_take, Array.length_toList]; omega
        rw [List.getElem?_toArray]
        by_cases hj2 : j < n * i.size
        · rw [List.append_assoc, List.getElem?_append_left (by omega), List.getElem?_take, if_pos (by omega), Array.getElem?_toList, htake j hj2, List.getElem?_append_left (by omega)]
        · rw [List.append_assoc, List.getElem?_append_right (by omega), ht1, List.getElem?_append_left (by rw [hl]; rw [Nat.add_mul] at hj; omega), List.getElem?_append_right (by omega)]
          congr 1
          omega
    · have hold : (Builtin.firstCells i.size n (.slice (some ⟨g, off, none⟩) n cap)).run P w.drew = .ok xs.toArray w.drew := run_firstCells_some w.drew i.size n ⟨g, off, none⟩ n cap xs hown.1 (by simpa using hxs)
      have hr := run_append_grow_src (P := P) w t tx ty e i z ht hi hz (some ⟨g, off, none⟩) n cap xs hold x m news hs (by omega) (by omega) (growslice_fits (by omega) hbytes)
      have hgr := grown cap (by omega) (Value.ownBlock (.slice (some ⟨g, off, none⟩) n cap))
      exact ⟨_, _, hr, hgr.1, hgr.2, by simp, .inr ⟨_, rfl, Nat.le_refl _⟩⟩
theorem own_empty (w : World) (base b : Nat) (E : TypeId) (sz : Nat) (hb : w.heap.size = b) (h : base ≤ b) : Own (w.alloc (.cells #[] E)) base E sz (.slice (some ⟨b, 0, none⟩) 0 0) 0 [] := by
  subst hb
  exact ⟨by simp, .inr ⟨_, 0, 0, #[], rfl, h, heap_alloc_new w _, Nat.le_refl _, by decide, by simp, fun j hj => by simp at hj⟩⟩
theorem wpList_app (w : World) {ops : Array Oper} {rest : List Oper} {o : Oper} {a : Act} {Q : Exit → Act → World → Prop} (hgd : o.guard = none) (s x : Operand) (t tx : TypeId)
    (ho : o.op = .call { callee := .builtin .append, args := #[s, x], argTypes := #[t, tx] })
    (base : Nat) (e : TypeId) (z : Value) (size bytes : Nat) (ht : P.underlying t = some (.slice e)) (hi : (P.info? e).map (fun i => (i.zero, i.size, i.bytes)) = some (some z, size, bytes))
    (hzs : z.cells.size = size)
    (v : Value) (n : Nat) (xs : List Value) (hs : a.eval s = v) (hown : Own w base e size v n xs)
    (u : Value) (m : Nat) (news : List Value) (hx : a.eval x = u) (hsrc : Src P size tx u m news w)
    (h63 : n + m ≤ maxLen) (hbytes : (n + m) * bytes ≤ 140737488355328) (hbase : base ≤ w.heap.size)
    (h : ∀ v' w', Own w' base e size v' (n + m) (xs ++ news) → w.grownBy w' v.ownBlock → (v' = .slice none 0 0 ↔ v = .slice none 0 0 ∧ m = 0) → (v'.ownBlock = v.ownBlock ∨ ∃ b, v'.ownBlock = some b ∧ w.heap.size ≤ b) →
      wpList P ops Q rest (a.put o.dst v') w') : wpList P ops Q (o :: rest) a w := by
  obtain ⟨i0, hi, hz0, hz1, hz2⟩ := info_parts hi
  obtain ⟨v', w', hr, h2, h3, h4, h5⟩ := run_append_own_at (P := P) w base t tx o.type e i0 z size bytes ht hi hz0 hz1 hz2 hzs v n xs hown u m news hsrc h63 hbytes hbase
  have hw : Region.wanted o (yielded ops a.tmps) = true := by simp [Region.wanted, hgd]
  simp only [wpList, hw, if_true]
  left
  unfold Oper.wp execOp
  simp only [ho, resolve, invoke, builtin, Sem.run_bind, Sem.run_pure, Result.andThen_ok, List.map_toArray, List.map_cons, List.map_nil, hs, hx, hr]
  exact h v' w' h2 h3 h4 h5
theorem src_one {w : World} {tx e : TypeId} (hk : P.underlying tx = some (.slice e)) (b : Nat) (x : Value) (E : TypeId) (h1 : x.oneCell' = true) (hb : w.heap.size = b) : Src P 1 tx (.slice (some ⟨b, 0, none⟩) 1 1) 1 [x] (w.alloc (.cells #[x] E)) := by
  subst hb
  exact Src.ofSlice _ hk _ 1 1 [x] rfl (cell_one_new _ _ _) (by simpa using h1)
end
end Go.Proofs.YtmhjjhaipcgbiaaGreat


namespace Go.Proofs.YtmhjjhaipcgbiaaGreat
open Go.RowKit
set_option linter.unusedSimpArgs false
def cutA (a : Option Addr) (c i sz : Nat) : Option Addr := if c = i then a else a.map (·.add (i * sz))
section
variable {P : Program} {T e : TypeId} {sz : Nat}
theorem run_slice_mid (hT : P.underlying T = some (.slice e)) (hs : (P.info? e).map (·.size) = some sz) (a : Option Addr) (n c i j : Nat) (hij : i ≤ j) (hjc : j ≤ c) (w : World) :
    (Instr.slice T (.slice a n c) (some (.int .i64 (i : Int))) (some (.int .i64 (j : Int))) none).run P w = .ok (.slice (cutA a c i sz) (j - i) (c - i)) w := by
  obtain ⟨inf, hi, hz⟩ := Option.map_eq_some_iff.1 hs
  simp [Instr.slice, Instr.sliceBounds, Instr.sliceBound, run_underlying hT, sizeOf, typeInfo, hi, hz, asIntOf, go_sem, hij, hjc, cutA]
theorem run_slice_to (hT : P.underlying T = some (.slice e)) (hs : (P.info? e).map (·.size) = some sz) (a : Option Addr) (n c j : Nat) (hjc : j ≤ c) (w : World) :
    (Instr.slice T (.slice a n c) none (some (.int .i64 (j : Int))) none).run P w = .ok (.slice (cutA a c 0 sz) (j - 0) (c - 0)) w := by
  obtain ⟨inf, hi, hz⟩ := Option.map_eq_some_iff.1 hs
  simp [Instr.slice, Instr.sliceBounds, Instr.sliceBound, run_underlying hT, sizeOf, typeInfo, hi, hz, asIntOf, go_sem, hjc, cutA]
theorem run_slice_from (hT : P.underlying T = some (.slice e)) (hs : (P.info? e).map (·.size) = some sz) (a : Option Addr) (n c i : Nat) (hin : i ≤ n) (w : World) :
    (Instr.slice T (.slice a n c) (some (.int .i64 (i : Int))) none none).run P w = .ok (.slice (cutA a c i sz) (n - i) (c - i)) w := by
  obtain ⟨inf, hi, hz⟩ := Option.map_eq_some_iff.1 hs
  simp [Instr.slice, Instr.sliceBounds, Instr.sliceBound, run_underlying hT, sizeOf, typeInfo, hi, hz, asIntOf, go_sem, hin, cutA]
end
theorem Rd.mid {w : World} {sz n c : Nat} {a : Option Addr} {xs : List Value} (h : Rd w sz (.slice a n c) n xs) {i j : Nat} (hij : i ≤ j) (hjn : j ≤ n) : Rd w sz (.slice (cutA a c i sz) (j - i) (c - i)) (j - i) ((xs.drop (i * sz)).take ((j - i) * sz)) := by
  obtain ⟨hl, a', cap, e, h1, h2, h3, h4⟩ := h
  simp only [Value.slice.injEq, true_and] at e
  obtain ⟨rfl, rfl⟩ := e
  have hi2 : i * sz + (j - i) * sz = j * sz := by rw [← Nat.add_mul]; congr 1; omega
  have hj2 : j * sz ≤ n * sz := Nat.mul_le_mul_right _ hjn
  refine ⟨by rw [List.length_take, List.length_drop, hl]; omega, _, _, rfl, by omega, by omega, fun ea => ?_, fun k u hu => ?_⟩
  · unfold cutA at ea
    split at ea
    · have := h3 ea; omega
    · have := h3 (by simpa using ea); omega
  · have hk := (List.getElem?_eq_some_iff.1 hu).1
    rw [List.length_take, List.length_drop] at hk
    rw [List.getElem?_take, if_pos (by omega), List.getElem?_drop] at hu
    obtain ⟨b, off, rfl, hc⟩ := h4 _ u hu
    have hci : c ≠ i := by
      intro e
      have : j - i = 0 := by omega
      rw [this] at hk; omega
    refine ⟨b, off + i * sz, ?_, by rw [Nat.add_assoc]; exact hc⟩
    rw [cutA, if_neg hci]
    simp [addr_add]
theorem Own.mid {w : World} {base : Nat} {E : TypeId} {sz n c : Nat} {a : Option Addr} {xs : List Value} (h : Own w base E sz (.slice a n c) n xs) {i j : Nat} (hij : i ≤ j) (hjn : j ≤ n) : Own w base E sz (.slice (cutA a c i sz) (j - i) (c - i)) (j - i) ((xs.drop (i * sz)).take ((j - i) * sz)) ∨ (j - i = 0 ∧ c = i) := by
  rcases h.2 with ⟨e, hn⟩ | ⟨g, off, cap, cur, e, _⟩
  · simp only [Value.slice.injEq] at e
    exact .inr ⟨by omega, by omega⟩
  · simp only [Value.slice.injEq, true_and] at e
    obtain ⟨rfl, rfl⟩ := e
    by_cases hci : c = i
    · have hnc : n ≤ c := by
        rcases h.2 with ⟨e, _⟩ | ⟨_, _, _, _, e, _, _, h5, _⟩
        · cases e
        · cases e; exact h5
      exact .inr ⟨by omega, hci⟩
    · refine .inl ?_
      have := h.cut hij hjn
      rw [cutA, if_neg hci]
      simpa [addr_add] using this
end Go.Proofs.YtmhjjhaipcgbiaaGreat


namespace Go.Proofs.YtmhjjhaipcgbiaaGreat
set_option linter.unusedSimpArgs false
open Go.RowKit
theorem step_app {P : Program} (w : World) {ops : Array Oper} {o : Oper} {a : Act} {K : Act → World → Prop} {Q : Exit → Act → World → Prop} {E' : Prop} (hgd : o.guard = none) (s x : Operand) (t tx : TypeId)
    (ho : o.op = .call { callee := .builtin .append, args := #[s, x], argTypes := #[t, tx] })
    (base : Nat) (e : TypeId) (z : Value) (size bytes : Nat) (ht : P.underlying t = some (.slice e)) (hi : (P.info? e).map (fun i => (i.zero, i.size, i.bytes)) = some (some z, size, bytes))
    (hzs : z.cells.size = size)
    (v : Value) (n : Nat) (xs : List Value) (hs : a.eval s = v) (hown : Own w base e size v n xs)
    (u : Value) (m : Nat) (news : List Value) (hx : a.eval x = u) (hsrc : Src P size tx u m news w)
    (h63 : n + m ≤ maxLen) (hbytes : (n + m) * bytes ≤ 140737488355328) (hbase : base ≤ w.heap.size)
    (h : ∀ v' w', Own w' base e size v' (n + m) (xs ++ news) → w.grownBy w' v.ownBlock → (v' = .slice none 0 0 ↔ v = .slice none 0 0 ∧ m = 0) → (v'.ownBlock = v.ownBlock ∨ ∃ b, v'.ownBlock = some b ∧ w.heap.size ≤ b) →
      K (a.put o.dst v') w') : if Region.wanted o (yielded ops a.tmps) = true then Oper.wp P o a w K Q else E' := by
  obtain ⟨i0, hi, hz0, hz1, hz2⟩ := info_parts hi
  obtain ⟨v', w', hr, h2, h3, h4, h5⟩ := run_append_own_at (P := P) w base t tx o.type e i0 z size bytes ht hi hz0 hz1 hz2 hzs v n xs hown u m news hsrc h63 hbytes hbase
  have hw : Region.wanted o (yielded ops a.tmps) = true := by simp [Region.wanted, hgd]
  rw [if_pos hw]
  unfold Oper.wp execOp
  simp only [ho, resolve, invoke, builtin, Sem.run_bind, Sem.run_pure, Result.andThen_ok, List.map_toArray, List.map_cons, List.map_nil, hs, hx, hr]
  exact h v' w' h2 h3 h4 h5
theorem src_one_drew {P : Program} {w : World} {tx e : TypeId} (hk : P.underlying tx = some (.slice e)) (b : Nat) (x : Value) (E : TypeId) (h1 : x.oneCell' = true) (hb : w.heap.size = b) : Src P 1 tx (.slice (some ⟨b, 0, none⟩) 1 1) 1 [x] (w.alloc (.cells #[x] E)).drew :=
  src_one (w := w.drew) hk b x E h1 hb
theorem step_call {P : Program} (w : World) {ops : Array Oper} {o : Oper} {a : Act} {K : Act → World → Prop} {Q : Exit → Act → World → Prop} {E' : Prop} (hgd : o.guard = none) (f : FuncId) (args : List Operand) (tys : Array TypeId)
    (ho : o.op = .call { callee := .value (.func f), args := args.toArray, argTypes := tys }) (vs : List Value) (hv : args.map a.eval = vs)
    (eg : ∀ args w, (callFunc f args).run P w = .ok (.enter f args) w) {R : Ending → World → Prop} (hc : Calls P f vs.toArray w R)
    (h : ∀ e w', R e w' → ∃ v, e = .returned v ∧ K (a.put o.dst v) w') : if Region.wanted o (yielded ops a.tmps) = true then Oper.wp P o a w K Q else E' := by
  have hw : Region.wanted o (yielded ops a.tmps) = true := by simp [Region.wanted, hgd]
  rw [if_pos hw]
  unfold Oper.wp
  have hr : (execOp a.eval o).run P w = .ok (.enter f vs.toArray) w := by
    unfold execOp
    simp [ho, List.map_toArray, resolve, invoke, Sem.run_bind, Sem.run_pure, Result.andThen_ok, hv, eg, Act.eval, Deferred.ofValue, Result.andThen]
  rw [hr, Oper.upon_enter]
  refine hc.mono ?_
  intro e w' hR
  obtain ⟨v, rfl, hK⟩ := h e w' hR
  exact hK
theorem step_callG {P : Program} (w : World) {ops : Array Oper} {o : Oper} {a : Act} {K : Act → World → Prop} {Q : Exit → Act → World → Prop} {E' : Prop} (f : FuncId) (args : List Operand) (tys : Array TypeId)
    (ho : o.op = .call { callee := .value (.func f), args := args.toArray, argTypes := tys }) (hw : Region.wanted o (yielded ops a.tmps) = true) (vs : List Value) (hv : args.map a.eval = vs)
    (eg : ∀ args w, (callFunc f args).run P w = .ok (.enter f args) w) {R : Ending → World → Prop} (hc : Calls P f vs.toArray w R)
    (h : ∀ e w', R e w' → ∃ v, e = .returned v ∧ K (a.put o.dst v) w') : if Region.wanted o (yielded ops a.tmps) = true then Oper.wp P o a w K Q else E' := by
  rw [if_pos hw]
  unfold Oper.wp
  have hr : (execOp a.eval o).run P w = .ok (.enter f vs.toArray) w := by
    unfold execOp
    simp [ho, List.map_toArray, resolve, invoke, Sem.run_bind, Sem.run_pure, Result.andThen_ok, hv, eg, Act.eval, Deferred.ofValue, Result.andThen]
  rw [hr, Oper.upon_enter]
  refine hc.mono ?_
  intro e w' hR
  obtain ⟨v, rfl, hK⟩ := h e w' hR
  exact hK
end Go.Proofs.YtmhjjhaipcgbiaaGreat


namespace Go.Proofs.YtmhjjhaipcgbiaaGreat
open Go.RowKit
set_option linter.unusedSimpArgs false
set_option linter.unusedVariables false
theorem own_front0 {w : World} {base : Nat} {E : TypeId} {sz n c m : Nat} {a : Option Addr} {xs ys : List Value} (h : Own w base E sz (.slice a (n + m) c) (n + m) (xs ++ ys)) (hx : xs.length = n * sz) : Own w base E sz (.slice a n c) n xs := by
  rcases h.2 with ⟨e, hn⟩ | ⟨g, off, cap, cur, e, h1, h2, h3, h4, h5, h6⟩
  · simp only [Value.slice.injEq] at e
    obtain ⟨rfl, _, rfl⟩ := e
    obtain rfl : n = 0 := by omega
    have : xs = [] := List.eq_nil_of_length_eq_zero (by simpa using hx)
    subst this
    exact Own.nil _ _ _ _
  · cases e
    refine ⟨hx, .inr ⟨g, off, c, cur, rfl, h1, h2, by omega, h4, h5, fun j hj => ?_⟩⟩
    rw [h6 j (by rw [Nat.add_mul]; omega), List.getElem?_append_left (by omega)]
section
variable {P : Program}
structure AppP (w : World) (base : Nat) (e : TypeId) (size : Nat) (v : Value) (n : Nat) (xs : List Value) (m : Nat) (news : List Value) (v' : Value) (w' : World) : Prop where
  own : Own w' base e size v' (n + m) (xs ++ news)
  old : Own w' base e size v n xs
  grown : w.grownBy w' v.ownBlock
  blk : v'.ownBlock = v.ownBlock ∨ ∃ b, v'.ownBlock = some b ∧ w.heap.size ≤ b
  same : (∃ a c, v = .slice a n c ∧ v' = .slice a (n + m) c) ∨ ∃ b, v'.ownBlock = some b ∧ w.heap.size ≤ b
theorem run_append_own2 (w : World) (base : Nat) (t tx ty e : TypeId) (i : TypeInfo) (z : Value) (size bytes : Nat) (ht : P.underlying t = some (.slice e)) (hi : P.info? e = some i) (hz : i.zero = some z)
    (hsize : i.size = size) (hby : i.bytes = bytes) (hzs : z.cells.size = size)
    (v : Value) (n : Nat) (xs : List Value) (hown : Own w base e size v n xs)
    (x : Value) (m : Nat) (news : List Value) (hs : Src P size tx x m news w)
    (h63 : n + m ≤ maxLen) (hbytes : (n + m) * bytes ≤ 140737488355328) (hbase : base ≤ w.heap.size) :
    ∃ v' w', (Builtin.append_ #[t, tx] ty #[v, x]).run P w = .ok v' w' ∧ AppP w base e size v n xs m news v' w' := by
  subst hsize
  subst hby
  have hl : news.length = m * i.size := hs.newsLen
  have hsmall : n + m ≤ 9223372036854775807 := by simp only [maxLen] at h63; omega
  have hlen : (xs ++ news).length = (n + m) * i.size := by rw [List.length_append, hown.1, hl, Nat.add_mul]
  have grown : ∀ (old : Nat), old < n + m → ∀ (row : Option Nat),
      Own (w.drew.alloc (.cells ((xs ++ news).toArray ++ Builtin.zeroCells z.cells (grownCap w (n + m) old e - (n + m))) e)) base e i.size
        (.slice (some ⟨w.heap.size, 0, none⟩) (n + m) (grownCap w (n + m) old e)) (n + m) (xs ++ news) ∧
      w.grownBy (w.drew.alloc (.cells ((xs ++ news).toArray ++ Builtin.zeroCells z.cells (grownCap w (n + m) old e - (n + m))) e)) row := by
    intro old ho row
    have hge := grownCap_ge w (n + m) old e
    have hcm : grownCap w (n + m) old e ≤ maxLen := grownCap_le_maxLen w (n + m) old e h63
    refine ⟨⟨hlen, .inr ⟨w.heap.size, 0, _, _, rfl, hbase, heap_alloc_new w.drew _, hge, hcm, ?_, fun j hj => ?_⟩⟩, ⟨rfl, rfl, rfl, by simp, fun k hk _ => Below.heap_alloc w.drew _ k hk⟩⟩
    · simp only [Array.size_append, List.size_toArray, size_zeroCells, hzs, hlen, ← Nat.add_mul]
      rw [Nat.zero_add]
      exact Nat.le_of_eq (by congr 1; omega)
    · rw [Nat.zero_add, Array.getElem?_append_left (by simpa [hlen] using hj)]
      simp
  have old : ∀ (o : Obj), Own (w.drew.alloc o) base e i.size v n xs := fun o => hown.below (((below_drewN w _ 1).alloc (Nat.le_refl _) o))
  rcases hown.2 with ⟨rfl, rfl⟩ | ⟨g, off, cap, cur, rfl, hbg, hg, hnc, hcm, hcs, htake⟩
  · have hx : xs = [] := List.eq_nil_of_length_eq_zero (by simpa using hown.1)
    subst hx
    by_cases hm : m = 0
    · subst hm
      have hn : news = [] := List.eq_nil_of_length_eq_zero (by simpa using hl)
      subst hn
      refine ⟨.slice none 0 0, w, ?_, Own.nil w base e i.size, hown, ⟨rfl, rfl, rfl, Nat.le_refl _, fun _ _ _ => rfl⟩, .inl rfl, .inl ⟨none, 0, rfl, rfl⟩⟩
      rcases hs.kind with ⟨e', hk⟩ | hk <;> simp [Builtin.append_, run_underlying ht, run_underlying hk, sizeOf, typeInfo, hi, hs.len, hs.cells]
    · have hr := run_append_grow_src (P := P) w t tx ty e i z ht hi hz none 0 0 [] (by simp [Builtin.firstCells]) x m news hs (by omega) (by omega) (growslice_fits (by omega) (by simpa using hbytes))
      have hgr := grown 0 (by omega) (Value.ownBlock (.slice none 0 0))
      exact ⟨_, _, hr, hgr.1, old _, hgr.2, .inr ⟨_, rfl, Nat.le_refl _⟩, .inr ⟨_, rfl, Nat.le_refl _⟩⟩
  · have hxs : ∀ j u, xs[j]? = some u → w.cell? ((⟨g, off, none⟩ : Addr).add j) = some u := by
      intro j u hu
      rw [addr_add, cell_blk hg, htake j (by have := (List.getElem?_eq_some_iff.1 hu).1; rw [hown.1] at this; exact this)]
      exact hu
    by_cases hroom : n + m ≤ cap
    · have hfit : n * i.size + news.length ≤ cap * i.size := by rw [hl, ← Nat.add_mul]; exact Nat.mul_le_mul_right _ hroom
      have hst := run_storeCells_at P g (off + n * i.size) e news 0 cur w hg (by omega) hs.one
      simp only [Nat.add_zero] at hst
      have hr : (Builtin.append_ #[t, tx] ty #[.slice (some ⟨g, off, none⟩) n cap, x]).run P w = .ok (.slice (some ⟨g, off, none⟩) (n + m) cap) (w.setRow g (cur.toList.take (off + n * i.size) ++ news ++ cur.toList.drop (off + n * i.size + news.length)).toArray) := by
        rcases hs.kind with ⟨e', hk⟩ | hk <;> simp [Builtin.append_, run_underlying ht, run_underlying hk, sizeOf, typeInfo, hi, hs.len, hroom, hs.cells, addr_add, hst]
      have ho : Own (w.setRow g (cur.toList.take (off + n * i.size) ++ news ++ cur.toList.drop (off + n * i.size + news.length)).toArray) base e i.size (.slice (some ⟨g, off, none⟩) (n + m) cap) (n + m) (xs ++ news) := by
        refine ⟨hlen, .inr ⟨g, off, cap, _, rfl, hbg, setRow_heap w g cur _ e _ hg, hroom, hcm, ?_, fun j hj => ?_⟩⟩
        · simp only [List.size_toArray, List.length_append, List.length_take, List.length_drop, Array.length_toList]
          omega
        · have hx := hown.1
          have ht1 : (cur.toList.take (off + n * i.size)).length = off + n * i.size := by rw [List.length_take, Array.length_toList]; omega
          rw [List.getElem?_toArray]
          by_cases hj2 : j < n * i.size
          · rw [List.append_assoc, List.getElem?_append_left (by omega), List.getElem?_take, if_pos (by omega), Array.getElem?_toList, htake j hj2, List.getElem?_append_left (by omega)]
          · rw [List.append_assoc, List.getElem?_append_right (by omega), ht1, List.getElem?_append_left (by rw [hl]; rw [Nat.add_mul] at hj; omega), List.getElem?_append_right (by omega)]
            congr 1
            omega
      exact ⟨_, _, hr, ho, own_front0 ho hown.1, ⟨rfl, rfl, rfl, by simp, fun k _ hk => setRow_other w g k _ (fun e => hk (by simp [Value.ownBlock, e]))⟩, .inl rfl, .inl ⟨_, _, rfl, rfl⟩⟩
    · have hold : (Builtin.firstCells i.size n (.slice (some ⟨g, off, none⟩) n cap)).run P w.drew = .ok xs.toArray w.drew := run_firstCells_some w.drew i.size n ⟨g, off, none⟩ n cap xs hown.1 (by simpa using hxs)
      have hr := run_append_grow_src (P := P) w t tx ty e i z ht hi hz (some ⟨g, off, none⟩) n cap xs hold x m news hs (by omega) (by omega) (growslice_fits (by omega) hbytes)
      have hgr := grown cap (by omega) (Value.ownBlock (.slice (some ⟨g, off, none⟩) n cap))
      exact ⟨_, _, hr, hgr.1, old _, hgr.2, .inr ⟨_, rfl, Nat.le_refl _⟩, .inr ⟨_, rfl, Nat.le_refl _⟩⟩
theorem wpList_app2 (w : World) {ops : Array Oper} {rest : List Oper} {o : Oper} {a : Act} {Q : Exit → Act → World → Prop} (hgd : o.guard = none) (s x : Operand) (t tx : TypeId)
    (ho : o.op = .call { callee := .builtin .append, args := #[s, x], argTypes := #[t, tx] })
    (base : Nat) (e : TypeId) (z : Value) (size bytes : Nat) (ht : P.underlying t = some (.slice e)) (hi : (P.info? e).map (fun i => (i.zero, i.size, i.bytes)) = some (some z, size, bytes))
    (hzs : z.cells.size = size)
    (v : Value) (n : Nat) (xs : List Value) (hs : a.eval s = v) (hown : Own w base e size v n xs)
    (u : Value) (m : Nat) (news : List Value) (hx : a.eval x = u) (hsrc : Src P size tx u m news w)
    (h63 : n + m ≤ maxLen) (hbytes : (n + m) * bytes ≤ 140737488355328) (hbase : base ≤ w.heap.size)
    (h : ∀ v' w', AppP w base e size v n xs m news v' w' → wpList P ops Q rest (a.put o.dst v') w') : wpList P ops Q (o :: rest) a w := by
  obtain ⟨i0, hi, hz0, hz1, hz2⟩ := info_parts hi
  obtain ⟨v', w', hr, h2⟩ := run_append_own2 (P := P) w base t tx o.type e i0 z size bytes ht hi hz0 hz1 hz2 hzs v n xs hown u m news hsrc h63 hbytes hbase
  have hw : Region.wanted o (yielded ops a.tmps) = true := by simp [Region.wanted, hgd]
  simp only [wpList, hw, if_true]
  left
  unfold Oper.wp execOp
  simp only [ho, resolve, invoke, builtin, Sem.run_bind, Sem.run_pure, Result.andThen_ok, List.map_toArray, List.map_cons, List.map_nil, hs, hx, hr]
  exact h v' w' h2
theorem step_app2 (w : World) {ops : Array Oper} {o : Oper} {a : Act} {K : Act → World → Prop} {Q : Exit → Act → World → Prop} {E' : Prop} (s x : Operand) (t tx : TypeId)
    (ho : o.op = .call { callee := .builtin .append, args := #[s, x], argTypes := #[t, tx] }) (hgd : o.guard = none)
    (base : Nat) (e : TypeId) (z : Value) (size bytes : Nat) (ht : P.underlying t = some (.slice e)) (hi : (P.info? e).map (fun i => (i.zero, i.size, i.bytes)) = some (some z, size, bytes))
    (hzs : z.cells.size = size)
    (v : Value) (n : Nat) (xs : List Value) (hs : a.eval s = v) (hown : Own w base e size v n xs)
    (u : Value) (m : Nat) (news : List Value) (hx : a.eval x = u) (hsrc : Src P size tx u m news w)
    (h63 : n + m ≤ maxLen) (hbytes : (n + m) * bytes ≤ 140737488355328) (hbase : base ≤ w.heap.size)
    (h : ∀ v' w', AppP w base e size v n xs m news v' w' → K (a.put o.dst v') w') : if Region.wanted o (yielded ops a.tmps) = true then Oper.wp P o a w K Q else E' := by
  obtain ⟨i0, hi, hz0, hz1, hz2⟩ := info_parts hi
  obtain ⟨v', w', hr, h2⟩ := run_append_own2 (P := P) w base t tx o.type e i0 z size bytes ht hi hz0 hz1 hz2 hzs v n xs hown u m news hsrc h63 hbytes hbase
  have hw : Region.wanted o (yielded ops a.tmps) = true := by simp [Region.wanted, hgd]
  rw [if_pos hw]
  unfold Oper.wp execOp
  simp only [ho, resolve, invoke, builtin, Sem.run_bind, Sem.run_pure, Result.andThen_ok, List.map_toArray, List.map_cons, List.map_nil, hs, hx, hr]
  exact h v' w' h2
end
theorem Own.keptT {w w' : World} {base : Nat} {E : TypeId} {sz n : Nat} {v : Value} {xs : List Value} {S : Nat → Prop} (h : Own w base E sz v n xs) (hk : Kept S w w') (hS : ∀ b, S b → b < w.heap.size → ∀ cs, w.heap[b]? ≠ some (.cells cs E (0, 0))) : Own w' base E sz v n xs := by
  refine h.kept hk (fun b e hb => ?_)
  rcases h.2 with ⟨rfl, _⟩ | ⟨g, off, cap, cur, rfl, _, hg, _⟩
  · cases e
  · cases e; exact hS _ hb (lt_of_blk hg) _ hg
end Go.Proofs.YtmhjjhaipcgbiaaGreat


namespace Go.Proofs.YtmhjjhaipcgbiaaGreat
open Go.RowKit
set_option linter.unusedVariables false
set_option linter.unusedSimpArgs false
theorem bcell {W w1 : World} (hb : Below W.heap.size W w1) : (∀ b o, b < W.heap.size → w1.cell? ⟨b, o, none⟩ = W.cell? ⟨b, o, none⟩) ∧ (∀ b o, b < W.heap.size → w1.frozen? ⟨b, o, none⟩ = W.frozen? ⟨b, o, none⟩) :=
  ⟨fun b o h => hb.cell (p := ⟨b, o, none⟩) h, fun b o h => hb.frozen (p := ⟨b, o, none⟩) h⟩
theorem below_new (w : World) (o : Obj) : Below w.heap.size w (w.alloc o) := (Below.refl _ _).alloc (Nat.le_refl _) o
theorem ret_int {k : IntKind} {a b : Int} (h : a = b) : Ending.returned (.int k a) = .returned (.int k b) := by rw [h]
theorem ret_bool {a b : Bool} (h : a = b) : Ending.returned (.bool a) = .returned (.bool b) := by rw [h]
def okType (k s : Int) : Bool := decide (1 ≤ k ∧ k ≤ 16 ∧ 0 ≤ s ∧ s ≤ 18 ∧ (k = 12 ∨ s = 0))
def widthOf (k : Int) : Int := if k = 1 ∨ k = 5 ∨ k = 11 then 1 else if k = 2 ∨ k = 6 then 2 else if k = 3 ∨ k = 7 ∨ k = 9 ∨ k = 16 then 4 else if k = 4 ∨ k = 8 ∨ k = 10 ∨ k = 12 ∨ k = 13 ∨ k = 14 then 8 else 0
theorem num_any (x : Int) (w : World) : Calls Tryz.prog 12 #[.int .i64 x] w fun e w' => e = .returned (.int .i64 x) ∧ w = w' := by
  go_enter Tryz.func12, Tryz.ntmps12
  go_wp2
  go_ret
  exact ⟨rfl, rfl⟩
set_option maxHeartbeats 400000 in
theorem checkType_yes (k s : Int) (w : World) (h : okType k s = true) :
    Calls Tryz.prog 70 #[.agg #[.int .i64 k, .int .i64 s]] w fun e w' => e = .returned (.int .i64 0) ∧ Below w.heap.size w w' := by
  unfold okType at h
  simp only [decide_eq_true_eq] at h
  obtain ⟨h1, h2, h3, h4, h5⟩ := h
  have hb := Aside.mk (below_new w (.cells #[.int .i64 k, .int .i64 s] 23))
  rcases h5 with h5 | h5
  · subst h5
    go_enter Tryz.func70, Tryz.ntmps70
    go_wp2
    go_ret
    exact ⟨rfl, hb.out⟩
  · subst h5
    by_cases h6 : k = 12
    · subst h6
      go_enter Tryz.func70, Tryz.ntmps70
      go_wp2
      go_ret
      exact ⟨rfl, hb.out⟩
    · have h7 : (k == 12) = false := by simpa using h6
      clear h6
      go_enter Tryz.func70, Tryz.ntmps70
      go_wp2
      go_ret
      exact ⟨rfl, hb.out⟩
set_option maxHeartbeats 400000 in
theorem checkType_no (k s : Int) (w : World) (h : okType k s = false) :
    Calls Tryz.prog 70 #[.agg #[.int .i64 k, .int .i64 s]] w fun e w' => e = .returned (.int .i64 170) ∧ Below w.heap.size w w' := by
  unfold okType at h
  simp only [decide_eq_false_iff_not] at h
  have hb := Aside.mk (below_new w (.cells #[.int .i64 k, .int .i64 s] 23))
  have go : k < 1 ∨ (1 ≤ k ∧ 16 < k) ∨ (1 ≤ k ∧ k ≤ 16 ∧ s < 0) ∨ (1 ≤ k ∧ k ≤ 16 ∧ 0 ≤ s ∧ k = 12 ∧ 18 < s) ∨ (1 ≤ k ∧ k ≤ 16 ∧ 0 < s ∧ k ≠ 12) := by omega
  clear h
  by_cases h6 : k = 12
  · subst h6
    rcases go with h | ⟨_, h⟩ | ⟨_, _, h⟩ | ⟨_, _, h0, _, h⟩ | ⟨_, _, _, h⟩
    · omega
    · omega
    · go_enter Tryz.func70, Tryz.ntmps70
      go_wp2
      go_ret
      exact ⟨rfl, hb.out⟩
    · go_enter Tryz.func70, Tryz.ntmps70
      go_wp2
      go_ret
      exact ⟨rfl, hb.out⟩
    · omega
  · have h7 : (k == 12) = false := by simpa using h6
    have H6 := Aside.mk h6
    clear h6
    rcases go with h | ⟨h1, h⟩ | ⟨h1, h2, h⟩ | ⟨_, _, h0, h, _⟩ | ⟨h1, h2, h, _⟩
    · go_enter Tryz.func70, Tryz.ntmps70
      go_wp2
      go_ret
      exact ⟨rfl, hb.out⟩
    · go_enter Tryz.func70, Tryz.ntmps70
      go_wp2
      go_ret
      exact ⟨rfl, hb.out⟩
    · go_enter Tryz.func70, Tryz.ntmps70
      go_wp2
      go_ret
      exact ⟨rfl, hb.out⟩
    · exact absurd h H6.out
    · have h3 : ¬ s < 0 := by omega
      go_enter Tryz.func70, Tryz.ntmps70
      go_wp2
      go_ret
      exact ⟨rfl, hb.out⟩
theorem checkType_any (k s : Int) (w : World) :
    Calls Tryz.prog 70 #[.agg #[.int .i64 k, .int .i64 s]] w fun e w' => e = .returned (.int .i64 (if okType k s then 0 else 170)) ∧ Below w.heap.size w w' := by
  cases h : okType k s
  · exact checkType_no k s w h
  · exact checkType_yes k s w h
set_option maxHeartbeats 800000 in
theorem width_any (k : Int) (w : World) : Calls Tryz.prog 153 #[.int .i64 k] w fun e w' => e = .returned (.int .i64 (widthOf k)) ∧ w = w' := by
  by_cases h : 1 ≤ k ∧ k ≤ 16
  · obtain ⟨h1, h2⟩ := h
    have hk : k = 1 ∨ k = 2 ∨ k = 3 ∨ k = 4 ∨ k = 5 ∨ k = 6 ∨ k = 7 ∨ k = 8 ∨ k = 9 ∨ k = 10 ∨ k = 11 ∨ k = 12 ∨ k = 13 ∨ k = 14 ∨ k = 15 ∨ k = 16 := by omega
    clear h1 h2
    rcases hk with rfl | rfl | rfl | rfl | rfl | rfl | rfl | rfl | rfl | rfl | rfl | rfl | rfl | rfl | rfl | rfl
    all_goals
      go_enter Tryz.func153, Tryz.ntmps153
      go_wp2
      go_ret
      exact ⟨rfl, rfl⟩
  · have hw : Aside (widthOf k = 0) := ⟨by unfold widthOf; rw [if_neg (by omega), if_neg (by omega), if_neg (by omega), if_neg (by omega)]⟩
    have h' : k < 1 ∨ 16 < k := by omega
    clear h
    rcases h' with h | h
    all_goals
      go_enter Tryz.func153, Tryz.ntmps153
      go_wp2
      go_ret
      exact ⟨by rw [hw.out]; rfl, rfl⟩
end Go.Proofs.YtmhjjhaipcgbiaaGreat


namespace Go.Proofs.YtmhjjhaipcgbiaaGreat
open Go.RowKit
set_option linter.unusedVariables false
set_option linter.unusedSimpArgs false
set_option maxRecDepth 100000
set_option maxHeartbeats 2000000
def asInt (b : Int) : Int := wrap64 b
def decOK (b : Int) : Bool := decide (-999999999999999999 ≤ asInt b ∧ asInt b ≤ 999999999999999999)
def SizeP (b : Int) (w : World) (e : Ending) (w' : World) : Prop := ∃ v n, e = .returned (.tuple #[.int .u64 v, .bool n, .bool (decOK b)]) ∧ w = w'
def CmpP (b : Int) (w : World) (e : Ending) (w' : World) : Prop := ∃ v, e = .returned (.tuple #[.int .i64 v, .int .i64 (if decOK b then 0 else 123)]) ∧ w = w'
def R12P (b : Int) (w : World) (e : Ending) (w' : World) : Prop := ∃ v n, e = .returned (.tuple #[.bool (decOK b), .bool n, .int .u64 v]) ∧ w = w'
def WhenP (ok : Bool) (w : World) (e : Ending) (w' : World) : Prop := ∃ v, e = .returned (.tuple #[.int .i64 v, .bool ok]) ∧ w = w'
theorem size_any (b : Int) (h0 : 0 ≤ b) (h1 : b ≤ 18446744073709551615) (w : World) : Calls Tryz.prog 180 #[.int .u64 b] w (SizeP b w) := by
  by_cases hs : wrap64 b < 0
  · have HD : Aside (decOK b = decide (IntKind.u64.wrap (-b) ≤ 999999999999999999)) := ⟨by
      have hw : IntKind.u64.wrap (-b) = (-b) % 18446744073709551616 := by simp [IntKind.wrap, IntKind.bits, IntKind.signed]
      rw [hw]
      unfold decOK asInt
      unfold wrap64 at hs ⊢
      rw [decide_eq_decide]; omega⟩
    go_enter Tryz.func180, Tryz.ntmps180
    go_wp2
    go_ret3
    refine ⟨IntKind.u64.wrap (-b), true, ?_, rfl⟩; rw [HD.out]; rfl
  · have HD : Aside (decOK b = decide (b ≤ 999999999999999999)) := ⟨by
      unfold decOK asInt
      unfold wrap64 at hs ⊢
      rw [decide_eq_decide]; omega⟩
    go_enter Tryz.func180, Tryz.ntmps180
    go_wp2
    go_ret3
    refine ⟨b, false, ?_, rfl⟩; rw [HD.out]; rfl
theorem cmp_self (b : Int) (h0 : 0 ≤ b) (h1 : b ≤ 18446744073709551615) (w : World) : Calls Tryz.prog 138 #[.int .u64 b, .int .u64 b] w (CmpP b w) := by
  have e1 : (b == b) = true := by simp
  cases hd : decOK b
  · have HD := Aside.mk hd
    clear hd
    go_enter Tryz.func138, Tryz.ntmps138
    go_wp2_with (go_at_call 180; refine (size_any _ h0 h1 _).mono ?_; unfold SizeP; rw [HD.out]; rintro e w1 ⟨v1, n1, rfl, rfl⟩)
    go_ret2
    refine ⟨0, ?_, rfl⟩; rw [HD.out]; rfl
  · have HD := Aside.mk hd
    clear hd
    go_enter Tryz.func138, Tryz.ntmps138
    go_wp2_with (go_at_call 180; refine (size_any _ h0 h1 _).mono ?_; unfold SizeP; rw [HD.out]; rintro e w1 ⟨v1, n1, rfl, rfl⟩)
    go_ret2
    refine ⟨0, ?_, rfl⟩; rw [HD.out]; rfl
theorem r12fits_any (b : Int) (h0 : 0 ≤ b) (h1 : b ≤ 18446744073709551615) (w : World) : Calls Tryz.prog 143 #[.int .u64 b] w (R12P b w) := by
  have hw : IntKind.u64.wrap (-b) = (-b) % 18446744073709551616 := by simp [IntKind.wrap, IntKind.bits, IntKind.signed]
  by_cases hs : b ≤ 999999999999999999
  · have HD : Aside (decOK b = true) := ⟨by unfold decOK asInt wrap64; simp; omega⟩
    clear hw
    go_enter Tryz.func143, Tryz.ntmps143
    go_wp2
    go_ret3
    refine ⟨b, false, ?_, rfl⟩; rw [HD.out]; rfl
  · have HD : Aside (decOK b = decide (IntKind.u64.wrap (-b) ≤ 999999999999999999)) := ⟨by rw [hw]; unfold decOK asInt wrap64; rw [decide_eq_decide]; omega⟩
    clear hw
    go_enter Tryz.func143, Tryz.ntmps143
    go_wp2
    all_goals
      go_ret3
      refine ⟨IntKind.u64.wrap (-b), true, ?_, rfl⟩; rw [HD.out]; rfl
def dayOK (b : Int) : Bool := decide (-719528 ≤ asInt b ∧ asInt b ≤ 2932896)
def momOK (b : Int) : Bool := decide (-62167219200000000 ≤ asInt b ∧ asInt b < 253402300800000000)
theorem r13isDay_any (b : Int) (w : World) : Calls Tryz.prog 144 #[.int .u64 b] w (WhenP (dayOK b) w) := by
  have hd : Aside (dayOK b = (decide (-719528 ≤ wrap64 b) && decide (wrap64 b ≤ 2932896))) := ⟨by unfold dayOK asInt; rw [Bool.decide_and]⟩
  by_cases h1 : -719528 ≤ wrap64 b
  · have H1 := Aside.mk h1
    go_enter Tryz.func144, Tryz.ntmps144
    go_wp2
    go_ret2
    refine ⟨wrap64 b, ?_, rfl⟩; rw [hd.out, decide_eq_true H1.out]; rfl
  · have H1 := Aside.mk h1
    have h2 : decide (-719528 ≤ wrap64 b) = false := by simpa using h1
    clear h1
    go_enter Tryz.func144, Tryz.ntmps144
    go_wp2
    go_ret2
    refine ⟨wrap64 b, ?_, rfl⟩; rw [hd.out, decide_eq_false (Int.not_le.2 H1.out)]; rfl
theorem r13isMoment_any (b : Int) (w : World) : Calls Tryz.prog 145 #[.int .u64 b] w (WhenP (momOK b) w) := by
  have hd : Aside (momOK b = (decide (-62167219200000000 ≤ wrap64 b) && decide (wrap64 b < 253402300800000000))) := ⟨by unfold momOK asInt; rw [Bool.decide_and]⟩
  by_cases h1 : -62167219200000000 ≤ wrap64 b
  · have H1 := Aside.mk h1
    go_enter Tryz.func145, Tryz.ntmps145
    go_wp2
    go_ret2
    refine ⟨wrap64 b, ?_, rfl⟩; rw [hd.out, decide_eq_true H1.out]; rfl
  · have H1 := Aside.mk h1
    have h2 : decide (-62167219200000000 ≤ wrap64 b) = false := by simpa using h1
    clear h1
    go_enter Tryz.func145, Tryz.ntmps145
    go_wp2
    go_ret2
    refine ⟨wrap64 b, ?_, rfl⟩; rw [hd.out, decide_eq_false (Int.not_le.2 H1.out)]; rfl
end Go.Proofs.YtmhjjhaipcgbiaaGreat


namespace Go.Proofs.YtmhjjhaipcgbiaaGreat
open Go.RowKit
set_option linter.unusedVariables false
set_option linter.unusedSimpArgs false
set_option maxRecDepth 100000
set_option maxHeartbeats 2000000
def leapB (y : Int) : Bool := decide (0 ≤ y ∧ y ≤ 9999 ∧ y % 4 = 0 ∧ (y % 100 ≠ 0 ∨ y % 400 = 0))
theorem leap_any (y : Int) (h0 : 0 ≤ y) (h1 : y ≤ 9999) (w : World) : Calls Tryz.prog 200 #[.int .i64 y] w fun e w' => e = .returned (.bool (leapB y)) ∧ w = w' := by
  by_cases c1 : y % 4 = 0
  · by_cases c2 : y % 100 = 0
    · have hl : Aside (leapB y = (y % 400 == 0)) := ⟨by unfold leapB; by_cases c3 : y % 400 = 0 <;> simp [c1, c2, c3, h0, h1]⟩
      have e1 : (y % 4 == 0) = true := by simpa using c1
      have e2 : (y % 100 != 0) = false := by simpa using c2
      clear c1 c2
      go_enter Tryz.func200, Tryz.ntmps200
      go_wp2
      go_ret
      exact ⟨by rw [hl.out]; rfl, rfl⟩
    · have hl : Aside (leapB y = true) := ⟨by unfold leapB; simp [c1, c2, h0, h1]⟩
      have e1 : (y % 4 == 0) = true := by simpa using c1
      have e2 : (y % 100 != 0) = true := by simpa using c2
      clear c1 c2
      go_enter Tryz.func200, Tryz.ntmps200
      go_wp2
      go_ret
      exact ⟨by rw [hl.out]; rfl, rfl⟩
  · have hl : Aside (leapB y = false) := ⟨by unfold leapB; simp [c1]⟩
    have e1 : (y % 4 == 0) = false := by simpa using c1
    clear c1
    go_enter Tryz.func200, Tryz.ntmps200
    go_wp2
    go_ret
    exact ⟨by rw [hl.out]; rfl, rfl⟩
def dby (y : Int) : Int := if y = 0 then 0 else 365 * (y - 1 + 1) + (y - 1) / 4 - (y - 1) / 100 + (y - 1) / 400 + 1
theorem ahead_any (y : Int) (h0 : 0 ≤ y) (h1 : y ≤ 10000) (w : World) : Calls Tryz.prog 197 #[.int .i64 y] w fun e w' => e = .returned (.int .i64 (dby y)) ∧ w = w' := by
  by_cases c : y = 0
  · subst c
    go_enter Tryz.func197, Tryz.ntmps197
    go_wp2
    go_ret
    exact ⟨rfl, rfl⟩
  · have hd : Aside (dby y = 365 * (y - 1 + 1) + (y - 1) / 4 - (y - 1) / 100 + (y - 1) / 400 + 1) := ⟨by unfold dby; rw [if_neg c]⟩
    have e1 : (y == 0) = false := by simpa using c
    have h2 : 1 ≤ y := by omega
    clear c
    go_enter Tryz.func197, Tryz.ntmps197
    go_wp2
    go_ret
    refine ⟨ret_int ?_, rfl⟩
    rw [hd.out]
    omega
def feb (y : Int) : Int := 28 + (if leapB y then 1 else 0)
def mlens (y : Int) : List Int := [31, feb y, 31, 30, 31, 30, 31, 31, 30, 31, 30, 31]
theorem months_any (y : Int) (h0 : 0 ≤ y) (h1 : y ≤ 9999) (w : World) : Calls Tryz.prog 198 #[.int .i64 y] w fun e w' => e = .returned (.agg #[.int .i64 31, .int .i64 (feb y), .int .i64 31, .int .i64 30, .int .i64 31, .int .i64 30, .int .i64 31, .int .i64 31, .int .i64 30, .int .i64 31, .int .i64 30, .int .i64 31]) ∧ Below w.heap.size w w' := by
  cases hl : leapB y
  · have HL := Aside.mk hl
    clear hl
    go_enter Tryz.func198, Tryz.ntmps198
    go_wp2_with (go_at_call 200; refine (leap_any _ h0 h1 _).mono ?_; rw [HL.out]; rintro e w1 ⟨rfl, rfl⟩)
    refine bodyPost_ret (v := .agg #[.int .i64 31, .int .i64 28, .int .i64 31, .int .i64 30, .int .i64 31, .int .i64 30, .int .i64 31, .int .i64 31, .int .i64 30, .int .i64 31, .int .i64 30, .int .i64 31]) (by simp [results, Tryz.results198, go_sem]) rfl ⟨?_, (by repeat (first | exact Below.refl _ _ | assumption | (refine Below.drew ?_) | (refine Below.trans ?_ (below_drewN _ _ _)) | (refine Below.alloc ?_ (by first | omega | (simp; done) | (simp; omega)) _) | (refine Below.setCell ?_ (by first | omega | (simp; done) | (simp; omega)) _)))⟩
    simp [feb, HL.out]
  · have HL := Aside.mk hl
    clear hl
    go_enter Tryz.func198, Tryz.ntmps198
    go_wp2_with (go_at_call 200; refine (leap_any _ h0 h1 _).mono ?_; rw [HL.out]; rintro e w1 ⟨rfl, rfl⟩)
    refine bodyPost_ret (v := .agg #[.int .i64 31, .int .i64 29, .int .i64 31, .int .i64 30, .int .i64 31, .int .i64 30, .int .i64 31, .int .i64 31, .int .i64 30, .int .i64 31, .int .i64 30, .int .i64 31]) (by simp [results, Tryz.results198, go_sem]) rfl ⟨?_, (by repeat (first | exact Below.refl _ _ | assumption | (refine Below.drew ?_) | (refine Below.trans ?_ (below_drewN _ _ _)) | (refine Below.alloc ?_ (by first | omega | (simp; done) | (simp; omega)) _) | (refine Below.setCell ?_ (by first | omega | (simp; done) | (simp; omega)) _)))⟩
    simp [feb, HL.out]
def cum (y : Int) (m : Nat) : Int := ((mlens y).take m).sum
def isDate (N y m d : Int) : Prop := 0 ≤ y ∧ y ≤ 9999 ∧ ∃ j : Nat, m = j + 1 ∧ j < 12 ∧ 1 ≤ d ∧ d ≤ (mlens y).getD j 0 ∧ dby y + cum y j + d - 1 = N
theorem cum_succ (y : Int) (j : Nat) (h : j < 12) : cum y (j + 1) = cum y j + (mlens y).getD j 0 := by
  unfold cum
  have hl : j < (mlens y).length := by simp [mlens]; exact h
  rw [List.take_succ_eq_append_getElem hl, List.sum_append]
  simp [List.getD, List.getElem?_eq_getElem hl]
theorem cum_all (y : Int) : cum y 12 = 365 + (if leapB y then 1 else 0) := by
  unfold cum mlens feb
  cases leapB y <;> rfl
theorem mlens_pos (y : Int) (j : Nat) (h : j < 12) : 28 ≤ (mlens y).getD j 0 ∧ (mlens y).getD j 0 ≤ 31 := by
  unfold mlens feb
  have : j = 0 ∨ j = 1 ∨ j = 2 ∨ j = 3 ∨ j = 4 ∨ j = 5 ∨ j = 6 ∨ j = 7 ∨ j = 8 ∨ j = 9 ∨ j = 10 ∨ j = 11 := by omega
  rcases this with rfl | rfl | rfl | rfl | rfl | rfl | rfl | rfl | rfl | rfl | rfl | rfl <;> cases leapB y <;> simp
theorem dby_succ (y : Int) (h0 : 0 ≤ y) (h1 : y ≤ 9999) : dby (y + 1) = dby y + 365 + (if leapB y then 1 else 0) := by
  unfold dby leapB
  by_cases c : y = 0
  · subst c; decide
  · rw [if_neg (by omega), if_neg c]
    by_cases c1 : y % 4 = 0 <;> by_cases c2 : y % 100 = 0 <;> by_cases c3 : y % 400 = 0 <;> simp [c1, c2, c3, h0, h1] <;> omega
theorem dby_le (y : Int) (h0 : 0 ≤ y) : dby y ≤ 366 * y ∧ 0 ≤ dby y ∧ 365 * y ≤ dby y := by
  unfold dby
  split
  · omega
  · omega
def DateP (N : Int) (w : World) (e : Ending) (w' : World) : Prop := ∃ y m d, e = .returned (.tuple #[.int .i64 y, .int .i64 m, .int .i64 d]) ∧ isDate N y m d ∧ Below w.heap.size w w'
set_option maxHeartbeats 4000000 in
theorem date_any (N : Int) (h0 : 0 ≤ N) (h1 : N < 3652425) (w : World) : Calls Tryz.prog 181 #[.int .i64 (N - 719528)] w (DateP N w) := by
  have e0 : wrap64 (N - 719528 - -719528) = N := by unfold wrap64; omega
  go_enter Tryz.func181, Tryz.ntmps181
  go_wp2_with fail
  have g0 : dby (N / 366) ≤ N := by have := (dby_le (N / 366) (by omega)).1; omega
  have G0 := Aside.mk g0
  clear g0 e0
  go_loop [2] (fun t => ∃ y : Int, 0 ≤ y ∧ y ≤ 9999 ∧ Aside (dby y ≤ N) ∧ t = .int .i64 y) (fun t => (9999 - intOf t).toNat)
  case atStart => exact ⟨_, by omega, by omega, G0, rfl⟩
  case round =>
    obtain ⟨y, hy1, hy2, hy3, rfl⟩ := hrel
    have hp := dby_le (y + 1) (by omega)
    have hq := dby_le y (by omega)
    by_cases hc : y < 9999 ∧ dby (y + 1) ≤ N
    · obtain ⟨hlt, hd⟩ := hc
      go_wp2_with (go_at_call 197; refine (ahead_any _ (by omega) (by omega) _).mono ?_; rintro e w' ⟨rfl, rfl⟩)
      go_round
      case rel => exact ⟨y + 1, by omega, by omega, ⟨hd⟩, rfl⟩
      case measure => simp [intOf]; omega
    · have hsucc := dby_succ y hy1 hy2
      have hz : N < dby (y + 1) := by
        by_cases e : y = 9999
        · have : dby (9999 + 1) = 3652425 := by decide
          rw [e]; omega
        · omega
      have hy4 := hy3.out
      have hlen := cum_all y
      have hrem : 0 ≤ N - dby y ∧ N - dby y < cum y 12 := by rw [hlen]; omega
      have HREM := Aside.mk hrem
      have hbd : N - dby y ≤ 400 := by rw [hlen] at hrem; split at hrem <;> omega
      clear hc G0 hrem hsucc hlen
      have hlt2 : y < 9999 ∨ decide (y < 9999) = false := by by_cases h : y < 9999 <;> simp [h]
      have hmp := mlens_pos y
      have HMP := Aside.mk hmp
      clear hmp
      rcases hlt2 with hlt | hlt
      all_goals
        go_wp2_with (go_at_call 197; refine (ahead_any _ (by omega) (by omega) _).mono ?_; rintro e w' ⟨rfl, rfl⟩)
        refine (months_any y hy1 hy2 _).mono ?_
        rintro e w1 ⟨rfl, hb1⟩
        have hcell : ∀ j, j < 12 → (w1.alloc (.cells #[.int .i64 31, .int .i64 (feb y), .int .i64 31, .int .i64 30, .int .i64 31, .int .i64 30, .int .i64 31, .int .i64 31, .int .i64 30, .int .i64 31, .int .i64 30, .int .i64 31] 279)).cell? ⟨w1.heap.size, j, none⟩ = some (.int .i64 ((mlens y).getD j 0)) := by
          intro j hj
          rw [cell_blk (heap_alloc_new w1 _)]
          have : j = 0 ∨ j = 1 ∨ j = 2 ∨ j = 3 ∨ j = 4 ∨ j = 5 ∨ j = 6 ∨ j = 7 ∨ j = 8 ∨ j = 9 ∨ j = 10 ∨ j = 11 := by omega
          rcases this with rfl | rfl | rfl | rfl | rfl | rfl | rfl | rfl | rfl | rfl | rfl | rfl <;> rfl
        have HC := Aside.mk hcell
        have HB := Aside.mk (hb1.trans ((below_new w1 (.cells #[.int .i64 31, .int .i64 (feb y), .int .i64 31, .int .i64 30, .int .i64 31, .int .i64 30, .int .i64 31, .int .i64 31, .int .i64 30, .int .i64 31, .int .i64 30, .int .i64 31] 279)).mono hb1.size))
        clear hcell
        go_wp2_with fail
        generalize w1.alloc (.cells #[.int .i64 31, .int .i64 (feb y), .int .i64 31, .int .i64 30, .int .i64 31, .int .i64 30, .int .i64 31, .int .i64 31, .int .i64 30, .int .i64 31, .int .i64 30, .int .i64 31] 279) = w2 at *
        go_loop [0, 3] (fun vn vm => ∃ (j : Nat) (n : Int), j < 12 ∧ vm = .int .i64 j ∧ vn = .int .i64 n ∧ Aside (n = N - dby y - cum y j) ∧ 0 ≤ n ∧ n ≤ 400) (fun _ vm => 12 - (intOf vm).toNat)
        case atStart => exact ⟨0, _, by omega, rfl, rfl, ⟨by simp [cum]⟩, HREM.out.1, hbd⟩
        case round =>
          obtain ⟨j, n, hj, rfl, rfl, hn, hn0, hn400⟩ := hrel
          have hc := HC.out j hj
          have hm := HMP.out j hj
          have hcs := cum_succ y j hj
          obtain ⟨l, hl⟩ : ∃ l, l = (mlens y).getD j 0 := ⟨_, rfl⟩
          rw [← hl] at hc hm hcs
          have HL := Aside.mk hl
          have HS := Aside.mk hcs
          clear hl hcs
          obtain ⟨hm1, hm2⟩ := hm
          by_cases hln : l ≤ n
          · have hj2 : j + 1 < 12 := by
              by_cases e : j = 11
              · subst e
                have h3 := HREM.out.2
                have h4 := HS.out
                have h5 := hn.out
                simp only [Nat.reduceAdd] at h4
                omega
              · omega
            go_wp2
            go_round
            case rel => exact ⟨j + 1, n - l, hj2, by go_num, rfl, ⟨by rw [HS.out, hn.out]; omega⟩, by omega, by omega⟩
            case measure => simp [intOf]; omega
          · go_wp2
            go_ret3
            exact ⟨y, _, _, rfl, ⟨hy1, hy2, j, rfl, hj, by omega, by rw [← HL.out]; omega, by rw [hn.out]; omega⟩, HB.out⟩
end Go.Proofs.YtmhjjhaipcgbiaaGreat


namespace Go.Proofs.YtmhjjhaipcgbiaaGreat
open Go.RowKit
set_option linter.unusedVariables false
set_option linter.unusedSimpArgs false
set_option maxRecDepth 100000
set_option maxHeartbeats 2000000
def CountP (X : Nat) (w : World) (e : Ending) (w' : World) : Prop := ∃ c : Nat, e = .returned (.int .i64 (c : Int)) ∧ 1 ≤ c ∧ c ≤ 20 ∧ X < 10 ^ c ∧ (c = 1 ∨ 10 ^ (c - 1) ≤ X) ∧ w = w'
theorem pow_lt {k X : Nat} (h : k = 0 ∨ 10 ^ k ≤ X) (hX : X < 18446744073709551616) : k ≤ 19 := by
  rcases h with h | h
  · omega
  · apply Nat.le_of_not_lt
    intro hk
    have : 10 ^ 20 ≤ 10 ^ k := Nat.pow_le_pow_right (by decide) hk
    have h20 : (10 : Nat) ^ 20 = 100000000000000000000 := by decide
    omega
theorem count_any (X : Nat) (hX : X < 18446744073709551616) (w : World) : Calls Tryz.prog 199 #[.int .u64 (X : Int)] w (CountP X w) := by
  go_enter Tryz.func199, Tryz.ntmps199
  go_wp2
  go_loop [0, 3] (fun xv nv => ∃ k q : Nat, xv = .int .u64 (q : Int) ∧ nv = .int .i64 ((k : Int) + 1) ∧ Aside (q = X / 10 ^ k) ∧ Aside (k = 0 ∨ 10 ^ k ≤ X) ∧ k ≤ 19 ∧ q < 18446744073709551616) (fun xv _ => (intOf xv).toNat)
  case atStart => exact ⟨0, X, rfl, rfl, ⟨by simp⟩, ⟨.inl rfl⟩, by omega, hX⟩
  case round =>
    obtain ⟨k, q, rfl, rfl, hq, hk, hk19, hqX⟩ := hrel
    by_cases h9 : 9 < q
    · have hk2 : 10 ^ (k + 1) ≤ X := by
        have := hq.out
        have h1 : 10 ≤ X / 10 ^ k := by omega
        have h2 := (Nat.le_div_iff_mul_le (Nat.pow_pos (by decide : 0 < 10))).1 h1
        rw [Nat.pow_succ, Nat.mul_comm]; exact h2
      have hk3 := pow_lt (.inr hk2) hX
      go_wp2
      go_round
      case rel => exact ⟨k + 1, q / 10, by go_num, by go_num, ⟨by rw [hq.out, Nat.div_div_eq_div_mul, Nat.pow_succ]⟩, ⟨.inr hk2⟩, hk3, by omega⟩
      case measure => simp [intOf]; omega
    · have hlt : X < 10 ^ (k + 1) := by
        have := hq.out
        have h1 : X / 10 ^ k < 10 := by omega
        rw [Nat.pow_succ, Nat.mul_comm]
        exact (Nat.div_lt_iff_lt_mul (Nat.pow_pos (by decide : 0 < 10))).1 h1
      have HLT := Aside.mk hlt
      clear hlt
      go_wp2
      go_ret
      exact ⟨k + 1, by go_num, by omega, by omega, HLT.out, by rcases hk.out with h | h <;> simp_all, rfl⟩
def dg (X w j : Nat) : Nat := 48 + X / 10 ^ (w - 1 - j) % 10
def digs (X w : Nat) : List Value := (List.range w).map fun j => Value.int .u8 (dg X w j : Int)
theorem len_digs (X w : Nat) : (digs X w).length = w := by simp [digs]
theorem count_le {c X wd : Nat} (h1 : 1 ≤ wd) (hX : X < 10 ^ wd) (h4 : c = 1 ∨ 10 ^ (c - 1) ≤ X) : c ≤ wd := by
  rcases h4 with h | h
  · omega
  · apply Nat.le_of_not_lt
    intro hk
    have := Nat.pow_le_pow_right (show 0 < 10 by decide) (show wd ≤ c - 1 by omega)
    omega
def PadP (X wd : Nat) (w : World) (e : Ending) (w' : World) : Prop := ∃ a c, e = .returned (.tuple #[.slice a wd c, .int .i64 0]) ∧ Own w' w.heap.size 5 1 (.slice a wd c) wd (digs X wd) ∧ Below w.heap.size w w'
def PadIn (X wd B t : Nat) (wr : World) (cur : Array Value) (T : TypeId) : Prop := wr.heap[B]? = some (.cells cur T (0, 0)) ∧ cur.size = 20 ∧ (∀ j, j < 20 → ∃ z, cur[j]? = some (.int .u8 z)) ∧ ∀ j, t ≤ j → j < wd → cur[j]? = some (.int .u8 (dg X wd j : Int))
theorem u8info : (Tryz.prog.info? 5).map (fun i => (i.zero, i.size, i.bytes)) = some (some (.int .u8 0), 1, 1) := by kernel_rfl
theorem pad_ok (X wd : Nat) (h1 : 1 ≤ wd) (h2 : wd ≤ 20) (hX : X < 10 ^ wd) (hX2 : X < 18446744073709551616) (w : World) : Calls Tryz.prog 183 #[.int .u64 (X : Int), .int .i64 (wd : Int)] w (PadP X wd w) := by
  have HXW := Aside.mk hX
  clear hX
  go_enter Tryz.func183, Tryz.ntmps183
  go_wp2_with (go_at_call 199; refine (count_any X hX2 _).mono ?_; rintro e w' ⟨c, rfl, hc1, hc2, hc3, hc4, rfl⟩; have hcw : c ≤ wd := count_le h1 HXW.out hc4; clear hc3 hc4)
  go_loopw [0, 7] (fun xv iv wr => ∃ t : Nat, t ≤ wd ∧ xv = .int .u64 ((X / 10 ^ (wd - t) : Nat) : Int) ∧ iv = .int .i64 ((t : Int) - 1) ∧ Aside (Below w.heap.size w wr) ∧ Aside (∃ cur T, PadIn X wd w.heap.size t wr cur T)) (fun _ iv _ => (intOf iv + 1).toNat)
  case atStart =>
    refine ⟨wd, Nat.le_refl _, by simp, rfl, ⟨below_new _ _⟩, ⟨_, _, heap_alloc_new _ _, rfl, ?_, fun j h1 h2 => by omega⟩⟩
    intro j hj
    have : j = 0 ∨ j = 1 ∨ j = 2 ∨ j = 3 ∨ j = 4 ∨ j = 5 ∨ j = 6 ∨ j = 7 ∨ j = 8 ∨ j = 9 ∨ j = 10 ∨ j = 11 ∨ j = 12 ∨ j = 13 ∨ j = 14 ∨ j = 15 ∨ j = 16 ∨ j = 17 ∨ j = 18 ∨ j = 19 := by omega
    rcases this with rfl | rfl | rfl | rfl | rfl | rfl | rfl | rfl | rfl | rfl | rfl | rfl | rfl | rfl | rfl | rfl | rfl | rfl | rfl | rfl <;> exact ⟨_, rfl⟩
  case round =>
    obtain ⟨t, ht, rfl, rfl, hb, hp⟩ := hrel
    obtain ⟨cur, T, hp⟩ := hp.out
    cases t with
    | zero =>
      have HP := Aside.mk hp
      clear hp
      have hsrc : Src Tryz.prog 1 43 (.slice (some ⟨w.heap.size, 0, none⟩) wd 20) wd (digs X wd) wr := by
        refine Src.ofSlice _ Tryz.underlying43 _ wd 20 (digs X wd) (by simp [len_digs]) ?_ ?_
        · intro j u hu
          rw [addr_add, cell_blk HP.out.1]
          have hj := (List.getElem?_eq_some_iff.1 hu).1
          rw [len_digs] at hj
          simp only [digs, List.getElem?_map, List.getElem?_range hj, Option.map_some, Option.some.injEq] at hu
          rw [Nat.zero_add, HP.out.2.2.2 j (Nat.zero_le _) hj, hu]
        · intro x hx
          simp only [digs, List.mem_map] at hx
          obtain ⟨j, _, rfl⟩ := hx
          rfl
      have HS := Aside.mk hsrc
      have hbb := Aside.mk (lt_of_blk HP.out.1)
      clear hsrc
      go_wp2_with (at_builtin; refine wpList_app _ rfl _ _ 43 43 rfl w.heap.size 5 (.int .u8 0) 1 1 Tryz.underlying43 u8info rfl _ _ _ rfl (Own.nil _ _ _ _) _ wd (digs X wd) rfl HS.out (by unfold maxLen; omega) (by omega) (Nat.le_of_lt hbb.out) ?_)
      intro v' w5 hown' hgrow _ hat
      obtain ⟨a', cap', rfl⟩ := hown'.form
      have HO := Aside.mk hown'
      have HB := Aside.mk (hb.out.trans (below_of_grown hgrow (Nat.le_of_lt hbb.out) (by simp [Value.ownBlock])))
      clear hown' hgrow hat
      go_wp2
      go_ret2
      exact ⟨a', cap', rfl, HO.out, HB.out⟩
    | succ k =>
      obtain ⟨z, hz⟩ := hp.2.2.1 k (by omega)
      have hc : wr.cell? ⟨w.heap.size, k, none⟩ = some (.int .u8 z) := (cell_blk hp.1).trans hz
      have hf : wr.frozen? ⟨w.heap.size, k, none⟩ = false := frozen_blk hp.1
      have hX3 : X / 10 ^ (wd - (k + 1)) < 18446744073709551616 := Nat.lt_of_le_of_lt (Nat.div_le_self _ _) hX2
      have HP := Aside.mk hp
      clear hp hz
      have e : (((k + 1 : Nat) : Int) - 1) = (k : Int) := by omega
      rw [e]
      generalize hq : X / 10 ^ (wd - (k + 1)) = q at *
      have HQ := Aside.mk hq
      clear hq
      go_wp2
      go_roundw
      case rel =>
        refine ⟨k, by omega, ?_, rfl, ⟨hb.out.setCell (Nat.le_refl _) _⟩, ⟨_, _, heap_setCell_at HP.out.1 _, by simp [HP.out.2.1], ?_, ?_⟩⟩
        · have : wd - k = wd - (k + 1) + 1 := by omega
          rw [this, Nat.pow_succ, ← Nat.div_div_eq_div_mul, HQ.out]
          go_num
        · intro j hj
          rw [Array.getElem?_setIfInBounds]
          by_cases hjk : k = j
          · rw [if_pos hjk, if_pos (by rw [HP.out.2.1]; omega)]
            exact ⟨_, rfl⟩
          · rw [if_neg hjk]; exact HP.out.2.2.1 j hj
        · intro j h1 h2
          rw [Array.getElem?_setIfInBounds]
          by_cases hjk : k = j
          · subst hjk
            rw [if_pos rfl, if_pos (by rw [HP.out.2.1]; omega)]
            have e1 : wd - 1 - k = wd - (k + 1) := by omega
            simp only [dg, e1, HQ.out]
            go_num
          · rw [if_neg hjk]; exact HP.out.2.2.2 j (by omega) h2
      case measure => simp [intOf]
end Go.Proofs.YtmhjjhaipcgbiaaGreat


namespace Go.Proofs.YtmhjjhaipcgbiaaGreat
open Go.RowKit
set_option linter.unusedVariables false
set_option linter.unusedSimpArgs false
set_option maxRecDepth 100000
set_option maxHeartbeats 2000000
theorem one_digs (X w : Nat) : ∀ u ∈ digs X w, u.oneCell' = true := by
  intro x hx
  simp only [digs, List.mem_map] at hx
  obtain ⟨j, _, rfl⟩ := hx
  rfl
def RowP (w : World) (e : Ending) (w' : World) : Prop := ∃ a n c xs, e = .returned (.slice a n c) ∧ Own w' w.heap.size 5 1 (.slice a n c) n xs ∧ n ≤ 40 ∧ Below w.heap.size w w'
theorem pad3 (y m d : Nat) (hy : y < 10000) (hm : m < 100) (hd : d < 100) (g : Nat) (T : TypeId) (w : World) (hr : w.heap[g]? = some (.cells #[.int .i64 (y : Int), .int .i64 (m : Int), .int .i64 (d : Int)] T (0, 0))) : Calls Tryz.prog 182 #[.string ⟨#[32, 45, 45]⟩, .slice (some ⟨g, 0, none⟩) 3 3] w (RowP w) := by
  have HR := Aside.mk hr
  clear hr
  go_enter Tryz.func182, Tryz.ntmps182
  go_wp2
  go_loopw [5, 13] (fun vo ii wr => ∃ i : Nat, i ≤ 3 ∧ ii = .int .i64 (i : Int) ∧ Aside (Below w.heap.size w wr) ∧ Aside (∃ k xs, k ≤ 5 * i ∧ Own wr w.heap.size 5 1 vo k xs)) (fun _ ii _ => 3 - (intOf ii).toNat)
  case atStart => exact ⟨0, by omega, rfl, ⟨Below.refl _ _⟩, ⟨0, [], by omega, Own.nil _ _ _ _⟩⟩
  case round =>
    obtain ⟨i, hi, rfl, hb, hp⟩ := hrel
    obtain ⟨k, xs, hk, hp⟩ := hp.out
    obtain ⟨a1, c1, rfl⟩ := hp.form
    have HP := Aside.mk hp
    clear hp
    have hg : wr.heap[g]? = some (.cells #[.int .i64 (y : Int), .int .i64 (m : Int), .int .i64 (d : Int)] T (0, 0)) := (hb.out.block g (lt_of_blk HR.out)).trans HR.out
    have hcs : i = 0 ∨ i = 1 ∨ i = 2 ∨ i = 3 := by omega
    rcases hcs with rfl | rfl | rfl | rfl
    · have hc : wr.cell? ⟨g, 0, none⟩ = some (.int .i64 (y : Int)) := (cell_blk hg).trans rfl
      have hbw := Aside.mk (World.block_lt_of_cell? _ _ hc)
      clear hg
      go_wp2_with (first | (go_at_call 183; refine (pad_ok y 4 (by omega) (by omega) (by omega) (by omega) _).mono ?_; rintro e w6 ⟨da, dc, rfl, hd1, hd2⟩; have HD := Aside.mk (And.intro hd1 hd2); clear hd1 hd2) | (at_builtin; refine wpList_app _ rfl _ _ 43 43 rfl w.heap.size 5 (.int .u8 0) 1 1 Tryz.underlying43 u8info rfl _ _ _ rfl (HP.out.below HD.out.2) _ 4 (digs y 4) rfl (HD.out.1.rd.src Tryz.underlying43 (one_digs _ _)) (by unfold maxLen; omega) (by omega) (by have := hb.out.size; have := HD.out.2.size; omega) ?_))
      intro v' w7 hown' hgrow _ hat
      obtain ⟨a7, c7, rfl⟩ := hown'.form
      have HP7 := Aside.mk hown'
      have hb7 := Aside.mk ((hb.out.trans (HD.out.2.mono hb.out.size)).trans (below_of_grown hgrow (by have := hb.out.size; have := HD.out.2.size; omega) (fun k e => (HP.out.lt k e).1)))
      clear hown' hgrow hat
      go_wp2
      go_roundw
      case rel => exact ⟨1, by omega, by go_num, hb7, ⟨_, _, by omega, HP7.out⟩⟩
      case measure => simp [intOf]
    · have hc : wr.cell? ⟨g, 1, none⟩ = some (.int .i64 (m : Int)) := (cell_blk hg).trans rfl
      have hbw := Aside.mk (World.block_lt_of_cell? _ _ hc)
      clear hg
      go_wp2_with (at_builtin; refine wpList_app _ rfl _ _ 43 43 rfl w.heap.size 5 (.int .u8 0) 1 1 Tryz.underlying43 u8info rfl _ _ _ rfl (HP.out.alloc _) _ 1 [.int .u8 45] rfl (src_one Tryz.underlying43 _ _ _ rfl rfl) (by unfold maxLen; omega) (by omega) (by have := hb.out.size; simp; omega) ?_)
      intro v' w5 hown' hgrow _ hat
      obtain ⟨a5, c5, rfl⟩ := hown'.form
      have HP5 := Aside.mk hown'
      have hb5 := Aside.mk ((hb.out.alloc hb.out.size (.cells #[.int .u8 45] 5)).trans (below_of_grown hgrow (by have := hb.out.size; simp; omega) (fun k e => (HP.out.lt k e).1)))
      clear hown' hgrow hat
      go_wp2_with (first | (go_at_call 183; refine (pad_ok m 2 (by omega) (by omega) (by omega) (by omega) _).mono ?_; rintro e w6 ⟨da, dc, rfl, hd1, hd2⟩; have HD := Aside.mk (And.intro hd1 hd2); clear hd1 hd2) | (at_builtin; refine wpList_app _ rfl _ _ 43 43 rfl w.heap.size 5 (.int .u8 0) 1 1 Tryz.underlying43 u8info rfl _ _ _ rfl (HP5.out.below HD.out.2) _ 2 (digs m 2) rfl (HD.out.1.rd.src Tryz.underlying43 (one_digs _ _)) (by unfold maxLen; omega) (by omega) (by have := hb5.out.size; have := HD.out.2.size; omega) ?_))
      intro v' w7 hown' hgrow _ hat
      obtain ⟨a7, c7, rfl⟩ := hown'.form
      have HP7 := Aside.mk hown'
      have hb7 := Aside.mk ((hb5.out.trans (HD.out.2.mono hb5.out.size)).trans (below_of_grown hgrow (by have := hb5.out.size; have := HD.out.2.size; omega) (fun k e => (HP5.out.lt k e).1)))
      clear hown' hgrow hat
      go_wp2
      go_roundw
      case rel => exact ⟨2, by omega, by go_num, hb7, ⟨_, _, by omega, HP7.out⟩⟩
      case measure => simp [intOf]
    · have hc : wr.cell? ⟨g, 2, none⟩ = some (.int .i64 (d : Int)) := (cell_blk hg).trans rfl
      have hbw := Aside.mk (World.block_lt_of_cell? _ _ hc)
      clear hg
      go_wp2_with (at_builtin; refine wpList_app _ rfl _ _ 43 43 rfl w.heap.size 5 (.int .u8 0) 1 1 Tryz.underlying43 u8info rfl _ _ _ rfl (HP.out.alloc _) _ 1 [.int .u8 45] rfl (src_one Tryz.underlying43 _ _ _ rfl rfl) (by unfold maxLen; omega) (by omega) (by have := hb.out.size; simp; omega) ?_)
      intro v' w5 hown' hgrow _ hat
      obtain ⟨a5, c5, rfl⟩ := hown'.form
      have HP5 := Aside.mk hown'
      have hb5 := Aside.mk ((hb.out.alloc hb.out.size (.cells #[.int .u8 45] 5)).trans (below_of_grown hgrow (by have := hb.out.size; simp; omega) (fun k e => (HP.out.lt k e).1)))
      clear hown' hgrow hat
      go_wp2_with (first | (go_at_call 183; refine (pad_ok d 2 (by omega) (by omega) (by omega) (by omega) _).mono ?_; rintro e w6 ⟨da, dc, rfl, hd1, hd2⟩; have HD := Aside.mk (And.intro hd1 hd2); clear hd1 hd2) | (at_builtin; refine wpList_app _ rfl _ _ 43 43 rfl w.heap.size 5 (.int .u8 0) 1 1 Tryz.underlying43 u8info rfl _ _ _ rfl (HP5.out.below HD.out.2) _ 2 (digs d 2) rfl (HD.out.1.rd.src Tryz.underlying43 (one_digs _ _)) (by unfold maxLen; omega) (by omega) (by have := hb5.out.size; have := HD.out.2.size; omega) ?_))
      intro v' w7 hown' hgrow _ hat
      obtain ⟨a7, c7, rfl⟩ := hown'.form
      have HP7 := Aside.mk hown'
      have hb7 := Aside.mk ((hb5.out.trans (HD.out.2.mono hb5.out.size)).trans (below_of_grown hgrow (by have := hb5.out.size; have := HD.out.2.size; omega) (fun k e => (HP5.out.lt k e).1)))
      clear hown' hgrow hat
      go_wp2
      go_roundw
      case rel => exact ⟨3, by omega, by go_num, hb7, ⟨_, _, by omega, HP7.out⟩⟩
      case measure => simp [intOf]
    · go_wp2
      go_ret
      exact ⟨a1, k, c1, xs, rfl, HP.out, by omega, hb.out⟩
theorem pad6 (y m d p q r : Nat) (hy : y < 10000) (hm : m < 100) (hd : d < 100) (hp : p < 100) (hq : q < 100) (hr : r < 100) (g : Nat) (T : TypeId) (w : World) (hr : w.heap[g]? = some (.cells #[.int .i64 (y : Int), .int .i64 (m : Int), .int .i64 (d : Int), .int .i64 (p : Int), .int .i64 (q : Int), .int .i64 (r : Int)] T (0, 0))) : Calls Tryz.prog 182 #[.string ⟨#[32, 45, 45, 84, 58, 58]⟩, .slice (some ⟨g, 0, none⟩) 6 6] w (RowP w) := by
  have HR := Aside.mk hr
  clear hr
  go_enter Tryz.func182, Tryz.ntmps182
  go_wp2
  go_loopw [5, 13] (fun vo ii wr => ∃ i : Nat, i ≤ 6 ∧ ii = .int .i64 (i : Int) ∧ Aside (Below w.heap.size w wr) ∧ Aside (∃ k xs, k ≤ 5 * i ∧ Own wr w.heap.size 5 1 vo k xs)) (fun _ ii _ => 6 - (intOf ii).toNat)
  case atStart => exact ⟨0, by omega, rfl, ⟨Below.refl _ _⟩, ⟨0, [], by omega, Own.nil _ _ _ _⟩⟩
  case round =>
    obtain ⟨i, hi, rfl, hb, hp⟩ := hrel
    obtain ⟨k, xs, hk, hp⟩ := hp.out
    obtain ⟨a1, c1, rfl⟩ := hp.form
    have HP := Aside.mk hp
    clear hp
    have hg : wr.heap[g]? = some (.cells #[.int .i64 (y : Int), .int .i64 (m : Int), .int .i64 (d : Int), .int .i64 (p : Int), .int .i64 (q : Int), .int .i64 (r : Int)] T (0, 0)) := (hb.out.block g (lt_of_blk HR.out)).trans HR.out
    have hcs : i = 0 ∨ i = 1 ∨ i = 2 ∨ i = 3 ∨ i = 4 ∨ i = 5 ∨ i = 6 := by omega
    rcases hcs with rfl | rfl | rfl | rfl | rfl | rfl | rfl
    · have hc : wr.cell? ⟨g, 0, none⟩ = some (.int .i64 (y : Int)) := (cell_blk hg).trans rfl
      have hbw := Aside.mk (World.block_lt_of_cell? _ _ hc)
      clear hg
      go_wp2_with (first | (go_at_call 183; refine (pad_ok y 4 (by omega) (by omega) (by omega) (by omega) _).mono ?_; rintro e w6 ⟨da, dc, rfl, hd1, hd2⟩; have HD := Aside.mk (And.intro hd1 hd2); clear hd1 hd2) | (at_builtin; refine wpList_app _ rfl _ _ 43 43 rfl w.heap.size 5 (.int .u8 0) 1 1 Tryz.underlying43 u8info rfl _ _ _ rfl (HP.out.below HD.out.2) _ 4 (digs y 4) rfl (HD.out.1.rd.src Tryz.underlying43 (one_digs _ _)) (by unfold maxLen; omega) (by omega) (by have := hb.out.size; have := HD.out.2.size; omega) ?_))
      intro v' w7 hown' hgrow _ hat
      obtain ⟨a7, c7, rfl⟩ := hown'.form
      have HP7 := Aside.mk hown'
      have hb7 := Aside.mk ((hb.out.trans (HD.out.2.mono hb.out.size)).trans (below_of_grown hgrow (by have := hb.out.size; have := HD.out.2.size; omega) (fun k e => (HP.out.lt k e).1)))
      clear hown' hgrow hat
      go_wp2
      go_roundw
      case rel => exact ⟨1, by omega, by go_num, hb7, ⟨_, _, by omega, HP7.out⟩⟩
      case measure => simp [intOf]
    · have hc : wr.cell? ⟨g, 1, none⟩ = some (.int .i64 (m : Int)) := (cell_blk hg).trans rfl
      have hbw := Aside.mk (World.block_lt_of_cell? _ _ hc)
      clear hg
      go_wp2_with (at_builtin; refine wpList_app _ rfl _ _ 43 43 rfl w.heap.size 5 (.int .u8 0) 1 1 Tryz.underlying43 u8info rfl _ _ _ rfl (HP.out.alloc _) _ 1 [.int .u8 45] rfl (src_one Tryz.underlying43 _ _ _ rfl rfl) (by unfold maxLen; omega) (by omega) (by have := hb.out.size; simp; omega) ?_)
      intro v' w5 hown' hgrow _ hat
      obtain ⟨a5, c5, rfl⟩ := hown'.form
      have HP5 := Aside.mk hown'
      have hb5 := Aside.mk ((hb.out.alloc hb.out.size (.cells #[.int .u8 45] 5)).trans (below_of_grown hgrow (by have := hb.out.size; simp; omega) (fun k e => (HP.out.lt k e).1)))
      clear hown' hgrow hat
      go_wp2_with (first | (go_at_call 183; refine (pad_ok m 2 (by omega) (by omega) (by omega) (by omega) _).mono ?_; rintro e w6 ⟨da, dc, rfl, hd1, hd2⟩; have HD := Aside.mk (And.intro hd1 hd2); clear hd1 hd2) | (at_builtin; refine wpList_app _ rfl _ _ 43 43 rfl w.heap.size 5 (.int .u8 0) 1 1 Tryz.underlying43 u8info rfl _ _ _ rfl (HP5.out.below HD.out.2) _ 2 (digs m 2) rfl (HD.out.1.rd.src Tryz.underlying43 (one_digs _ _)) (by unfold maxLen; omega) (by omega) (by have := hb5.out.size; have := HD.out.2.size; omega) ?_))
      intro v' w7 hown' hgrow _ hat
      obtain ⟨a7, c7, rfl⟩ := hown'.form
      have HP7 := Aside.mk hown'
      have hb7 := Aside.mk ((hb5.out.trans (HD.out.2.mono hb5.out.size)).trans (below_of_grown hgrow (by have := hb5.out.size; have := HD.out.2.size; omega) (fun k e => (HP5.out.lt k e).1)))
      clear hown' hgrow hat
      go_wp2
      go_roundw
      case rel => exact ⟨2, by omega, by go_num, hb7, ⟨_, _, by omega, HP7.out⟩⟩
      case measure => simp [intOf]
    · have hc : wr.cell? ⟨g, 2, none⟩ = some (.int .i64 (d : Int)) := (cell_blk hg).trans rfl
      have hbw := Aside.mk (World.block_lt_of_cell? _ _ hc)
      clear hg
      go_wp2_with (at_builtin; refine wpList_app _ rfl _ _ 43 43 rfl w.heap.size 5 (.int .u8 0) 1 1 Tryz.underlying43 u8info rfl _ _ _ rfl (HP.out.alloc _) _ 1 [.int .u8 45] rfl (src_one Tryz.underlying43 _ _ _ rfl rfl) (by unfold maxLen; omega) (by omega) (by have := hb.out.size; simp; omega) ?_)
      intro v' w5 hown' hgrow _ hat
      obtain ⟨a5, c5, rfl⟩ := hown'.form
      have HP5 := Aside.mk hown'
      have hb5 := Aside.mk ((hb.out.alloc hb.out.size (.cells #[.int .u8 45] 5)).trans (below_of_grown hgrow (by have := hb.out.size; simp; omega) (fun k e => (HP.out.lt k e).1)))
      clear hown' hgrow hat
      go_wp2_with (first | (go_at_call 183; refine (pad_ok d 2 (by omega) (by omega) (by omega) (by omega) _).mono ?_; rintro e w6 ⟨da, dc, rfl, hd1, hd2⟩; have HD := Aside.mk (And.intro hd1 hd2); clear hd1 hd2) | (at_builtin; refine wpList_app _ rfl _ _ 43 43 rfl w.heap.size 5 (.int .u8 0) 1 1 Tryz.underlying43 u8info rfl _ _ _ rfl (HP5.out.below HD.out.2) _ 2 (digs d 2) rfl (HD.out.1.rd.src Tryz.underlying43 (one_digs _ _)) (by unfold maxLen; omega) (by omega) (by have := hb5.out.size; have := HD.out.2.size; omega) ?_))
      intro v' w7 hown' hgrow _ hat
      obtain ⟨a7, c7, rfl⟩ := hown'.form
      have HP7 := Aside.mk hown'
      have hb7 := Aside.mk ((hb5.out.trans (HD.out.2.mono hb5.out.size)).trans (below_of_grown hgrow (by have := hb5.out.size; have := HD.out.2.size; omega) (fun k e => (HP5.out.lt k e).1)))
      clear hown' hgrow hat
      go_wp2
      go_roundw
      case rel => exact ⟨3, by omega, by go_num, hb7, ⟨_, _, by omega, HP7.out⟩⟩
      case measure => simp [intOf]
    · have hc : wr.cell? ⟨g, 3, none⟩ = some (.int .i64 (p : Int)) := (cell_blk hg).trans rfl
      have hbw := Aside.mk (World.block_lt_of_cell? _ _ hc)
      clear hg
      go_wp2_with (at_builtin; refine wpList_app _ rfl _ _ 43 43 rfl w.heap.size 5 (.int .u8 0) 1 1 Tryz.underlying43 u8info rfl _ _ _ rfl (HP.out.alloc _) _ 1 [.int .u8 84] rfl (src_one Tryz.underlying43 _ _ _ rfl rfl) (by unfold maxLen; omega) (by omega) (by have := hb.out.size; simp; omega) ?_)
      intro v' w5 hown' hgrow _ hat
      obtain ⟨a5, c5, rfl⟩ := hown'.form
      have HP5 := Aside.mk hown'
      have hb5 := Aside.mk ((hb.out.alloc hb.out.size (.cells #[.int .u8 84] 5)).trans (below_of_grown hgrow (by have := hb.out.size; simp; omega) (fun k e => (HP.out.lt k e).1)))
      clear hown' hgrow hat
      go_wp2_with (first | (go_at_call 183; refine (pad_ok p 2 (by omega) (by omega) (by omega) (by omega) _).mono ?_; rintro e w6 ⟨da, dc, rfl, hd1, hd2⟩; have HD := Aside.mk (And.intro hd1 hd2); clear hd1 hd2) | (at_builtin; refine wpList_app _ rfl _ _ 43 43 rfl w.heap.size 5 (.int .u8 0) 1 1 Tryz.underlying43 u8info rfl _ _ _ rfl (HP5.out.below HD.out.2) _ 2 (digs p 2) rfl (HD.out.1.rd.src Tryz.underlying43 (one_digs _ _)) (by unfold maxLen; omega) (by omega) (by have := hb5.out.size; have := HD.out.2.size; omega) ?_))
      intro v' w7 hown' hgrow _ hat
      obtain ⟨a7, c7, rfl⟩ := hown'.form
      have HP7 := Aside.mk hown'
      have hb7 := Aside.mk ((hb5.out.trans (HD.out.2.mono hb5.out.size)).trans (below_of_grown hgrow (by have := hb5.out.size; have := HD.out.2.size; omega) (fun k e => (HP5.out.lt k e).1)))
      clear hown' hgrow hat
      go_wp2
      go_roundw
      case rel => exact ⟨4, by omega, by go_num, hb7, ⟨_, _, by omega, HP7.out⟩⟩
      case measure => simp [intOf]
    · have hc : wr.cell? ⟨g, 4, none⟩ = some (.int .i64 (q : Int)) := (cell_blk hg).trans rfl
      have hbw := Aside.mk (World.block_lt_of_cell? _ _ hc)
      clear hg
      go_wp2_with (at_builtin; refine wpList_app _ rfl _ _ 43 43 rfl w.heap.size 5 (.int .u8 0) 1 1 Tryz.underlying43 u8info rfl _ _ _ rfl (HP.out.alloc _) _ 1 [.int .u8 58] rfl (src_one Tryz.underlying43 _ _ _ rfl rfl) (by unfold maxLen; omega) (by omega) (by have := hb.out.size; simp; omega) ?_)
      intro v' w5 hown' hgrow _ hat
      obtain ⟨a5, c5, rfl⟩ := hown'.form
      have HP5 := Aside.mk hown'
      have hb5 := Aside.mk ((hb.out.alloc hb.out.size (.cells #[.int .u8 58] 5)).trans (below_of_grown hgrow (by have := hb.out.size; simp; omega) (fun k e => (HP.out.lt k e).1)))
      clear hown' hgrow hat
      go_wp2_with (first | (go_at_call 183; refine (pad_ok q 2 (by omega) (by omega) (by omega) (by omega) _).mono ?_; rintro e w6 ⟨da, dc, rfl, hd1, hd2⟩; have HD := Aside.mk (And.intro hd1 hd2); clear hd1 hd2) | (at_builtin; refine wpList_app _ rfl _ _ 43 43 rfl w.heap.size 5 (.int .u8 0) 1 1 Tryz.underlying43 u8info rfl _ _ _ rfl (HP5.out.below HD.out.2) _ 2 (digs q 2) rfl (HD.out.1.rd.src Tryz.underlying43 (one_digs _ _)) (by unfold maxLen; omega) (by omega) (by have := hb5.out.size; have := HD.out.2.size; omega) ?_))
      intro v' w7 hown' hgrow _ hat
      obtain ⟨a7, c7, rfl⟩ := hown'.form
      have HP7 := Aside.mk hown'
      have hb7 := Aside.mk ((hb5.out.trans (HD.out.2.mono hb5.out.size)).trans (below_of_grown hgrow (by have := hb5.out.size; have := HD.out.2.size; omega) (fun k e => (HP5.out.lt k e).1)))
      clear hown' hgrow hat
      go_wp2
      go_roundw
      case rel => exact ⟨5, by omega, by go_num, hb7, ⟨_, _, by omega, HP7.out⟩⟩
      case measure => simp [intOf]
    · have hc : wr.cell? ⟨g, 5, none⟩ = some (.int .i64 (r : Int)) := (cell_blk hg).trans rfl
      have hbw := Aside.mk (World.block_lt_of_cell? _ _ hc)
      clear hg
      go_wp2_with (at_builtin; refine wpList_app _ rfl _ _ 43 43 rfl w.heap.size 5 (.int .u8 0) 1 1 Tryz.underlying43 u8info rfl _ _ _ rfl (HP.out.alloc _) _ 1 [.int .u8 58] rfl (src_one Tryz.underlying43 _ _ _ rfl rfl) (by unfold maxLen; omega) (by omega) (by have := hb.out.size; simp; omega) ?_)
      intro v' w5 hown' hgrow _ hat
      obtain ⟨a5, c5, rfl⟩ := hown'.form
      have HP5 := Aside.mk hown'
      have hb5 := Aside.mk ((hb.out.alloc hb.out.size (.cells #[.int .u8 58] 5)).trans (below_of_grown hgrow (by have := hb.out.size; simp; omega) (fun k e => (HP.out.lt k e).1)))
      clear hown' hgrow hat
      go_wp2_with (first | (go_at_call 183; refine (pad_ok r 2 (by omega) (by omega) (by omega) (by omega) _).mono ?_; rintro e w6 ⟨da, dc, rfl, hd1, hd2⟩; have HD := Aside.mk (And.intro hd1 hd2); clear hd1 hd2) | (at_builtin; refine wpList_app _ rfl _ _ 43 43 rfl w.heap.size 5 (.int .u8 0) 1 1 Tryz.underlying43 u8info rfl _ _ _ rfl (HP5.out.below HD.out.2) _ 2 (digs r 2) rfl (HD.out.1.rd.src Tryz.underlying43 (one_digs _ _)) (by unfold maxLen; omega) (by omega) (by have := hb5.out.size; have := HD.out.2.size; omega) ?_))
      intro v' w7 hown' hgrow _ hat
      obtain ⟨a7, c7, rfl⟩ := hown'.form
      have HP7 := Aside.mk hown'
      have hb7 := Aside.mk ((hb5.out.trans (HD.out.2.mono hb5.out.size)).trans (below_of_grown hgrow (by have := hb5.out.size; have := HD.out.2.size; omega) (fun k e => (HP5.out.lt k e).1)))
      clear hown' hgrow hat
      go_wp2
      go_roundw
      case rel => exact ⟨6, by omega, by go_num, hb7, ⟨_, _, by omega, HP7.out⟩⟩
      case measure => simp [intOf]
    · go_wp2
      go_ret
      exact ⟨a1, k, c1, xs, rfl, HP.out, by omega, hb.out⟩
end Go.Proofs.YtmhjjhaipcgbiaaGreat


namespace Go.Proofs.YtmhjjhaipcgbiaaGreat
open Go.RowKit
set_option linter.unusedVariables false
set_option linter.unusedSimpArgs false
set_option maxRecDepth 100000
set_option maxHeartbeats 400000
theorem date_at (n : Int) (h0 : -719528 ≤ n) (h1 : n ≤ 2932896) (w : World) : Calls Tryz.prog 181 #[.int .i64 n] w (DateP (n + 719528) w) := by
  have := date_any (n + 719528) (by omega) (by omega) w
  rwa [show n + 719528 - 719528 = n by omega] at this
def DateB (w : World) (e : Ending) (w' : World) : Prop := ∃ y m d : Nat, e = .returned (.tuple #[.int .i64 y, .int .i64 m, .int .i64 d]) ∧ y < 10000 ∧ m < 100 ∧ d < 100 ∧ Below w.heap.size w w'
theorem date_b (n : Int) (h0 : -719528 ≤ n) (h1 : n ≤ 2932896) (w : World) : Calls Tryz.prog 181 #[.int .i64 n] w (DateB w) := by
  refine (date_at n h0 h1 w).mono ?_
  rintro e w' ⟨y, m, d, rfl, ⟨hy0, hy1, j, rfl, hj, hd1, hd2, _⟩, hb⟩
  have := mlens_pos y j hj
  refine ⟨y.toNat, j + 1, d.toNat, ?_, by omega, by omega, by omega, hb⟩
  rw [Int.toNat_of_nonneg hy0, Int.toNat_of_nonneg (by omega)]
  rfl
def PrintP (ok : Bool) (err : Int) (w : World) (e : Ending) (w' : World) : Prop := ∃ a n c xs, e = .returned (.tuple #[.slice a n c, .int .i64 (if ok then 0 else err)]) ∧ Own w' w.heap.size 5 1 (.slice a n c) n xs ∧ n ≤ 60 ∧ Below w.heap.size w w'
theorem printDay_any (b : Int) (h0 : 0 ≤ b) (h1 : b ≤ 18446744073709551615) (w : World) : Calls Tryz.prog 139 #[.int .u64 b] w (PrintP (dayOK b) 131 w) := by
  by_cases h1 : -719528 ≤ wrap64 b
  · have c1 : (decide (wrap64 b < -719528)) = false := by simp; omega
    by_cases h2 : wrap64 b ≤ 2932896
    · have hd : Aside (dayOK b = true) := ⟨by unfold dayOK asInt; simp [h1, h2]⟩
      have c2 : (decide (2932896 < wrap64 b)) = false := by simp; omega
      have H12 := Aside.mk (And.intro h1 h2)
      clear h1 h2
      go_enter Tryz.func139, Tryz.ntmps139
      go_wp2_with (first | (go_at_call 181; refine (date_b (wrap64 b) H12.out.1 H12.out.2 _).mono ?_; rintro e w1 ⟨y, m, d, rfl, hy, hm, hdd, hb1⟩; have B1 := Aside.mk hb1; clear hb1) | (go_at_call 182; refine (pad3 y m d hy hm hdd _ _ _ (heap_alloc_new w1 _)).mono ?_; rintro e w2 ⟨a2, n2, c2', xs, rfl, ho2, hn2, hb2⟩; have O2 := Aside.mk ho2; have B2 := Aside.mk hb2; clear ho2 hb2))
      go_ret2
      have hs := B1.out.size
      refine ⟨a2, n2, c2', xs, by rw [hd.out]; rfl, O2.out.mono (by simp; omega), by omega, (B1.out.alloc hs _).trans (B2.out.mono (by simp; omega))⟩
    · have hd : Aside (dayOK b = false) := ⟨by unfold dayOK asInt; simp [h2]⟩
      have c2 : (decide (2932896 < wrap64 b)) = true := by simp; omega
      clear h1 h2
      go_enter Tryz.func139, Tryz.ntmps139
      go_wp2
      go_ret2
      exact ⟨none, 0, 0, [], by rw [hd.out]; rfl, Own.nil _ _ _ _, by omega, Below.refl _ _⟩
  · have c1 : (decide (wrap64 b < -719528)) = true := by simp; omega
    have hd : Aside (dayOK b = false) := ⟨by unfold dayOK asInt; simp [h1]⟩
    clear h1
    go_enter Tryz.func139, Tryz.ntmps139
    go_wp2
    go_ret2
    exact ⟨none, 0, 0, [], by rw [hd.out]; rfl, Own.nil _ _ _ _, by omega, Below.refl _ _⟩
end Go.Proofs.YtmhjjhaipcgbiaaGreat


namespace Go.Proofs.YtmhjjhaipcgbiaaGreat
open Go.RowKit
set_option linter.unusedVariables false
set_option linter.unusedSimpArgs false
set_option maxRecDepth 100000
set_option maxHeartbeats 400000
theorem quo_neg {n : Int} (h0 : -62167219200000000 ≤ n) (h1 : n < 253402300800000000) (h : Int.tmod n 86400000000 < 0) : wrap64 (wrap64 (n.tdiv 86400000000) - 1) = n / 86400000000 ∧ wrap64 (n.tmod 86400000000 + 86400000000) = n % 86400000000 := by
  rw [Int.tmod_eq_emod] at h
  rw [Int.tdiv_eq_ediv, Int.tmod_eq_emod]
  unfold wrap64
  split at h
  · omega
  · rename_i h2
    rw [if_neg h2, if_neg h2]
    simp only [Int.sign_eq_one_of_pos (show (0 : Int) < 86400000000 by decide)] at h ⊢
    have hn : ((Int.natAbs (86400000000 : Int) : Nat) : Int) = 86400000000 := rfl
    rw [hn] at h ⊢
    constructor <;> omega
theorem quo_pos {n : Int} (h0 : -62167219200000000 ≤ n) (h1 : n < 253402300800000000) (h : ¬ Int.tmod n 86400000000 < 0) : wrap64 (n.tdiv 86400000000) = n / 86400000000 ∧ n.tmod 86400000000 = n % 86400000000 := by
  rw [Int.tmod_eq_emod] at h
  rw [Int.tdiv_eq_ediv, Int.tmod_eq_emod]
  unfold wrap64
  split at h
  · rename_i h2
    rw [if_pos h2, if_pos h2]
    constructor <;> omega
  · rename_i h2
    have hn : ((Int.natAbs (86400000000 : Int) : Nat) : Int) = 86400000000 := rfl
    rw [hn] at h
    omega
theorem printMoment_any (b : Int) (h0 : 0 ≤ b) (h1 : b ≤ 18446744073709551615) (w : World) : Calls Tryz.prog 140 #[.int .u64 b] w (PrintP (momOK b) 131 w) := by
  by_cases h1 : -62167219200000000 ≤ wrap64 b
  · have c1 : (decide (wrap64 b < -62167219200000000)) = false := by simp; omega
    by_cases h2 : wrap64 b < 253402300800000000
    · have hd : Aside (momOK b = true) := ⟨by unfold momOK asInt; simp [h1, h2]⟩
      have c2 : (decide (253402300800000000 ≤ wrap64 b)) = false := by simp; omega
      have H12 := Aside.mk (And.intro h1 h2)
      clear h1 h2
      have hM : ∃ D : Int, ∃ M : Nat, D = wrap64 b / 86400000000 ∧ (M : Int) = wrap64 b % 86400000000 ∧ -719528 ≤ D ∧ D ≤ 2932896 ∧ M < 86400000000 := by
        refine ⟨_, (wrap64 b % 86400000000).toNat, rfl, ?_, ?_, ?_, ?_⟩ <;> have := H12.out <;> omega
      obtain ⟨D, M, hD, hM, hD0, hD1, hM1⟩ := hM
      have HDM := Aside.mk (And.intro hD hM)
      clear hD hM
      go_enter Tryz.func140, Tryz.ntmps140
      go_upto_if 27 with fail
      go_cut [5, 6] from 26 to 31 (fun s5 s6 wx => s5 = .int .i64 D ∧ s6 = .int .i64 (M : Int) ∧ wx = w)
      case first =>
        by_cases hm : Int.tmod (wrap64 b) 86400000000 < 0
        · have hq := Aside.mk (quo_neg H12.out.1 H12.out.2 hm)
          go_wp2
          go_meet
          exact ⟨by rw [HDM.out.1, ← hq.out.1], by rw [HDM.out.2, ← hq.out.2], rfl⟩
        · have hq := Aside.mk (quo_pos H12.out.1 H12.out.2 hm)
          go_wp2
          go_meet
          exact ⟨by rw [HDM.out.1, ← hq.out.1], by rw [HDM.out.2, ← hq.out.2], rfl⟩
      case rest =>
        obtain ⟨rfl, rfl, rfl⟩ := hcut
        go_wp2_with (go_at_call 181; refine (date_b D hD0 hD1 _).mono ?_; rintro e w1 ⟨y, m, d, rfl, hy, hm, hdd, hb1⟩; have B1 := Aside.mk hb1; clear hb1)
        refine (pad6 y m d (M / 1000000 / 3600) (M / 1000000 / 60 % 60) (M / 1000000 % 60) hy hm hdd (by omega) (by omega) (by omega) _ 3 _ ?hh).mono ?_
        case hh =>
          rw [heap_alloc_new]; simp
        rintro e w2 ⟨a2, n2, c2', xs, rfl, ho2, hn2, hb2⟩
        have hs1 := B1.out.size
        have O2 := Aside.mk (ho2.mono (show wc.heap.size ≤ _ by simp; omega))
        have B2 := Aside.mk ((B1.out.alloc hs1 _).trans (hb2.mono (by simp; omega)))
        clear ho2 hb2
        by_cases hz : M % 1000000 = 0
        · have hz1 : ¬ (0 < M % 1000000) := by omega
          clear hz
          go_wp2_with (fail)
          go_ret2
          exact ⟨a2, n2, c2', xs, by rw [hd.out]; rfl, O2.out, by omega, B2.out⟩
        · have hz1 : (0 < M % 1000000) := by omega
          generalize hX : M % 1000000 = X at *
          have hX6 : X < 1000000 := by omega
          have hcast : ((M : Int) % 1000000) = (X : Int) := by omega
          have HX := Aside.mk hX
          clear hz hX
          go_wp2_with (go_at_call 183; simp only [hcast]; refine (pad_ok X 6 (by omega) (by omega) (by omega) (by omega) _).mono ?_; rintro e w3 ⟨da, dc, rfl, hd1, hd2⟩)
          obtain ⟨g, off, cap, hda, hg1, hg2, hcap, hcap2, hcells, hfz⟩ := hd1.some_ (by omega)
          simp only [Value.slice.injEq, true_and] at hda
          obtain ⟨rfl, rfl⟩ := hda
          have hs2 := B2.out.size
          have L2 := Aside.mk O2.out.lt
          have O3 := Aside.mk (O2.out.below hd2)
          have B3 := Aside.mk (B2.out.trans (hd2.mono hs2))
          have D3 := Aside.mk hd1
          have HCL := Aside.mk hcells
          have HS3 := Aside.mk hd2.size
          clear hd1 hd2 hfz hcells O2 B2
          go_loop [12] (fun vd => ∃ n j : Nat, vd = .slice (some ⟨g, off, none⟩) n dc ∧ j < n ∧ n ≤ 6 ∧ X / 10 ^ (5 - j) % 10 ≠ 0) (fun vd => (match vd with | .slice _ n _ => n | _ => 0))
          case atStart =>
            have hj : ∃ j, j < 6 ∧ X / 10 ^ (5 - j) % 10 ≠ 0 := by
              apply Classical.byContradiction
              intro hn
              have hn' : ∀ j, j < 6 → X / 10 ^ (5 - j) % 10 = 0 := fun j hj => Classical.byContradiction fun h => hn ⟨j, hj, h⟩
              have h0 := hn' 0 (by omega)
              have h1 := hn' 1 (by omega)
              have h2 := hn' 2 (by omega)
              have h3 := hn' 3 (by omega)
              have h4 := hn' 4 (by omega)
              have h5 := hn' 5 (by omega)
              simp only [Nat.reduceSub, Nat.reducePow, Nat.div_one] at h0 h1 h2 h3 h4 h5
              omega
            obtain ⟨j, hj, hj2⟩ := hj
            exact ⟨6, j, rfl, hj, by omega, hj2⟩
          case round =>
            obtain ⟨n, j, rfl, hjn, hn6, hj2⟩ := hrel
            have HJ := Aside.mk hj2
            clear hj2
            obtain ⟨k, rfl⟩ : ∃ k, n = k + 1 := ⟨n - 1, by omega⟩
            have hc : w3.cell? ⟨g, off + k, none⟩ = some (.int .u8 ((48 + X / 10 ^ (5 - k) % 10 : Nat) : Int)) := by
              apply HCL.out
              simp only [digs, List.getElem?_map, List.getElem?_range (show k < 6 by omega), Option.map_some, dg]
            by_cases hq : X / 10 ^ (5 - k) % 10 = 0
            · have hkj : j ≠ k := by
                intro e; subst e; exact HJ.out hq
              rw [hq] at hc
              clear hq
              go_wp2
              go_round
              case rel => exact ⟨k, j, by go_num, by omega, by omega, HJ.out⟩
              case measure => simp
            · have hq2 : ((48 + X / 10 ^ (5 - k) % 10 : Nat) : Int) ≠ 48 := by omega
              generalize ((48 + X / 10 ^ (5 - k) % 10 : Nat) : Int) = ch at *
              have hq3 : (ch == 48) = false := by simpa using hq2
              clear hq hq2
              go_wp2_with (at_builtin; go_loud (refine wpList_app _ rfl _ _ 43 43 rfl wc.heap.size 5 (.int .u8 0) 1 1 Tryz.underlying43 u8info rfl _ _ _ rfl (O3.out.alloc _) _ 1 [.int .u8 46] rfl (src_one Tryz.underlying43 _ _ _ rfl rfl) (by unfold maxLen; omega) (by omega) (by have := HS3.out; simp; omega) ?_))
              intro v' w5 hown' hgrow _ hat
              obtain ⟨a5, c5, rfl⟩ := hown'.form
              have hs5 := hgrow.size
              have hs3 := HS3.out
              rw [World.size_alloc] at hs5
              have O5 := Aside.mk hown'
              have B5 := Aside.mk ((B3.out.alloc B3.out.size (.cells #[.int .u8 46] 5)).trans (below_of_grown hgrow (by have := HS3.out; simp; omega) (fun k e => (O3.out.lt k e).1)))
              have D5 := Aside.mk (((D3.out.alloc (.cells #[.int .u8 46] 5)).moved (w' := w5) (fun kk e => hgrow.block kk (by have := (D3.out.lt kk e).2; simp; omega) (fun e2 => by have := (L2.out kk e2.symm).2; have := (D3.out.lt kk e).1; omega))).cut (i := 0) (j := k + 1) (by omega) hn6)
              have hsrc := D5.out.rd.src (tx := 43) Tryz.underlying43 (P := Tryz.prog) (fun u hu => one_digs X 6 u (List.mem_of_mem_drop (List.mem_of_mem_take hu)))
              simp only [Nat.zero_mul, Nat.add_zero, Nat.sub_zero, Nat.mul_one] at hsrc
              have HS5 := Aside.mk hsrc
              clear hown' hgrow hat hsrc
              go_wp2_with (at_builtin; refine wpList_app _ rfl _ _ 43 43 rfl wc.heap.size 5 (.int .u8 0) 1 1 Tryz.underlying43 u8info rfl _ _ _ rfl O5.out _ (k + 1) (((digs X 6).drop 0).take (k + 1)) rfl HS5.out (by unfold maxLen; omega) (by omega) (by omega) ?_)
              intro v' w7 hown' hgrow _ hat
              obtain ⟨a7, c7, rfl⟩ := hown'.form
              have O7 := Aside.mk hown'
              have B7 := Aside.mk (B5.out.trans (below_of_grown hgrow (by omega) (fun k e => (O5.out.lt k e).1)))
              clear hown' hgrow hat
              go_wp2_with (fail)
              go_ret2
              exact ⟨a7, _, c7, _, by rw [hd.out]; rfl, O7.out, by omega, B7.out⟩
    · have hd : Aside (momOK b = false) := ⟨by unfold momOK asInt; simp [h2]⟩
      have c2 : (decide (253402300800000000 ≤ wrap64 b)) = true := by simp; omega
      clear h1 h2
      go_enter Tryz.func140, Tryz.ntmps140
      go_wp2
      go_ret2
      exact ⟨none, 0, 0, [], by rw [hd.out]; rfl, Own.nil _ _ _ _, by omega, Below.refl _ _⟩
  · have c1 : (decide (wrap64 b < -62167219200000000)) = true := by simp; omega
    have hd : Aside (momOK b = false) := ⟨by unfold momOK asInt; simp [h1]⟩
    clear h1
    go_enter Tryz.func140, Tryz.ntmps140
    go_wp2
    go_ret2
    exact ⟨none, 0, 0, [], by rw [hd.out]; rfl, Own.nil _ _ _ _, by omega, Below.refl _ _⟩
end Go.Proofs.YtmhjjhaipcgbiaaGreat


namespace Go.Proofs.YtmhjjhaipcgbiaaGreat
open Go.RowKit
set_option linter.unusedVariables false
set_option linter.unusedSimpArgs false
def shape32 : Value := .agg #[.int .i64 24, .int .i64 (-149), .int .i64 32]
def shape64 : Value := .agg #[.int .i64 53, .int .i64 (-1074), .int .i64 64]
set_option maxHeartbeats 1000000 in
theorem shapes_32 (w : World) : Calls Tryz.prog 179 #[.int .i64 9] w fun e w' => e = .returned (.tuple #[.agg #[.int .i64 24, .int .i64 (-149), .int .i64 32], .bool true]) ∧ Below w.heap.size w w' := by
  have i0 : ∀ w, (Instr.index 278 (.agg #[.int .i64 9, .int .i64 24, .int .i64 (-149), .int .i64 32, .int .i64 10, .int .i64 53, .int .i64 (-1074), .int .i64 64]) (.int .i64 0)).run Tryz.prog w = .ok (.agg #[.int .i64 9, .int .i64 24, .int .i64 (-149), .int .i64 32]) w := fun _ => by kernel_rfl
  have i1 : ∀ w, (Instr.index 278 (.agg #[.int .i64 9, .int .i64 24, .int .i64 (-149), .int .i64 32, .int .i64 10, .int .i64 53, .int .i64 (-1074), .int .i64 64]) (.int .i64 1)).run Tryz.prog w = .ok (.agg #[.int .i64 10, .int .i64 53, .int .i64 (-1074), .int .i64 64]) w := fun _ => by kernel_rfl
  go_enter Tryz.func179, Tryz.ntmps179
  go_wp2
  refine wp_loop_rounds 1 ?_
  rw [rounds_succ]
  go_wp2
  refine bodyPost_ret (v := .tuple #[.agg #[.int .i64 24, .int .i64 (-149), .int .i64 32], .bool true]) (by simp [results, Tryz.results179, go_sem]) rfl ⟨rfl, (by repeat (first | exact Below.refl _ _ | assumption | (refine Below.drew ?_) | (refine Below.trans ?_ (below_drewN _ _ _)) | (refine Below.alloc ?_ (by first | omega | (simp; done) | (simp; omega)) _) | (refine Below.setCell ?_ (by first | omega | (simp; done) | (simp; omega)) _)))⟩
set_option maxHeartbeats 1000000 in
theorem shapes_64 (w : World) : Calls Tryz.prog 179 #[.int .i64 10] w fun e w' => e = .returned (.tuple #[.agg #[.int .i64 53, .int .i64 (-1074), .int .i64 64], .bool true]) ∧ Below w.heap.size w w' := by
  have i0 : ∀ w, (Instr.index 278 (.agg #[.int .i64 9, .int .i64 24, .int .i64 (-149), .int .i64 32, .int .i64 10, .int .i64 53, .int .i64 (-1074), .int .i64 64]) (.int .i64 0)).run Tryz.prog w = .ok (.agg #[.int .i64 9, .int .i64 24, .int .i64 (-149), .int .i64 32]) w := fun _ => by kernel_rfl
  have i1 : ∀ w, (Instr.index 278 (.agg #[.int .i64 9, .int .i64 24, .int .i64 (-149), .int .i64 32, .int .i64 10, .int .i64 53, .int .i64 (-1074), .int .i64 64]) (.int .i64 1)).run Tryz.prog w = .ok (.agg #[.int .i64 10, .int .i64 53, .int .i64 (-1074), .int .i64 64]) w := fun _ => by kernel_rfl
  go_enter Tryz.func179, Tryz.ntmps179
  go_wp2
  refine wp_loop_rounds 2 ?_
  rw [rounds_succ]
  go_wp2
  rw [rounds_succ]
  go_wp2
  refine bodyPost_ret (v := .tuple #[.agg #[.int .i64 53, .int .i64 (-1074), .int .i64 64], .bool true]) (by simp [results, Tryz.results179, go_sem]) rfl ⟨rfl, (by repeat (first | exact Below.refl _ _ | assumption | (refine Below.drew ?_) | (refine Below.trans ?_ (below_drewN _ _ _)) | (refine Below.alloc ?_ (by first | omega | (simp; done) | (simp; omega)) _) | (refine Below.setCell ?_ (by first | omega | (simp; done) | (simp; omega)) _)))⟩
set_option maxHeartbeats 1000000 in
theorem shapes_no (k : Int) (h9 : (9 == k) = false) (h10 : (10 == k) = false) (w : World) : Calls Tryz.prog 179 #[.int .i64 k] w fun e w' => e = .returned (.tuple #[.agg #[.int .i64 0, .int .i64 0, .int .i64 0], .bool false]) ∧ Below w.heap.size w w' := by
  have i0 : ∀ w, (Instr.index 278 (.agg #[.int .i64 9, .int .i64 24, .int .i64 (-149), .int .i64 32, .int .i64 10, .int .i64 53, .int .i64 (-1074), .int .i64 64]) (.int .i64 0)).run Tryz.prog w = .ok (.agg #[.int .i64 9, .int .i64 24, .int .i64 (-149), .int .i64 32]) w := fun _ => by kernel_rfl
  have i1 : ∀ w, (Instr.index 278 (.agg #[.int .i64 9, .int .i64 24, .int .i64 (-149), .int .i64 32, .int .i64 10, .int .i64 53, .int .i64 (-1074), .int .i64 64]) (.int .i64 1)).run Tryz.prog w = .ok (.agg #[.int .i64 10, .int .i64 53, .int .i64 (-1074), .int .i64 64]) w := fun _ => by kernel_rfl
  go_enter Tryz.func179, Tryz.ntmps179
  go_wp2
  refine wp_loop_rounds 3 ?_
  rw [rounds_succ]
  go_wp2
  rw [rounds_succ]
  go_wp2
  rw [rounds_succ]
  go_wp2
  refine bodyPost_ret (v := .tuple #[.agg #[.int .i64 0, .int .i64 0, .int .i64 0], .bool false]) (by simp [results, Tryz.results179, go_sem]) rfl ⟨rfl, (by repeat (first | exact Below.refl _ _ | assumption | (refine Below.drew ?_) | (refine Below.trans ?_ (below_drewN _ _ _)) | (refine Below.alloc ?_ (by first | omega | (simp; done) | (simp; omega)) _) | (refine Below.setCell ?_ (by first | omega | (simp; done) | (simp; omega)) _)))⟩
set_option maxHeartbeats 1000000 in
theorem sign_32 (w : World) : Calls Tryz.prog 177 #[.agg #[.int .i64 24, .int .i64 (-149), .int .i64 32]] w fun e w' => e = .returned (.int .u64 2147483648) ∧ w' = w.alloc (.cells #[.int .i64 24, .int .i64 (-149), .int .i64 32] 255) := by
  go_enter Tryz.func177, Tryz.ntmps177
  go_wp2
  go_ret
  exact ⟨rfl, rfl⟩
set_option maxHeartbeats 1000000 in
theorem sign_64 (w : World) : Calls Tryz.prog 177 #[.agg #[.int .i64 53, .int .i64 (-1074), .int .i64 64]] w fun e w' => e = .returned (.int .u64 9223372036854775808) ∧ w' = w.alloc (.cells #[.int .i64 53, .int .i64 (-1074), .int .i64 64] 255) := by
  go_enter Tryz.func177, Tryz.ntmps177
  go_wp2
  go_ret
  exact ⟨rfl, rfl⟩
set_option maxHeartbeats 1000000 in
theorem inf_32 (w : World) : Calls Tryz.prog 178 #[.agg #[.int .i64 24, .int .i64 (-149), .int .i64 32]] w fun e w' => e = .returned (.int .u64 2139095040) ∧ Below w.heap.size w w' := by
  go_enter Tryz.func178, Tryz.ntmps178
  go_wp2
  have e1 : IntKind.i64.wrap 23 = 23 := by decide
  go_region_with (go_at_call 177; refine (sign_32 _).mono ?_; rintro e w1 ⟨rfl, rfl⟩)
  all_goals (go_wp2; go_ret; exact ⟨rfl, (by repeat (first | exact Below.refl _ _ | assumption | (refine Below.drew ?_) | (refine Below.trans ?_ (below_drewN _ _ _)) | (refine Below.alloc ?_ (by first | omega | (simp; done) | (simp; omega)) _) | (refine Below.setCell ?_ (by first | omega | (simp; done) | (simp; omega)) _)))⟩)
set_option maxHeartbeats 1000000 in
theorem inf_64 (w : World) : Calls Tryz.prog 178 #[.agg #[.int .i64 53, .int .i64 (-1074), .int .i64 64]] w fun e w' => e = .returned (.int .u64 9218868437227405312) ∧ Below w.heap.size w w' := by
  go_enter Tryz.func178, Tryz.ntmps178
  go_wp2
  have e1 : IntKind.i64.wrap 52 = 52 := by decide
  go_region_with (go_at_call 177; refine (sign_64 _).mono ?_; rintro e w1 ⟨rfl, rfl⟩)
  all_goals (go_wp2; go_ret; exact ⟨rfl, (by repeat (first | exact Below.refl _ _ | assumption | (refine Below.drew ?_) | (refine Below.trans ?_ (below_drewN _ _ _)) | (refine Below.alloc ?_ (by first | omega | (simp; done) | (simp; omega)) _) | (refine Below.setCell ?_ (by first | omega | (simp; done) | (simp; omega)) _)))⟩)
set_option maxHeartbeats 1000000 in
theorem own_32 (b : Int) (h0 : 0 ≤ b) (h1 : b < 4294967296) (w : World) : Calls Tryz.prog 176 #[.int .i64 9, .int .u64 b] w fun e w' => e = .returned (.tuple #[.agg #[.int .i64 24, .int .i64 (-149), .int .i64 32], .int .i64 0]) ∧ Below w.heap.size w w' := by
  go_enter Tryz.func176, Tryz.ntmps176
  go_wp2_with (go_at_call 179; refine (shapes_32 _).mono ?_; rintro e w1 ⟨rfl, hb1⟩; obtain ⟨hc, hf⟩ := bcell hb1; have hz : w.heap.size < w1.heap.size := by have := hb1.size; simp at this; omega)
  have hB : Below w.heap.size w w1 := (below_new w _).trans (hb1.mono (by simp))
  refine bodyPost_ret (v := .tuple #[.agg #[.int .i64 24, .int .i64 (-149), .int .i64 32], .int .i64 0]) (by simp [results, Tryz.results176, go_sem, hc, hz]) rfl ⟨rfl, (by repeat (first | exact Below.refl _ _ | assumption | (refine Below.drew ?_) | (refine Below.trans ?_ (below_drewN _ _ _)) | (refine Below.alloc ?_ (by first | omega | (simp; done) | (simp; omega)) _) | (refine Below.setCell ?_ (by first | omega | (simp; done) | (simp; omega)) _)))⟩
set_option maxHeartbeats 1000000 in
theorem own_32_no (b : Int) (h0 : 4294967296 ≤ b) (w : World) : Calls Tryz.prog 176 #[.int .i64 9, .int .u64 b] w fun e w' => e = .returned (.tuple #[.agg #[.int .i64 24, .int .i64 (-149), .int .i64 32], .int .i64 31]) ∧ Below w.heap.size w w' := by
  go_enter Tryz.func176, Tryz.ntmps176
  go_wp2_with (go_at_call 179; refine (shapes_32 _).mono ?_; rintro e w1 ⟨rfl, hb1⟩; obtain ⟨hc, hf⟩ := bcell hb1; have hz : w.heap.size < w1.heap.size := by have := hb1.size; simp at this; omega)
  have hB : Below w.heap.size w w1 := (below_new w _).trans (hb1.mono (by simp))
  refine bodyPost_ret (v := .tuple #[.agg #[.int .i64 24, .int .i64 (-149), .int .i64 32], .int .i64 31]) (by simp [results, Tryz.results176, go_sem, hc, hz]) rfl ⟨rfl, (by repeat (first | exact Below.refl _ _ | assumption | (refine Below.drew ?_) | (refine Below.trans ?_ (below_drewN _ _ _)) | (refine Below.alloc ?_ (by first | omega | (simp; done) | (simp; omega)) _) | (refine Below.setCell ?_ (by first | omega | (simp; done) | (simp; omega)) _)))⟩
set_option maxHeartbeats 1000000 in
theorem own_64 (b : Int) (w : World) : Calls Tryz.prog 176 #[.int .i64 10, .int .u64 b] w fun e w' => e = .returned (.tuple #[.agg #[.int .i64 53, .int .i64 (-1074), .int .i64 64], .int .i64 0]) ∧ Below w.heap.size w w' := by
  go_enter Tryz.func176, Tryz.ntmps176
  go_wp2_with (go_at_call 179; refine (shapes_64 _).mono ?_; rintro e w1 ⟨rfl, hb1⟩; obtain ⟨hc, hf⟩ := bcell hb1; have hz : w.heap.size < w1.heap.size := by have := hb1.size; simp at this; omega)
  have hB : Below w.heap.size w w1 := (below_new w _).trans (hb1.mono (by simp))
  refine bodyPost_ret (v := .tuple #[.agg #[.int .i64 53, .int .i64 (-1074), .int .i64 64], .int .i64 0]) (by simp [results, Tryz.results176, go_sem, hc, hz]) rfl ⟨rfl, (by repeat (first | exact Below.refl _ _ | assumption | (refine Below.drew ?_) | (refine Below.trans ?_ (below_drewN _ _ _)) | (refine Below.alloc ?_ (by first | omega | (simp; done) | (simp; omega)) _) | (refine Below.setCell ?_ (by first | omega | (simp; done) | (simp; omega)) _)))⟩
set_option maxHeartbeats 1000000 in
theorem own_no (k b : Int) (h9 : (9 == k) = false) (h10 : (10 == k) = false) (w : World) : Calls Tryz.prog 176 #[.int .i64 k, .int .u64 b] w fun e w' => e = .returned (.tuple #[.agg #[.int .i64 0, .int .i64 0, .int .i64 0], .int .i64 30]) ∧ Below w.heap.size w w' := by
  go_enter Tryz.func176, Tryz.ntmps176
  go_wp2_with (go_at_call 179; refine (shapes_no k h9 h10 _).mono ?_; rintro e w1 ⟨rfl, hb1⟩; obtain ⟨hc, hf⟩ := bcell hb1; have hz : w.heap.size < w1.heap.size := by have := hb1.size; simp at this; omega)
  have hB : Below w.heap.size w w1 := (below_new w _).trans (hb1.mono (by simp))
  refine bodyPost_ret (v := .tuple #[.agg #[.int .i64 0, .int .i64 0, .int .i64 0], .int .i64 30]) (by simp [results, Tryz.results176, go_sem, hc, hz]) rfl ⟨rfl, (by repeat (first | exact Below.refl _ _ | assumption | (refine Below.drew ?_) | (refine Below.trans ?_ (below_drewN _ _ _)) | (refine Below.alloc ?_ (by first | omega | (simp; done) | (simp; omega)) _) | (refine Below.setCell ?_ (by first | omega | (simp; done) | (simp; omega)) _)))⟩
end Go.Proofs.YtmhjjhaipcgbiaaGreat


namespace Go.Proofs.YtmhjjhaipcgbiaaGreat
open Go.RowKit
set_option linter.unusedVariables false
set_option linter.unusedSimpArgs false
def clsOf (y lo inf : Int) : Int := if y = 0 then 1 else if y < lo then 2 else if y < inf then 3 else if y = inf then 4 else 5
set_option maxRecDepth 100000
set_option maxHeartbeats 2000000
theorem class_32_at (b : Int) (h0 : 0 ≤ b) (h1 : b < 4294967296) (w : World) (r y : Int) (hy : bits .andNot .u64 b 2147483648 = y) (h : (r = 1 ∧ (y == 0) = true) ∨ (r = 2 ∧ (y == 0) = false ∧ y < 8388608) ∨ (r = 3 ∧ (y == 0) = false ∧ ¬ y < 8388608 ∧ y < 2139095040) ∨ (r = 4 ∧ (y == 0) = false ∧ ¬ y < 8388608 ∧ ¬ y < 2139095040 ∧ (y == 2139095040) = true) ∨ (r = 5 ∧ (y == 0) = false ∧ ¬ y < 8388608 ∧ ¬ y < 2139095040 ∧ (y == 2139095040) = false)) :
    Calls Tryz.prog 136 #[.int .i64 9, .int .u64 b] w fun e w' => e = .returned (.tuple #[.int .i64 r, .int .i64 0]) ∧ Below w.heap.size w w' := by
  go_enter Tryz.func136, Tryz.ntmps136
  go_wp2_with (go_at_call 176; refine (own_32 _ h0 h1 _).mono ?_; rintro e w1 ⟨rfl, hb1⟩)
  refine (sign_32 _).mono ?_
  rintro e w2 ⟨rfl, rfl⟩
  have hz := hb1.size
  rcases h with ⟨rfl, h1⟩ | ⟨rfl, h1, h2⟩ | ⟨rfl, h1, h2, h3⟩ | ⟨rfl, h1, h2, h3, h4⟩ | ⟨rfl, h1, h2, h3, h4⟩
  · go_wp2
    go_ret2
    exact ⟨rfl, (by repeat (first | exact Below.refl _ _ | assumption | (refine Below.drew ?_) | (refine Below.trans ?_ (below_drewN _ _ _)) | (refine Below.alloc ?_ (by first | omega | (simp; done) | (simp; omega)) _) | (refine Below.setCell ?_ (by first | omega | (simp; done) | (simp; omega)) _)))⟩
  · go_wp2_with fail
    go_ret2
    exact ⟨rfl, (by repeat (first | exact Below.refl _ _ | assumption | (refine Below.drew ?_) | (refine Below.trans ?_ (below_drewN _ _ _)) | (refine Below.alloc ?_ (by first | omega | (simp; done) | (simp; omega)) _) | (refine Below.setCell ?_ (by first | omega | (simp; done) | (simp; omega)) _)))⟩
  · go_wp2_with fail
    refine (inf_32 _).mono ?_
    rintro e w3 ⟨rfl, hb3⟩
    have hB : Below w.heap.size w w3 := Below.trans (by repeat (first | exact Below.refl _ _ | assumption | (refine Below.drew ?_) | (refine Below.trans ?_ (below_drewN _ _ _)) | (refine Below.alloc ?_ (by first | omega | (simp; done) | (simp; omega)) _) | (refine Below.setCell ?_ (by first | omega | (simp; done) | (simp; omega)) _))) (hb3.mono (by simp; omega))
    go_wp2_with fail
    go_ret2
    exact ⟨rfl, hB⟩
  · go_wp2_with fail
    refine (inf_32 _).mono ?_
    rintro e w3 ⟨rfl, hb3⟩
    have hB : Below w.heap.size w w3 := Below.trans (by repeat (first | exact Below.refl _ _ | assumption | (refine Below.drew ?_) | (refine Below.trans ?_ (below_drewN _ _ _)) | (refine Below.alloc ?_ (by first | omega | (simp; done) | (simp; omega)) _) | (refine Below.setCell ?_ (by first | omega | (simp; done) | (simp; omega)) _))) (hb3.mono (by simp; omega))
    obtain ⟨hc, hf⟩ := bcell hb3
    go_wp2_with fail
    refine (inf_32 _).mono ?_
    rintro e w4 ⟨rfl, hb4⟩
    have hB4 : Below w.heap.size w w4 := Below.trans hB (hb4.mono hB.size)
    go_wp2_with fail
    go_ret2
    exact ⟨rfl, hB4⟩
  · go_wp2_with fail
    refine (inf_32 _).mono ?_
    rintro e w3 ⟨rfl, hb3⟩
    have hB : Below w.heap.size w w3 := Below.trans (by repeat (first | exact Below.refl _ _ | assumption | (refine Below.drew ?_) | (refine Below.trans ?_ (below_drewN _ _ _)) | (refine Below.alloc ?_ (by first | omega | (simp; done) | (simp; omega)) _) | (refine Below.setCell ?_ (by first | omega | (simp; done) | (simp; omega)) _))) (hb3.mono (by simp; omega))
    obtain ⟨hc, hf⟩ := bcell hb3
    go_wp2_with fail
    refine (inf_32 _).mono ?_
    rintro e w4 ⟨rfl, hb4⟩
    have hB4 : Below w.heap.size w w4 := Below.trans hB (hb4.mono hB.size)
    go_wp2_with fail
    go_ret2
    exact ⟨rfl, hB4⟩
theorem class_32 (b : Int) (h0 : 0 ≤ b) (h1 : b < 4294967296) (w : World) : Calls Tryz.prog 136 #[.int .i64 9, .int .u64 b] w fun e w' => e = .returned (.tuple #[.int .i64 (clsOf (bits .andNot .u64 b 2147483648) 8388608 2139095040), .int .i64 0]) ∧ Below w.heap.size w w' := by
  refine class_32_at b h0 h1 w _ _ rfl ?_
  generalize bits BinOp.andNot IntKind.u64 b 2147483648 = y
  simp only [beq_iff_eq, beq_eq_false_iff_ne]
  show (clsOf y _ _ = 1 ∧ _) ∨ (clsOf y _ _ = 2 ∧ _) ∨ (clsOf y _ _ = 3 ∧ _) ∨ (clsOf y _ _ = 4 ∧ _) ∨ (clsOf y _ _ = 5 ∧ _)
  generalize y = z
  unfold clsOf
  by_cases c1 : z = 0
  · exact .inl ⟨if_pos c1, c1⟩
  rw [if_neg c1]
  by_cases c2 : z < 8388608
  · exact .inr (.inl ⟨if_pos c2, c1, c2⟩)
  rw [if_neg c2]
  by_cases c3 : z < 2139095040
  · exact .inr (.inr (.inl ⟨if_pos c3, c1, c2, c3⟩))
  rw [if_neg c3]
  by_cases c4 : z = 2139095040
  · exact .inr (.inr (.inr (.inl ⟨if_pos c4, c1, c2, c3, c4⟩)))
  rw [if_neg c4]
  exact .inr (.inr (.inr (.inr ⟨rfl, c1, c2, c3, c4⟩)))
theorem class_64_at (b : Int) (w : World) (r y : Int) (hy : bits .andNot .u64 b 9223372036854775808 = y) (h : (r = 1 ∧ (y == 0) = true) ∨ (r = 2 ∧ (y == 0) = false ∧ y < 4503599627370496) ∨ (r = 3 ∧ (y == 0) = false ∧ ¬ y < 4503599627370496 ∧ y < 9218868437227405312) ∨ (r = 4 ∧ (y == 0) = false ∧ ¬ y < 4503599627370496 ∧ ¬ y < 9218868437227405312 ∧ (y == 9218868437227405312) = true) ∨ (r = 5 ∧ (y == 0) = false ∧ ¬ y < 4503599627370496 ∧ ¬ y < 9218868437227405312 ∧ (y == 9218868437227405312) = false)) :
    Calls Tryz.prog 136 #[.int .i64 10, .int .u64 b] w fun e w' => e = .returned (.tuple #[.int .i64 r, .int .i64 0]) ∧ Below w.heap.size w w' := by
  go_enter Tryz.func136, Tryz.ntmps136
  go_wp2_with (go_at_call 176; refine (own_64 _ _).mono ?_; rintro e w1 ⟨rfl, hb1⟩)
  refine (sign_64 _).mono ?_
  rintro e w2 ⟨rfl, rfl⟩
  have hz := hb1.size
  rcases h with ⟨rfl, h1⟩ | ⟨rfl, h1, h2⟩ | ⟨rfl, h1, h2, h3⟩ | ⟨rfl, h1, h2, h3, h4⟩ | ⟨rfl, h1, h2, h3, h4⟩
  · go_wp2
    go_ret2
    exact ⟨rfl, (by repeat (first | exact Below.refl _ _ | assumption | (refine Below.drew ?_) | (refine Below.trans ?_ (below_drewN _ _ _)) | (refine Below.alloc ?_ (by first | omega | (simp; done) | (simp; omega)) _) | (refine Below.setCell ?_ (by first | omega | (simp; done) | (simp; omega)) _)))⟩
  · go_wp2_with fail
    go_ret2
    exact ⟨rfl, (by repeat (first | exact Below.refl _ _ | assumption | (refine Below.drew ?_) | (refine Below.trans ?_ (below_drewN _ _ _)) | (refine Below.alloc ?_ (by first | omega | (simp; done) | (simp; omega)) _) | (refine Below.setCell ?_ (by first | omega | (simp; done) | (simp; omega)) _)))⟩
  · go_wp2_with fail
    refine (inf_64 _).mono ?_
    rintro e w3 ⟨rfl, hb3⟩
    have hB : Below w.heap.size w w3 := Below.trans (by repeat (first | exact Below.refl _ _ | assumption | (refine Below.drew ?_) | (refine Below.trans ?_ (below_drewN _ _ _)) | (refine Below.alloc ?_ (by first | omega | (simp; done) | (simp; omega)) _) | (refine Below.setCell ?_ (by first | omega | (simp; done) | (simp; omega)) _))) (hb3.mono (by simp; omega))
    go_wp2_with fail
    go_ret2
    exact ⟨rfl, hB⟩
  · go_wp2_with fail
    refine (inf_64 _).mono ?_
    rintro e w3 ⟨rfl, hb3⟩
    have hB : Below w.heap.size w w3 := Below.trans (by repeat (first | exact Below.refl _ _ | assumption | (refine Below.drew ?_) | (refine Below.trans ?_ (below_drewN _ _ _)) | (refine Below.alloc ?_ (by first | omega | (simp; done) | (simp; omega)) _) | (refine Below.setCell ?_ (by first | omega | (simp; done) | (simp; omega)) _))) (hb3.mono (by simp; omega))
    obtain ⟨hc, hf⟩ := bcell hb3
    go_wp2_with fail
    refine (inf_64 _).mono ?_
    rintro e w4 ⟨rfl, hb4⟩
    have hB4 : Below w.heap.size w w4 := Below.trans hB (hb4.mono hB.size)
    go_wp2_with fail
    go_ret2
    exact ⟨rfl, hB4⟩
  · go_wp2_with fail
    refine (inf_64 _).mono ?_
    rintro e w3 ⟨rfl, hb3⟩
    have hB : Below w.heap.size w w3 := Below.trans (by repeat (first | exact Below.refl _ _ | assumption | (refine Below.drew ?_) | (refine Below.trans ?_ (below_drewN _ _ _)) | (refine Below.alloc ?_ (by first | omega | (simp; done) | (simp; omega)) _) | (refine Below.setCell ?_ (by first | omega | (simp; done) | (simp; omega)) _))) (hb3.mono (by simp; omega))
    obtain ⟨hc, hf⟩ := bcell hb3
    go_wp2_with fail
    refine (inf_64 _).mono ?_
    rintro e w4 ⟨rfl, hb4⟩
    have hB4 : Below w.heap.size w w4 := Below.trans hB (hb4.mono hB.size)
    go_wp2_with fail
    go_ret2
    exact ⟨rfl, hB4⟩
theorem class_64 (b : Int) (w : World) : Calls Tryz.prog 136 #[.int .i64 10, .int .u64 b] w fun e w' => e = .returned (.tuple #[.int .i64 (clsOf (bits .andNot .u64 b 9223372036854775808) 4503599627370496 9218868437227405312), .int .i64 0]) ∧ Below w.heap.size w w' := by
  refine class_64_at b w _ _ rfl ?_
  generalize bits BinOp.andNot IntKind.u64 b 9223372036854775808 = y
  simp only [beq_iff_eq, beq_eq_false_iff_ne]
  show (clsOf y _ _ = 1 ∧ _) ∨ (clsOf y _ _ = 2 ∧ _) ∨ (clsOf y _ _ = 3 ∧ _) ∨ (clsOf y _ _ = 4 ∧ _) ∨ (clsOf y _ _ = 5 ∧ _)
  generalize y = z
  unfold clsOf
  by_cases c1 : z = 0
  · exact .inl ⟨if_pos c1, c1⟩
  rw [if_neg c1]
  by_cases c2 : z < 4503599627370496
  · exact .inr (.inl ⟨if_pos c2, c1, c2⟩)
  rw [if_neg c2]
  by_cases c3 : z < 9218868437227405312
  · exact .inr (.inr (.inl ⟨if_pos c3, c1, c2, c3⟩))
  rw [if_neg c3]
  by_cases c4 : z = 9218868437227405312
  · exact .inr (.inr (.inr (.inl ⟨if_pos c4, c1, c2, c3, c4⟩)))
  rw [if_neg c4]
  exact .inr (.inr (.inr (.inr ⟨rfl, c1, c2, c3, c4⟩)))
theorem class_32_no (b : Int) (h0 : 4294967296 ≤ b) (w : World) : Calls Tryz.prog 136 #[.int .i64 9, .int .u64 b] w fun e w' => e = .returned (.tuple #[.int .i64 0, .int .i64 31]) ∧ Below w.heap.size w w' := by
  go_enter Tryz.func136, Tryz.ntmps136
  go_wp2_with (go_at_call 176; refine (own_32_no _ h0 _).mono ?_; rintro e w1 ⟨rfl, hb1⟩)
  have hz := hb1.size
  go_ret2
  exact ⟨rfl, (by repeat (first | exact Below.refl _ _ | assumption | (refine Below.drew ?_) | (refine Below.trans ?_ (below_drewN _ _ _)) | (refine Below.alloc ?_ (by first | omega | (simp; done) | (simp; omega)) _) | (refine Below.setCell ?_ (by first | omega | (simp; done) | (simp; omega)) _)))⟩
theorem nan_32 (w : World) : Calls Tryz.prog 137 #[.int .i64 9] w fun e w' => e = .returned (.tuple #[.int .u64 2143289344, .int .i64 0]) ∧ Below w.heap.size w w' := by
  have e1 : IntKind.i64.wrap 22 = 22 := by decide
  have hn : bits .or .u64 2139095040 (IntKind.u64.wrap 4194304) = 2143289344 := by decide
  go_enter Tryz.func137, Tryz.ntmps137
  go_wp2_with (go_at_call 179; refine (shapes_32 _).mono ?_; rintro e w1 ⟨rfl, hb1⟩)
  have hz := hb1.size
  go_region_with (go_at_call 178; refine (inf_32 _).mono ?_; rintro e w2 ⟨rfl, hb2⟩; obtain ⟨hc, hf⟩ := bcell hb2)
  all_goals
    go_wp2
    go_ret2
    exact ⟨by first | rfl | (rw [hn]), hb1.trans (((below_new w1 _).drew.mono hz).trans (hb2.mono (by simp; omega)))⟩
theorem nan_64 (w : World) : Calls Tryz.prog 137 #[.int .i64 10] w fun e w' => e = .returned (.tuple #[.int .u64 9221120237041090560, .int .i64 0]) ∧ Below w.heap.size w w' := by
  have e1 : IntKind.i64.wrap 51 = 51 := by decide
  have hn : bits .or .u64 9218868437227405312 (IntKind.u64.wrap 2251799813685248) = 9221120237041090560 := by decide
  go_enter Tryz.func137, Tryz.ntmps137
  go_wp2_with (go_at_call 179; refine (shapes_64 _).mono ?_; rintro e w1 ⟨rfl, hb1⟩)
  have hz := hb1.size
  go_region_with (go_at_call 178; refine (inf_64 _).mono ?_; rintro e w2 ⟨rfl, hb2⟩; obtain ⟨hc, hf⟩ := bcell hb2)
  all_goals
    go_wp2
    go_ret2
    exact ⟨by first | rfl | (rw [hn]), hb1.trans (((below_new w1 _).drew.mono hz).trans (hb2.mono (by simp; omega)))⟩
end Go.Proofs.YtmhjjhaipcgbiaaGreat


namespace Go.Proofs.YtmhjjhaipcgbiaaGreat
open Go.RowKit
set_option linter.unusedVariables false
set_option linter.unusedSimpArgs false
set_option maxRecDepth 100000
set_option maxHeartbeats 2000000
def wbits (k : Int) : Int := if k = 1 ∨ k = 5 then 8 else if k = 2 ∨ k = 6 then 16 else if k = 3 ∨ k = 7 then 32 else if k = 4 ∨ k = 8 then 64 else 0
def maxOf (b : Int) : Int := if b = 8 then 255 else if b = 16 then 65535 else if b = 32 then 4294967295 else 18446744073709551615
def isWhole (k : Int) : Bool := decide (1 ≤ k ∧ k ≤ 8)
theorem whole_kinds {k : Int} (h : 1 ≤ k ∧ k ≤ 8) : k = 1 ∨ k = 2 ∨ k = 3 ∨ k = 4 ∨ k = 5 ∨ k = 6 ∨ k = 7 ∨ k = 8 := by omega
theorem wwidth_yes (k : Int) (w : World) (h : 1 ≤ k ∧ k ≤ 8) : Calls Tryz.prog 184 #[.int .i64 k] w fun e w' => e = .returned (.tuple #[.int .i64 (wbits k), .bool (decide (k ≤ 4)), .bool true]) ∧ Below w.heap.size w w' := by
  rcases whole_kinds h with rfl | rfl | rfl | rfl | rfl | rfl | rfl | rfl
  all_goals
    clear h
    go_enter Tryz.func184, Tryz.ntmps184
    go_wp2
    go_ret3
    exact ⟨rfl, (by repeat (first | exact Below.refl _ _ | assumption | (refine Below.drew ?_) | (refine Below.trans ?_ (below_drewN _ _ _)) | (refine Below.alloc ?_ (by first | omega | (simp; done) | (simp; omega)) _) | (refine Below.setCell ?_ (by first | omega | (simp; done) | (simp; omega)) _)))⟩
theorem wwidth_no (k : Int) (w : World) (h : k < 1 ∨ 8 < k) : Calls Tryz.prog 184 #[.int .i64 k] w fun e w' => e = .returned (.tuple #[.int .i64 0, .bool false, .bool false]) ∧ Below w.heap.size w w' := by
  rcases h with h | h
  · have h1 : decide (1 ≤ k) = false := by simp; omega
    have h2 : decide (5 ≤ k) = false := by simp; omega
    go_enter Tryz.func184, Tryz.ntmps184
    go_wp2
    go_ret3
    exact ⟨rfl, (by repeat (first | exact Below.refl _ _ | assumption | (refine Below.drew ?_) | (refine Below.trans ?_ (below_drewN _ _ _)) | (refine Below.alloc ?_ (by first | omega | (simp; done) | (simp; omega)) _) | (refine Below.setCell ?_ (by first | omega | (simp; done) | (simp; omega)) _)))⟩
  · have h1 : decide (k ≤ 4) = false := by simp; omega
    have h2 : decide (k ≤ 8) = false := by simp; omega
    go_enter Tryz.func184, Tryz.ntmps184
    go_wp2
    go_ret3
    exact ⟨rfl, (by repeat (first | exact Below.refl _ _ | assumption | (refine Below.drew ?_) | (refine Below.trans ?_ (below_drewN _ _ _)) | (refine Below.alloc ?_ (by first | omega | (simp; done) | (simp; omega)) _) | (refine Below.setCell ?_ (by first | omega | (simp; done) | (simp; omega)) _)))⟩
theorem wmost_any (b : Int) (w : World) (hb : b = 8 ∨ b = 16 ∨ b = 32 ∨ b = 64) : Calls Tryz.prog 185 #[.int .i64 b, .bool false, .bool false] w fun e w' => e = .returned (.int .u64 (maxOf b)) ∧ w = w' := by
  rcases hb with rfl | rfl | rfl | rfl
  all_goals
    go_enter Tryz.func185, Tryz.ntmps185
    go_wp2
    go_ret
    exact ⟨rfl, rfl⟩
theorem wholeFits_yes (k b : Int) (w : World) (h : 1 ≤ k ∧ k ≤ 8) : Calls Tryz.prog 141 #[.int .i64 k, .int .u64 b] w fun e w' => e = .returned (.bool (decide (b ≤ maxOf (wbits k)))) ∧ Below w.heap.size w w' := by
  have hk : wbits k = 8 ∨ wbits k = 16 ∨ wbits k = 32 ∨ wbits k = 64 := by unfold wbits; rcases whole_kinds h with rfl | rfl | rfl | rfl | rfl | rfl | rfl | rfl <;> simp
  go_enter Tryz.func141, Tryz.ntmps141
  go_wp2_with (go_at_call 184; refine (wwidth_yes k _ h).mono ?_; rintro e w1 ⟨rfl, hb1⟩)
  refine (wmost_any _ _ hk).mono ?_
  rintro e w2 ⟨rfl, rfl⟩
  go_wp2_with fail
  go_ret
  exact ⟨rfl, hb1⟩
theorem wholeFits_no (k b : Int) (w : World) (h : k < 1 ∨ 8 < k) : Calls Tryz.prog 141 #[.int .i64 k, .int .u64 b] w fun e w' => e = .returned (.bool false) ∧ Below w.heap.size w w' := by
  go_enter Tryz.func141, Tryz.ntmps141
  go_wp2_with (go_at_call 184; refine (wwidth_no k _ h).mono ?_; rintro e w1 ⟨rfl, hb1⟩)
  go_ret
  exact ⟨rfl, hb1⟩
theorem r5width_any (k : Int) (w : World) : Calls Tryz.prog 148 #[.int .i64 k] w fun e w' => e = .returned (.int .i64 (wbits k)) ∧ w = w' := by
  by_cases h : 1 ≤ k ∧ k ≤ 8
  · rcases whole_kinds h with rfl | rfl | rfl | rfl | rfl | rfl | rfl | rfl
    all_goals
      clear h
      go_enter Tryz.func148, Tryz.ntmps148
      go_wp2
      go_ret
      exact ⟨rfl, rfl⟩
  · have h0 : Aside (wbits k = 0) := ⟨by unfold wbits; rw [if_neg (by omega), if_neg (by omega), if_neg (by omega), if_neg (by omega)]⟩
    have h' : k < 1 ∨ 8 < k := by omega
    clear h
    rcases h' with h | h
    all_goals
      go_enter Tryz.func148, Tryz.ntmps148
      go_wp2
      go_ret
      exact ⟨by rw [h0.out]; rfl, rfl⟩
theorem r5cut_any (k b : Int) (h0 : 0 ≤ b) (h1 : b ≤ 18446744073709551615) (w : World) (h : 1 ≤ k ∧ k ≤ 8) : Calls Tryz.prog 186 #[.int .i64 k, .int .u64 b] w fun e w' => e = .returned (.int .u64 (b % (maxOf (wbits k) + 1))) ∧ Below w.heap.size w w' := by
  rcases whole_kinds h with rfl | rfl | rfl | rfl | rfl | rfl | rfl | rfl
  all_goals
    clear h
    go_enter Tryz.func186, Tryz.ntmps186
    go_wp2_with (go_at_call 148; refine (r5width_any _ _).mono ?_; simp (config := { decide := true }) only [wbits, ite_true, ite_false]; rintro e w1 ⟨rfl, rfl⟩)
    go_ret
    exact ⟨by first | rfl | (rw [show maxOf (wbits _) + 1 = 18446744073709551616 from rfl, Int.emod_eq_of_lt h0 (by omega)]; rfl), Below.refl _ _⟩
theorem r5fits_yes (k b : Int) (h0 : 0 ≤ b) (h1 : b ≤ 18446744073709551615) (w : World) (h : 1 ≤ k ∧ k ≤ 8) : Calls Tryz.prog 146 #[.int .i64 k, .int .u64 b] w fun e w' => e = .returned (.bool (decide (b ≤ maxOf (wbits k)))) ∧ Below w.heap.size w w' := by
  have hw : 0 < wbits k := by unfold wbits; rcases whole_kinds h with rfl | rfl | rfl | rfl | rfl | rfl | rfl | rfl <;> simp
  have hm : 0 ≤ maxOf (wbits k) := by unfold maxOf; split <;> (try split) <;> (try split) <;> decide
  have HM : Aside (decide (b ≤ maxOf (wbits k)) = (b % (maxOf (wbits k) + 1) == b)) := ⟨by
    by_cases hle : b ≤ maxOf (wbits k)
    · rw [Int.emod_eq_of_lt h0 (by omega)]; simp [hle]
    · have := Int.emod_lt_of_pos b (show 0 < maxOf (wbits k) + 1 by omega)
      have hne : b % (maxOf (wbits k) + 1) ≠ b := by omega
      simp [hle, hne]⟩
  clear hm
  go_enter Tryz.func146, Tryz.ntmps146
  go_wp2_with (go_at_call 148; refine (r5width_any _ _).mono ?_; rintro e w1 ⟨rfl, rfl⟩)
  refine (r5cut_any _ _ h0 h1 _ h).mono ?_
  rintro e w2 ⟨rfl, hb2⟩
  go_wp2_with fail
  go_ret
  exact ⟨by rw [HM.out]; rfl, hb2⟩
theorem r5fits_no (k b : Int) (w : World) (h : k < 1 ∨ 8 < k) : Calls Tryz.prog 146 #[.int .i64 k, .int .u64 b] w fun e w' => e = .returned (.bool false) ∧ w = w' := by
  have h0 : wbits k = 0 := by unfold wbits; rw [if_neg (by omega), if_neg (by omega), if_neg (by omega), if_neg (by omega)]
  go_enter Tryz.func146, Tryz.ntmps146
  go_wp2_with (go_at_call 148; refine (r5width_any _ _).mono ?_; rintro e w1 ⟨rfl, rfl⟩)
  go_ret
  exact ⟨rfl, rfl⟩
end Go.Proofs.YtmhjjhaipcgbiaaGreat


namespace Go.Proofs.YtmhjjhaipcgbiaaGreat
open Go.RowKit
set_option linter.unusedVariables false
set_option linter.unusedSimpArgs false
set_option maxRecDepth 100000
set_option maxHeartbeats 2000000
theorem r3shape_32 (w : World) : Calls Tryz.prog 162 #[.int .i64 9] w fun e w' => e = .returned (.tuple #[.int .i64 23, .int .i64 8, .bool true]) ∧ w = w' := by
  go_enter Tryz.func162, Tryz.ntmps162
  go_wp2
  go_ret3
  exact ⟨rfl, rfl⟩
theorem r3shape_64 (w : World) : Calls Tryz.prog 162 #[.int .i64 10] w fun e w' => e = .returned (.tuple #[.int .i64 52, .int .i64 11, .bool true]) ∧ w = w' := by
  go_enter Tryz.func162, Tryz.ntmps162
  go_wp2
  go_ret3
  exact ⟨rfl, rfl⟩
theorem r3sign_32 (w : World) : Calls Tryz.prog 188 #[.int .i64 9] w fun e w' => e = .returned (.int .u64 2147483648) ∧ w = w' := by
  go_enter Tryz.func188, Tryz.ntmps188
  go_wp2
  go_ret
  exact ⟨rfl, rfl⟩
theorem r3sign_64 (w : World) : Calls Tryz.prog 188 #[.int .i64 10] w fun e w' => e = .returned (.int .u64 9223372036854775808) ∧ w = w' := by
  go_enter Tryz.func188, Tryz.ntmps188
  go_wp2
  go_ret
  exact ⟨rfl, rfl⟩
theorem r3check_32 (b : Int) (h : b < 4294967296) (w : World) : Calls Tryz.prog 161 #[.int .i64 9, .int .u64 b] w fun e w' => e = .returned (.int .i64 0) ∧ w = w' := by
  go_enter Tryz.func161, Tryz.ntmps161
  go_wp2_with (go_at_call 162; refine (r3shape_32 _).mono ?_; rintro e w1 ⟨rfl, rfl⟩)
  go_ret
  exact ⟨rfl, rfl⟩
theorem r3check_32_no (b : Int) (h : 4294967296 ≤ b) (w : World) : Calls Tryz.prog 161 #[.int .i64 9, .int .u64 b] w fun e w' => e = .returned (.int .i64 31) ∧ w = w' := by
  go_enter Tryz.func161, Tryz.ntmps161
  go_wp2_with (go_at_call 162; refine (r3shape_32 _).mono ?_; rintro e w1 ⟨rfl, rfl⟩)
  go_ret
  exact ⟨rfl, rfl⟩
theorem r3check_64 (b : Int) (w : World) : Calls Tryz.prog 161 #[.int .i64 10, .int .u64 b] w fun e w' => e = .returned (.int .i64 0) ∧ w = w' := by
  go_enter Tryz.func161, Tryz.ntmps161
  go_wp2_with (go_at_call 162; refine (r3shape_64 _).mono ?_; rintro e w1 ⟨rfl, rfl⟩)
  go_ret
  exact ⟨rfl, rfl⟩
def r3cls (x m mx : Int) : Int := if x = mx ∧ m = 0 then 4 else if x = mx then 5 else if 0 < x then 3 else if 0 < m then 2 else 1
theorem r3cls_inf {mx : Int} : r3cls mx 0 mx = 4 := by simp [r3cls]
theorem r3cls_nan {m mx : Int} (h : ¬ m = 0) : r3cls mx m mx = 5 := by simp [r3cls, h]
theorem r3cls_norm {x m mx : Int} (h : ¬ x = mx) (h2 : 0 < x) : r3cls x m mx = 3 := by simp [r3cls, h, h2]
theorem r3cls_small {x m mx : Int} (h : ¬ x = mx) (h2 : ¬ 0 < x) (h3 : 0 < m) : r3cls x m mx = 2 := by simp [r3cls, h, h2, h3]
theorem r3cls_zero {x m mx : Int} (h : ¬ x = mx) (h2 : ¬ 0 < x) (h3 : ¬ 0 < m) : r3cls x m mx = 1 := by simp [r3cls, h, h2, h3]
theorem r3parts_32 (b : Int) (h0 : 0 ≤ b) (h1 : b < 4294967296) (w : World) : Calls Tryz.prog 163 #[.int .i64 9, .int .u64 b] w fun e w' => e = .returned (.tuple #[.int .i64 (b % 2147483648 / 8388608 % 256), .int .u64 (b % 2147483648 % 8388608)]) ∧ Below w.heap.size w w' := by
  go_enter Tryz.func163, Tryz.ntmps163
  go_wp2_with (first | (go_at_call 162; refine (r3shape_32 _).mono ?_; rintro e w1 ⟨rfl, rfl⟩) | (go_at_call 188; refine (r3sign_32 _).mono ?_; rintro e w1 ⟨rfl, rfl⟩))
  go_quiet (fail)
  go_wp2
  go_ret2
  exact ⟨rfl, (by repeat (first | exact Below.refl _ _ | assumption | (refine Below.drew ?_) | (refine Below.trans ?_ (below_drewN _ _ _)) | (refine Below.alloc ?_ (by first | omega | (simp; done) | (simp; omega)) _) | (refine Below.setCell ?_ (by first | omega | (simp; done) | (simp; omega)) _)))⟩
theorem r3class_32 (b : Int) (h0 : 0 ≤ b) (h1 : b < 4294967296) (w : World) : Calls Tryz.prog 104 #[.int .i64 9, .int .u64 b] w fun e w' => e = .returned (.tuple #[.int .i64 (r3cls (b % 2147483648 / 8388608 % 256) (b % 2147483648 % 8388608) 255), .int .i64 0]) ∧ Below w.heap.size w w' := by
  go_enter Tryz.func104, Tryz.ntmps104
  go_wp2_with (first | (go_at_call 161; refine (r3check_32 _ h1 _).mono ?_; rintro e w1 ⟨rfl, rfl⟩) | (go_at_call 162; refine (r3shape_32 _).mono ?_; rintro e w1 ⟨rfl, rfl⟩))
  refine (r3parts_32 _ h0 h1 _).mono ?_
  rintro e w1 ⟨rfl, hb1⟩
  generalize hx : b % 2147483648 / 8388608 % 256 = x
  generalize hm : b % 2147483648 % 8388608 = m
  have hx0 : 0 ≤ x := by omega
  have hm0 : 0 ≤ m := by omega
  have HX := Aside.mk hx
  have HM := Aside.mk hm
  clear hx hm
  by_cases c1 : x = 255
  · subst c1
    by_cases c2 : m = 0
    · subst c2
      go_wp2_with fail
      go_ret2
      exact ⟨by rw [HX.out, HM.out, r3cls_inf]; rfl, hb1⟩
    · have c3 : (m == 0) = false := by simpa using c2
      have C2 := Aside.mk c2
      clear c2
      go_wp2_with fail
      go_ret2
      exact ⟨by rw [HX.out, HM.out, r3cls_nan C2.out]; rfl, hb1⟩
  · have c2 : (x == 255) = false := by simpa using c1
    have C1 := Aside.mk c1
    clear c1
    by_cases c3 : 0 < x
    · go_wp2_with fail
      go_ret2
      exact ⟨by rw [HX.out, HM.out, r3cls_norm C1.out c3]; rfl, hb1⟩
    · by_cases c4 : 0 < m
      · go_wp2_with fail
        go_ret2
        exact ⟨by rw [HX.out, HM.out, r3cls_small C1.out (by omega) c4]; rfl, hb1⟩
      · go_wp2_with fail
        go_ret2
        exact ⟨by rw [HX.out, HM.out, r3cls_zero C1.out (by omega) (by omega)]; rfl, hb1⟩
theorem r3parts_64 (b : Int) (h0 : 0 ≤ b) (h1 : b ≤ 18446744073709551615) (w : World) : Calls Tryz.prog 163 #[.int .i64 10, .int .u64 b] w fun e w' => e = .returned (.tuple #[.int .i64 (b % 9223372036854775808 / 4503599627370496 % 2048), .int .u64 (b % 9223372036854775808 % 4503599627370496)]) ∧ Below w.heap.size w w' := by
  go_enter Tryz.func163, Tryz.ntmps163
  go_wp2_with (first | (go_at_call 162; refine (r3shape_64 _).mono ?_; rintro e w1 ⟨rfl, rfl⟩) | (go_at_call 188; refine (r3sign_64 _).mono ?_; rintro e w1 ⟨rfl, rfl⟩))
  go_quiet (fail)
  go_wp2
  go_ret2
  exact ⟨rfl, (by repeat (first | exact Below.refl _ _ | assumption | (refine Below.drew ?_) | (refine Below.trans ?_ (below_drewN _ _ _)) | (refine Below.alloc ?_ (by first | omega | (simp; done) | (simp; omega)) _) | (refine Below.setCell ?_ (by first | omega | (simp; done) | (simp; omega)) _)))⟩
theorem r3class_64 (b : Int) (h0 : 0 ≤ b) (h1 : b ≤ 18446744073709551615) (w : World) : Calls Tryz.prog 104 #[.int .i64 10, .int .u64 b] w fun e w' => e = .returned (.tuple #[.int .i64 (r3cls (b % 9223372036854775808 / 4503599627370496 % 2048) (b % 9223372036854775808 % 4503599627370496) 2047), .int .i64 0]) ∧ Below w.heap.size w w' := by
  go_enter Tryz.func104, Tryz.ntmps104
  go_wp2_with (first | (go_at_call 161; refine (r3check_64 _ _).mono ?_; rintro e w1 ⟨rfl, rfl⟩) | (go_at_call 162; refine (r3shape_64 _).mono ?_; rintro e w1 ⟨rfl, rfl⟩))
  refine (r3parts_64 _ h0 h1 _).mono ?_
  rintro e w1 ⟨rfl, hb1⟩
  generalize hx : b % 9223372036854775808 / 4503599627370496 % 2048 = x
  generalize hm : b % 9223372036854775808 % 4503599627370496 = m
  have hx0 : 0 ≤ x := by omega
  have hm0 : 0 ≤ m := by omega
  have HX := Aside.mk hx
  have HM := Aside.mk hm
  clear hx hm
  by_cases c1 : x = 2047
  · subst c1
    by_cases c2 : m = 0
    · subst c2
      go_wp2_with fail
      go_ret2
      exact ⟨by rw [HX.out, HM.out, r3cls_inf]; rfl, hb1⟩
    · have c3 : (m == 0) = false := by simpa using c2
      have C2 := Aside.mk c2
      clear c2
      go_wp2_with fail
      go_ret2
      exact ⟨by rw [HX.out, HM.out, r3cls_nan C2.out]; rfl, hb1⟩
  · have c2 : (x == 2047) = false := by simpa using c1
    have C1 := Aside.mk c1
    clear c1
    by_cases c3 : 0 < x
    · go_wp2_with fail
      go_ret2
      exact ⟨by rw [HX.out, HM.out, r3cls_norm C1.out c3]; rfl, hb1⟩
    · by_cases c4 : 0 < m
      · go_wp2_with fail
        go_ret2
        exact ⟨by rw [HX.out, HM.out, r3cls_small C1.out (by omega) c4]; rfl, hb1⟩
      · go_wp2_with fail
        go_ret2
        exact ⟨by rw [HX.out, HM.out, r3cls_zero C1.out (by omega) (by omega)]; rfl, hb1⟩
theorem r3class_32_no (b : Int) (h0 : 4294967296 ≤ b) (w : World) : Calls Tryz.prog 104 #[.int .i64 9, .int .u64 b] w fun e w' => e = .returned (.tuple #[.int .i64 0, .int .i64 31]) ∧ w = w' := by
  go_enter Tryz.func104, Tryz.ntmps104
  go_wp2_with (go_at_call 161; refine (r3check_32_no _ h0 _).mono ?_; rintro e w1 ⟨rfl, rfl⟩)
  go_ret2
  exact ⟨rfl, rfl⟩
theorem r3nan_32 (w : World) : Calls Tryz.prog 142 #[.int .i64 9] w fun e w' => e = .returned (.int .u64 2143289344) ∧ w = w' := by
  go_enter Tryz.func142, Tryz.ntmps142
  go_wp2
  go_ret
  exact ⟨rfl, rfl⟩
theorem r3nan_64 (w : World) : Calls Tryz.prog 142 #[.int .i64 10] w fun e w' => e = .returned (.int .u64 9221120237041090560) ∧ w = w' := by
  go_enter Tryz.func142, Tryz.ntmps142
  go_wp2
  go_ret
  exact ⟨rfl, rfl⟩
end Go.Proofs.YtmhjjhaipcgbiaaGreat


namespace Go.Proofs.YtmhjjhaipcgbiaaGreat
open Go.RowKit
set_option linter.unusedVariables false
set_option linter.unusedSimpArgs false
set_option maxRecDepth 100000
set_option maxHeartbeats 1000000
theorem strip_nat (n k a : Nat) (hk : k + 1 ≤ n) (ha : a < 2 ^ (k + 1)) : a &&& (2 ^ n - (2 ^ k + 1)) = a % 2 ^ k := by
  apply Nat.eq_of_testBit_eq
  intro i
  have h1 : 2 ^ k < 2 ^ n := Nat.pow_lt_pow_right (by decide) (by omega)
  rw [Nat.testBit_and, Nat.testBit_two_pow_sub_succ h1, Nat.testBit_mod_two_pow, Nat.testBit_two_pow]
  by_cases h : i < k
  · simp [h, show i < n by omega, show ¬ k = i by omega]
  · by_cases h2 : i = k
    · subst h2; simp
    · have : a.testBit i = false := Nat.testBit_lt_two_pow (Nat.lt_of_lt_of_le ha (Nat.pow_le_pow_right (by decide) (by omega)))
      simp [this]
theorem strip_32 (b : Int) (h0 : 0 ≤ b) (h1 : b < 4294967296) : bits .andNot .u64 b 2147483648 = b % 2147483648 := by
  rw [u64_andNot b 2147483648 h0 (by omega) (by decide) (by decide)]
  have := strip_nat 64 31 b.toNat (by decide) (by have : (2:Nat) ^ (31 + 1) = 4294967296 := rfl; omega)
  have e : (18446744073709551615 - (2147483648 : Int).toNat) = 2 ^ 64 - (2 ^ 31 + 1) := by decide
  rw [e, this]
  have e2 : (2 : Nat) ^ 31 = 2147483648 := rfl
  rw [e2]; omega
theorem strip_64 (b : Int) (h0 : 0 ≤ b) (h1 : b ≤ 18446744073709551615) : bits .andNot .u64 b 9223372036854775808 = b % 9223372036854775808 := by
  rw [u64_andNot b 9223372036854775808 h0 (by omega) (by decide) (by decide)]
  have := strip_nat 64 63 b.toNat (by decide) (by have : (2:Nat) ^ (63 + 1) = 18446744073709551616 := rfl; omega)
  have e : (18446744073709551615 - (9223372036854775808 : Int).toNat) = 2 ^ 64 - (2 ^ 63 + 1) := by decide
  rw [e, this]
  have e2 : (2 : Nat) ^ 63 = 9223372036854775808 := rfl
  rw [e2]; omega
def nan32 (b : Int) : Bool := decide (2139095040 < b % 2147483648)
def nan64 (b : Int) : Bool := decide (9218868437227405312 < b % 9223372036854775808)
def ClassP (nan : Bool) (w : World) (e : Ending) (w' : World) : Prop := ∃ c : Int, e = .returned (.tuple #[.int .i64 c, .int .i64 0]) ∧ (c == 5) = nan ∧ Below w.heap.size w w'
theorem cls_32 (b : Int) (h0 : 0 ≤ b) (h1 : b < 4294967296) (w : World) : Calls Tryz.prog 136 #[.int .i64 9, .int .u64 b] w (ClassP (nan32 b) w) := by
  refine (class_32 b h0 h1 w).mono ?_
  rintro e w' ⟨rfl, hb⟩
  refine ⟨_, rfl, ?_, hb⟩
  rw [strip_32 b h0 h1]
  unfold clsOf nan32
  have : 0 ≤ b % 2147483648 := by omega
  generalize b % 2147483648 = y at *
  by_cases c1 : y = 0
  · simp [c1]
  by_cases c2 : y < 8388608
  · simp [c1, c2]; omega
  by_cases c3 : y < 2139095040
  · simp [c1, c2, c3]; omega
  by_cases c4 : y = 2139095040
  · simp [c4]
  · simp [c1, c2, c3, c4]; omega
theorem cls_64 (b : Int) (h0 : 0 ≤ b) (h1 : b ≤ 18446744073709551615) (w : World) : Calls Tryz.prog 136 #[.int .i64 10, .int .u64 b] w (ClassP (nan64 b) w) := by
  refine (class_64 b w).mono ?_
  rintro e w' ⟨rfl, hb⟩
  refine ⟨_, rfl, ?_, hb⟩
  rw [strip_64 b h0 h1]
  unfold clsOf nan64
  have : 0 ≤ b % 9223372036854775808 := by omega
  generalize b % 9223372036854775808 = y at *
  by_cases c1 : y = 0
  · simp [c1]
  by_cases c2 : y < 4503599627370496
  · simp [c1, c2]; omega
  by_cases c3 : y < 9218868437227405312
  · simp [c1, c2, c3]; omega
  by_cases c4 : y = 9218868437227405312
  · simp [c4]
  · simp [c1, c2, c3, c4]; omega
theorem r3c_32 (b : Int) (h0 : 0 ≤ b) (h1 : b < 4294967296) (w : World) : Calls Tryz.prog 104 #[.int .i64 9, .int .u64 b] w (ClassP (nan32 b) w) := by
  refine (r3class_32 b h0 h1 w).mono ?_
  rintro e w' ⟨rfl, hb⟩
  refine ⟨_, rfl, ?_, hb⟩
  unfold r3cls nan32
  have : 0 ≤ b % 2147483648 ∧ b % 2147483648 < 2147483648 := by omega
  generalize b % 2147483648 = y at *
  by_cases c1 : y / 8388608 % 256 = 255 ∧ y % 8388608 = 0
  · rw [if_pos c1]; simp; omega
  rw [if_neg c1]
  by_cases c2 : y / 8388608 % 256 = 255
  · rw [if_pos c2]; simp; omega
  rw [if_neg c2]
  by_cases c3 : 0 < y / 8388608 % 256
  · rw [if_pos c3]; simp; omega
  rw [if_neg c3]
  by_cases c4 : 0 < y % 8388608
  · rw [if_pos c4]; simp; omega
  · rw [if_neg c4]; simp; omega
theorem r3c_64 (b : Int) (h0 : 0 ≤ b) (h1 : b ≤ 18446744073709551615) (w : World) : Calls Tryz.prog 104 #[.int .i64 10, .int .u64 b] w (ClassP (nan64 b) w) := by
  refine (r3class_64 b h0 h1 w).mono ?_
  rintro e w' ⟨rfl, hb⟩
  refine ⟨_, rfl, ?_, hb⟩
  unfold r3cls nan64
  have : 0 ≤ b % 9223372036854775808 ∧ b % 9223372036854775808 < 9223372036854775808 := by omega
  generalize b % 9223372036854775808 = y at *
  by_cases c1 : y / 4503599627370496 % 2048 = 2047 ∧ y % 4503599627370496 = 0
  · rw [if_pos c1]; simp; omega
  rw [if_neg c1]
  by_cases c2 : y / 4503599627370496 % 2048 = 2047
  · rw [if_pos c2]; simp; omega
  rw [if_neg c2]
  by_cases c3 : 0 < y / 4503599627370496 % 2048
  · rw [if_pos c3]; simp; omega
  rw [if_neg c3]
  by_cases c4 : 0 < y % 4503599627370496
  · rw [if_pos c4]; simp; omega
  · rw [if_neg c4]; simp; omega
def f32OK (b : Int) : Bool := decide (b < 4294967296) && (!nan32 b || b == 2143289344)
def f64OK (b : Int) : Bool := !nan64 b || b == 9221120237041090560
def bitsOK (k b : Int) : Bool :=
  if k = 9 then f32OK b else if k = 10 then f64OK b else if k = 11 then decide (b ≤ 1) else if k = 12 then decOK b else if k = 13 then dayOK b else if k = 14 then momOK b
  else if k = 15 ∨ k = 16 then false else decide (b ≤ maxOf (wbits k))
def fitsB (k s b : Int) : Bool := okType k s && bitsOK k b
end Go.Proofs.YtmhjjhaipcgbiaaGreat


namespace Go.Proofs.YtmhjjhaipcgbiaaGreat
open Go.RowKit
set_option linter.unusedVariables false
set_option linter.unusedSimpArgs false
set_option maxRecDepth 100000
set_option maxHeartbeats 1000000
theorem bne_of {a b : Int} (h : (a == b) = false) : (a != b) = true := by simpa [bne] using h
theorem cell_kept {w w1 : World} {cs : Array Value} {T : TypeId} (hb : Below (w.alloc (.cells cs T)).heap.size (w.alloc (.cells cs T)) w1) (j : Nat) : w1.cell? ⟨w.heap.size, j, none⟩ = cs[j]? :=
  (hb.cell (p := ⟨w.heap.size, j, none⟩) (by simp)).trans (cell_blk (heap_alloc_new w _))
theorem frozen_kept {w w1 : World} {cs : Array Value} {T : TypeId} (hb : Below (w.alloc (.cells cs T)).heap.size (w.alloc (.cells cs T)) w1) (j : Nat) : w1.frozen? ⟨w.heap.size, j, none⟩ = false :=
  (hb.frozen (p := ⟨w.heap.size, j, none⟩) (by simp)).trans (frozen_blk (heap_alloc_new w _))
def FitsP (r : Bool) (w : World) (e : Ending) (w' : World) : Prop := e = .returned (.bool r) ∧ Below w.heap.size w w'
theorem fits_no (k s b : Int) (w : World) (h : okType k s = false) : Calls Tryz.prog 74 #[.agg #[.int .i64 k, .int .i64 s], .int .u64 b] w (FitsP (fitsB k s b) w) := by
  have HOK := Aside.mk h
  have HF : Aside (fitsB k s b = false) := ⟨by simp [fitsB, h]⟩
  clear h
  go_enter Tryz.func74, Tryz.ntmps74
  go_wp2_with (go_at_call 70; refine (checkType_no _ _ _ HOK.out).mono ?_; rintro e w1 ⟨rfl, hb1⟩; have hB1 := Aside.mk ((below_new w _).trans (hb1.mono (by simp))))
  go_ret
  exact ⟨by rw [HF.out]; rfl, hB1.out⟩
theorem fits_yes (k s b : Int) (h0 : 0 ≤ b) (h1 : b ≤ 18446744073709551615) (w : World) (h : okType k s = true) : Calls Tryz.prog 74 #[.agg #[.int .i64 k, .int .i64 s], .int .u64 b] w (FitsP (fitsB k s b) w) := by
  have HOK := Aside.mk h
  have HF : Aside (fitsB k s b = bitsOK k b) := ⟨by simp [fitsB, h]⟩
  have hk : k = 1 ∨ k = 2 ∨ k = 3 ∨ k = 4 ∨ k = 5 ∨ k = 6 ∨ k = 7 ∨ k = 8 ∨ k = 9 ∨ k = 10 ∨ k = 11 ∨ k = 12 ∨ k = 13 ∨ k = 14 ∨ k = 15 ∨ k = 16 := by simp [okType] at h; omega
  clear h
  rcases hk with rfl | rfl | rfl | rfl | rfl | rfl | rfl | rfl | rfl | rfl | rfl | rfl | rfl | rfl | rfl | rfl
  · go_enter Tryz.func74, Tryz.ntmps74
    go_wp2_with (first | (go_at_call 70; refine (checkType_yes _ _ _ HOK.out).mono ?_; rintro e w1 ⟨rfl, hb1⟩; obtain ⟨hc, hf⟩ := bcell hb1; have hB1 := Aside.mk ((below_new w _).trans (hb1.mono (by simp))); have hz := hb1.size; simp only [World.size_alloc] at hz) | (go_at_call 141; refine (wholeFits_yes _ _ _ (by omega)).mono ?_; rintro e w2 ⟨rfl, hb2⟩; have hB2 := Aside.mk (hB1.out.trans (hb2.mono hB1.out.size))))
    go_ret
    exact ⟨by rw [HF.out]; rfl, hB2.out⟩
  · go_enter Tryz.func74, Tryz.ntmps74
    go_wp2_with (first | (go_at_call 70; refine (checkType_yes _ _ _ HOK.out).mono ?_; rintro e w1 ⟨rfl, hb1⟩; obtain ⟨hc, hf⟩ := bcell hb1; have hB1 := Aside.mk ((below_new w _).trans (hb1.mono (by simp))); have hz := hb1.size; simp only [World.size_alloc] at hz) | (go_at_call 141; refine (wholeFits_yes _ _ _ (by omega)).mono ?_; rintro e w2 ⟨rfl, hb2⟩; have hB2 := Aside.mk (hB1.out.trans (hb2.mono hB1.out.size))))
    go_ret
    exact ⟨by rw [HF.out]; rfl, hB2.out⟩
  · go_enter Tryz.func74, Tryz.ntmps74
    go_wp2_with (first | (go_at_call 70; refine (checkType_yes _ _ _ HOK.out).mono ?_; rintro e w1 ⟨rfl, hb1⟩; obtain ⟨hc, hf⟩ := bcell hb1; have hB1 := Aside.mk ((below_new w _).trans (hb1.mono (by simp))); have hz := hb1.size; simp only [World.size_alloc] at hz) | (go_at_call 141; refine (wholeFits_yes _ _ _ (by omega)).mono ?_; rintro e w2 ⟨rfl, hb2⟩; have hB2 := Aside.mk (hB1.out.trans (hb2.mono hB1.out.size))))
    go_ret
    exact ⟨by rw [HF.out]; rfl, hB2.out⟩
  · go_enter Tryz.func74, Tryz.ntmps74
    go_wp2_with (first | (go_at_call 70; refine (checkType_yes _ _ _ HOK.out).mono ?_; rintro e w1 ⟨rfl, hb1⟩; obtain ⟨hc, hf⟩ := bcell hb1; have hB1 := Aside.mk ((below_new w _).trans (hb1.mono (by simp))); have hz := hb1.size; simp only [World.size_alloc] at hz) | (go_at_call 141; refine (wholeFits_yes _ _ _ (by omega)).mono ?_; rintro e w2 ⟨rfl, hb2⟩; have hB2 := Aside.mk (hB1.out.trans (hb2.mono hB1.out.size))))
    go_ret
    exact ⟨by rw [HF.out]; rfl, hB2.out⟩
  · go_enter Tryz.func74, Tryz.ntmps74
    go_wp2_with (first | (go_at_call 70; refine (checkType_yes _ _ _ HOK.out).mono ?_; rintro e w1 ⟨rfl, hb1⟩; obtain ⟨hc, hf⟩ := bcell hb1; have hB1 := Aside.mk ((below_new w _).trans (hb1.mono (by simp))); have hz := hb1.size; simp only [World.size_alloc] at hz) | (go_at_call 141; refine (wholeFits_yes _ _ _ (by omega)).mono ?_; rintro e w2 ⟨rfl, hb2⟩; have hB2 := Aside.mk (hB1.out.trans (hb2.mono hB1.out.size))))
    go_ret
    exact ⟨by rw [HF.out]; rfl, hB2.out⟩
  · go_enter Tryz.func74, Tryz.ntmps74
    go_wp2_with (first | (go_at_call 70; refine (checkType_yes _ _ _ HOK.out).mono ?_; rintro e w1 ⟨rfl, hb1⟩; obtain ⟨hc, hf⟩ := bcell hb1; have hB1 := Aside.mk ((below_new w _).trans (hb1.mono (by simp))); have hz := hb1.size; simp only [World.size_alloc] at hz) | (go_at_call 141; refine (wholeFits_yes _ _ _ (by omega)).mono ?_; rintro e w2 ⟨rfl, hb2⟩; have hB2 := Aside.mk (hB1.out.trans (hb2.mono hB1.out.size))))
    go_ret
    exact ⟨by rw [HF.out]; rfl, hB2.out⟩
  · go_enter Tryz.func74, Tryz.ntmps74
    go_wp2_with (first | (go_at_call 70; refine (checkType_yes _ _ _ HOK.out).mono ?_; rintro e w1 ⟨rfl, hb1⟩; obtain ⟨hc, hf⟩ := bcell hb1; have hB1 := Aside.mk ((below_new w _).trans (hb1.mono (by simp))); have hz := hb1.size; simp only [World.size_alloc] at hz) | (go_at_call 141; refine (wholeFits_yes _ _ _ (by omega)).mono ?_; rintro e w2 ⟨rfl, hb2⟩; have hB2 := Aside.mk (hB1.out.trans (hb2.mono hB1.out.size))))
    go_ret
    exact ⟨by rw [HF.out]; rfl, hB2.out⟩
  · go_enter Tryz.func74, Tryz.ntmps74
    go_wp2_with (first | (go_at_call 70; refine (checkType_yes _ _ _ HOK.out).mono ?_; rintro e w1 ⟨rfl, hb1⟩; obtain ⟨hc, hf⟩ := bcell hb1; have hB1 := Aside.mk ((below_new w _).trans (hb1.mono (by simp))); have hz := hb1.size; simp only [World.size_alloc] at hz) | (go_at_call 141; refine (wholeFits_yes _ _ _ (by omega)).mono ?_; rintro e w2 ⟨rfl, hb2⟩; have hB2 := Aside.mk (hB1.out.trans (hb2.mono hB1.out.size))))
    go_ret
    exact ⟨by rw [HF.out]; rfl, hB2.out⟩
  · by_cases hlt : b < 4294967296
    case neg =>
      have HL : Aside (bitsOK 9 b = false) := ⟨by simp [bitsOK, f32OK, hlt]⟩
      have hge : 4294967296 ≤ b := by omega
      clear hlt
      go_enter Tryz.func74, Tryz.ntmps74
      go_wp2_with (first | (go_at_call 70; refine (checkType_yes _ _ _ HOK.out).mono ?_; rintro e w1 ⟨rfl, hb1⟩; obtain ⟨hc, hf⟩ := bcell hb1; have hB1 := Aside.mk ((below_new w _).trans (hb1.mono (by simp))); have hz := hb1.size; simp only [World.size_alloc] at hz) | (go_at_call 136; refine (class_32_no _ hge _).mono ?_; rintro e w2 ⟨rfl, hb2⟩; have c1 := cell_kept hb1 0; have c2 := (hb2.cell (p := ⟨w.heap.size, 0, none⟩) (by show w.heap.size < _; omega)).trans c1; have f2 := (hb2.frozen (p := ⟨w.heap.size, 0, none⟩) (by show w.heap.size < _; omega)).trans (frozen_kept hb1 0); simp at c1 c2; have hB2 := Aside.mk (hB1.out.trans (hb2.mono hB1.out.size)); have hz2 := hb2.size) | (go_at_call 137; refine (nan_32 _).mono ?_; rintro e w3 ⟨rfl, hb3⟩; have hB3 := Aside.mk (hB2.out.trans (hb3.mono hB2.out.size))))
      go_ret
      exact ⟨by rw [HF.out, HL.out]; rfl, hB3.out⟩
    have HL : Aside (bitsOK 9 b = (!nan32 b || b == 2143289344)) := ⟨by simp [bitsOK, f32OK, hlt]⟩
    cases hn : nan32 b
    all_goals
      cases he : (b == 2143289344)
      all_goals
        rw [hn, he] at HL
        have HN := Aside.mk hn
        clear hn
        go_enter Tryz.func74, Tryz.ntmps74
        go_wp2_with (first | (go_at_call 70; refine (checkType_yes _ _ _ HOK.out).mono ?_; rintro e w1 ⟨rfl, hb1⟩; obtain ⟨hc, hf⟩ := bcell hb1; have hB1 := Aside.mk ((below_new w _).trans (hb1.mono (by simp))); have hz := hb1.size; simp only [World.size_alloc] at hz) | (go_at_call 136; refine (cls_32 _ h0 hlt _).mono ?_; rw [HN.out]; rintro e w2 ⟨c, rfl, hc5, hb2⟩; (first | (obtain rfl := eq_of_beq hc5) | (have hc6 : (c != 5) = true := bne_of hc5; have hc7 : ¬ c = 5 := ne_of_beq_false hc5)); have c1 := cell_kept hb1 0; have c2 := (hb2.cell (p := ⟨w.heap.size, 0, none⟩) (by show w.heap.size < _; omega)).trans c1; have f2 := (hb2.frozen (p := ⟨w.heap.size, 0, none⟩) (by show w.heap.size < _; omega)).trans (frozen_kept hb1 0); simp at c1 c2; have hB2 := Aside.mk (hB1.out.trans (hb2.mono hB1.out.size)); have hz2 := hb2.size) | (go_at_call 137; refine (nan_32 _).mono ?_; rintro e w3 ⟨rfl, hb3⟩; have hB3 := Aside.mk (hB2.out.trans (hb3.mono hB2.out.size))))
        go_ret
        exact ⟨by rw [HF.out, HL.out]; rfl, hB3.out⟩
  · have HL : Aside (bitsOK 10 b = (!nan64 b || b == 9221120237041090560)) := ⟨by simp [bitsOK, f64OK]⟩
    cases hn : nan64 b
    all_goals
      cases he : (b == 9221120237041090560)
      all_goals
        rw [hn, he] at HL
        have HN := Aside.mk hn
        clear hn
        go_enter Tryz.func74, Tryz.ntmps74
        go_wp2_with (first | (go_at_call 70; refine (checkType_yes _ _ _ HOK.out).mono ?_; rintro e w1 ⟨rfl, hb1⟩; obtain ⟨hc, hf⟩ := bcell hb1; have hB1 := Aside.mk ((below_new w _).trans (hb1.mono (by simp))); have hz := hb1.size; simp only [World.size_alloc] at hz) | (go_at_call 136; refine (cls_64 _ h0 h1 _).mono ?_; rw [HN.out]; rintro e w2 ⟨c, rfl, hc5, hb2⟩; (first | (obtain rfl := eq_of_beq hc5) | (have hc6 : (c != 5) = true := bne_of hc5; have hc7 : ¬ c = 5 := ne_of_beq_false hc5)); have c1 := cell_kept hb1 0; have c2 := (hb2.cell (p := ⟨w.heap.size, 0, none⟩) (by show w.heap.size < _; omega)).trans c1; have f2 := (hb2.frozen (p := ⟨w.heap.size, 0, none⟩) (by show w.heap.size < _; omega)).trans (frozen_kept hb1 0); simp at c1 c2; have hB2 := Aside.mk (hB1.out.trans (hb2.mono hB1.out.size)); have hz2 := hb2.size) | (go_at_call 137; refine (nan_64 _).mono ?_; rintro e w3 ⟨rfl, hb3⟩; have hB3 := Aside.mk (hB2.out.trans (hb3.mono hB2.out.size))))
        go_ret
        exact ⟨by rw [HF.out, HL.out]; rfl, hB3.out⟩
  · go_enter Tryz.func74, Tryz.ntmps74
    go_wp2_with (first | (go_at_call 70; refine (checkType_yes _ _ _ HOK.out).mono ?_; rintro e w1 ⟨rfl, hb1⟩; obtain ⟨hc, hf⟩ := bcell hb1; have hB1 := Aside.mk ((below_new w _).trans (hb1.mono (by simp))); have hz := hb1.size; simp only [World.size_alloc] at hz))
    go_ret
    exact ⟨by rw [HF.out]; exact ret_bool (by simp [bitsOK]; omega), hB1.out⟩
  · cases hd : decOK b
    all_goals
      have HD := Aside.mk hd
      clear hd
      go_enter Tryz.func74, Tryz.ntmps74
      go_wp2_with (first | (go_at_call 70; refine (checkType_yes _ _ _ HOK.out).mono ?_; rintro e w1 ⟨rfl, hb1⟩; obtain ⟨hc, hf⟩ := bcell hb1; have hB1 := Aside.mk ((below_new w _).trans (hb1.mono (by simp))); have hz := hb1.size; simp only [World.size_alloc] at hz) | (go_at_call 138; refine (cmp_self _ h0 h1 _).mono ?_; unfold CmpP; rw [HD.out]; rintro e w2 ⟨v, rfl, rfl⟩))
      go_ret
      exact ⟨by rw [HF.out]; simp [bitsOK, HD.out], hB1.out⟩
  · cases hd : dayOK b
    all_goals
      have HD := Aside.mk hd
      clear hd
      go_enter Tryz.func74, Tryz.ntmps74
      go_wp2_with (first | (go_at_call 70; refine (checkType_yes _ _ _ HOK.out).mono ?_; rintro e w1 ⟨rfl, hb1⟩; obtain ⟨hc, hf⟩ := bcell hb1; have hB1 := Aside.mk ((below_new w _).trans (hb1.mono (by simp))); have hz := hb1.size; simp only [World.size_alloc] at hz) | (go_at_call 139; refine (printDay_any _ h0 h1 _).mono ?_; rw [HD.out]; rintro e w2 ⟨a2, n2, c2, xs, rfl, _, _, hb2⟩; have hB2 := Aside.mk (hB1.out.trans (hb2.mono hB1.out.size))))
      go_ret
      exact ⟨by rw [HF.out]; simp [bitsOK, HD.out], hB2.out⟩
  · cases hd : momOK b
    all_goals
      have HD := Aside.mk hd
      clear hd
      go_enter Tryz.func74, Tryz.ntmps74
      go_wp2_with (first | (go_at_call 70; refine (checkType_yes _ _ _ HOK.out).mono ?_; rintro e w1 ⟨rfl, hb1⟩; obtain ⟨hc, hf⟩ := bcell hb1; have hB1 := Aside.mk ((below_new w _).trans (hb1.mono (by simp))); have hz := hb1.size; simp only [World.size_alloc] at hz) | (go_at_call 140; refine (printMoment_any _ h0 h1 _).mono ?_; rw [HD.out]; rintro e w2 ⟨a2, n2, c2, xs, rfl, _, _, hb2⟩; have hB2 := Aside.mk (hB1.out.trans (hb2.mono hB1.out.size))))
      go_ret
      exact ⟨by rw [HF.out]; simp [bitsOK, HD.out], hB2.out⟩
  · go_enter Tryz.func74, Tryz.ntmps74
    go_wp2_with (first | (go_at_call 70; refine (checkType_yes _ _ _ HOK.out).mono ?_; rintro e w1 ⟨rfl, hb1⟩; obtain ⟨hc, hf⟩ := bcell hb1; have hB1 := Aside.mk ((below_new w _).trans (hb1.mono (by simp))); have hz := hb1.size; simp only [World.size_alloc] at hz))
    go_ret
    exact ⟨by rw [HF.out]; rfl, hB1.out⟩
  · go_enter Tryz.func74, Tryz.ntmps74
    go_wp2_with (first | (go_at_call 70; refine (checkType_yes _ _ _ HOK.out).mono ?_; rintro e w1 ⟨rfl, hb1⟩; obtain ⟨hc, hf⟩ := bcell hb1; have hB1 := Aside.mk ((below_new w _).trans (hb1.mono (by simp))); have hz := hb1.size; simp only [World.size_alloc] at hz))
    go_ret
    exact ⟨by rw [HF.out]; rfl, hB1.out⟩
end Go.Proofs.YtmhjjhaipcgbiaaGreat


namespace Go.Proofs.YtmhjjhaipcgbiaaGreat
open Go.RowKit Go.Maps
set_option linter.unusedVariables false
set_option linter.unusedSimpArgs false
set_option maxRecDepth 100000
set_option maxHeartbeats 1000000
def IsBytes (t : List Int) : Prop := ∀ x ∈ t, 0 ≤ x ∧ x < 256
theorem map_byte_inj : ∀ (a b : List Int), IsBytes a → IsBytes b → (a.map fun n => UInt8.ofNat n.toNat) = (b.map fun n => UInt8.ofNat n.toNat) → a = b
  | [], [], _, _, _ => rfl
  | [], _ :: _, _, _, h => by simp at h
  | _ :: _, [], _, _, h => by simp at h
  | x :: a, y :: b, ha, hb, h => by
    simp only [List.map_cons, List.cons.injEq] at h
    have hx := ha x (List.mem_cons_self ..)
    have hy := hb y (List.mem_cons_self ..)
    have e : x.toNat = y.toNat := by
      have := congrArg UInt8.toNat h.1
      simp only [UInt8.toNat_ofNat'] at this
      rw [Nat.mod_eq_of_lt (by omega), Nat.mod_eq_of_lt (by omega)] at this
      exact this
    rw [map_byte_inj a b (fun z hz => ha z (List.mem_cons_of_mem _ hz)) (fun z hz => hb z (List.mem_cons_of_mem _ hz)) h.2]
    congr 1
    omega
def wordKey (t : List Int) : Lit := .string (strOfNums t).data.toList
theorem wordKey_inj {a b : List Int} (ha : IsBytes a) (hb : IsBytes b) (h : wordKey a = wordKey b) : a = b := by
  simp only [wordKey, Lit.string.injEq, strOfNums_data] at h
  exact map_byte_inj a b ha hb h
theorem wordKey_key (t : List Int) (h : t.length ≤ maxLen) : keyOf Tryz.prog 9 (.string (strOfNums t)) = some (wordKey t) :=
  WideMaps.keyOf_string_mk Tryz.underlying9 (by rw [strOfNums_size]; exact h)
theorem wordKey_isKey (t : List Int) : WideAt.IsKeyLit (wordKey t) := trivial
def codesOK (D : DataW Unit) (ws : List (List Int)) : Prop :=
  (∀ t, IsBytes t → Maps.has D (wordKey t) = ws.contains t) ∧ ∀ (i : Nat) t, ws[i]? = some t → D.atKey (wordKey t) (.lit (.int .i64 0)) = .lit (.int .i64 (i : Int))
theorem codesOK_nil : codesOK (.map []) [] := ⟨fun t _ => by simp [Maps.has], fun i t h => by simp at h⟩
theorem codesOK_put {D : DataW Unit} {ws : List (List Int)} (h : codesOK D ws) (hm : IsMap D) (hb : ∀ t ∈ ws, IsBytes t) {t : List Int} (ht : IsBytes t) (hn : ws.contains t = false) :
    codesOK (D.put (wordKey t) (.lit (.int .i64 (ws.length : Int)))) (ws ++ [t]) := by
  constructor
  · intro u hu
    by_cases e : u = t
    · subst e
      rw [has_put_same hm (wordKey_isKey _)]
      simp
    · rw [has_put_other (fun e' => e (wordKey_inj hu ht e')), h.1 u hu]
      simp [e]
  · intro i u hi
    rcases Nat.lt_or_ge i ws.length with hl | hl
    · rw [List.getElem?_append_left hl] at hi
      have hu := List.mem_of_getElem? hi
      have e : u ≠ t := by
        rintro rfl
        simp at hn
        exact hn hu
      rw [atKey_put_other (fun e' => e (wordKey_inj (hb u hu) ht e')), h.2 i u hi]
    · rw [List.getElem?_append_right hl] at hi
      have h0 : i - ws.length = 0 := by
        have := (List.getElem?_eq_some_iff.1 hi).1
        simp at this
        omega
      rw [h0] at hi
      simp at hi
      subst hi
      rw [atKey_put_same hm (wordKey_isKey _)]
      congr 2
      omega
def codeOf (ws : List (List Int)) (t : List Int) : Nat := ws.idxOf t
def addWord (ws : List (List Int)) (t : List Int) : List (List Int) := if ws.contains t then ws else ws ++ [t]
theorem addWord_old {ws : List (List Int)} {t : List Int} (h : ws.contains t = true) : addWord ws t = ws := by rw [addWord, if_pos h]
theorem addWord_new {ws : List (List Int)} {t : List Int} (h : ws.contains t = false) : addWord ws t = ws ++ [t] := by rw [addWord, if_neg (by rw [h]; decide)]
theorem codeOf_new {ws : List (List Int)} {t : List Int} (h : ws.contains t = false) : codeOf ws t = ws.length := by
  simp at h
  exact List.idxOf_eq_length h
theorem codeOf_get {ws : List (List Int)} {t : List Int} (h : ws.contains t = true) : ws[codeOf ws t]? = some t := by
  simp at h
  have hl := List.idxOf_lt_length_iff.2 h
  rw [codeOf, List.getElem?_eq_getElem hl]
  simp
theorem codeOf_le (ws : List (List Int)) (t : List Int) : codeOf ws t ≤ ws.length := List.idxOf_le_length
theorem addWord_nodup {ws : List (List Int)} (h : ws.Nodup) (t : List Int) : (addWord ws t).Nodup := by
  unfold addWord
  split
  · exact h
  · rename_i hc
    simp at hc
    rw [List.nodup_append]
    exact ⟨h, by simp, fun a ha b hb => by simp at hb; subst hb; rintro rfl; exact hc ha⟩
theorem addWord_bytes {ws : List (List Int)} (h : ∀ t ∈ ws, IsBytes t) {t : List Int} (ht : IsBytes t) : ∀ u ∈ addWord ws t, IsBytes u := by
  unfold addWord
  split
  · exact h
  · intro u hu
    rcases List.mem_append.1 hu with e | e
    · exact h u e
    · simp at e; subst e; exact ht
theorem addWord_len (ws : List (List Int)) (t : List Int) : (addWord ws t).length ≤ ws.length + 1 := by
  unfold addWord
  split <;> simp
def WRows (w : World) (T : Nat → Prop) (vals : List Value) (ws : List (List Int)) : Prop :=
  vals.length = ws.length ∧ ∀ (i : Nat) t, ws[i]? = some t → ∃ v, vals[i]? = some v ∧ Own w 0 5 1 v t.length (t.map (.int .u8)) ∧ ∀ b, v.ownBlock = some b → T b
structure WLx (w : World) (T : Nat → Prop) (lw : Nat) (ws : List (List Int)) (wv : Value) (mb : Nat) (vals : List Value) (D : DataW Unit) : Prop where
  blk : w.heap[lw]? = some (.cells #[wv, .map (some mb)] 212 (0, 0))
  map : ∃ n, w.ownsMap Tryz.prog 9 (plainElem Tryz.prog 3) mb n D ∧ n ≤ ws.length
  codes : codesOK D ws
  row : Own w 0 43 1 wv ws.length vals
  words : WRows w T vals ws
  tl : T lw
  tm : T mb
  tw : ∀ b, wv.ownBlock = some b → T b
  nodup : ws.Nodup
  bytes : ∀ t ∈ ws, IsBytes t
def WL (w : World) (T : Nat → Prop) (lw : Nat) (ws : List (List Int)) : Prop := ∃ wv mb vals D, WLx w T lw ws wv mb vals D
theorem WRows.kept {w w' : World} {S T : Nat → Prop} {vals : List Value} {ws : List (List Int)} (h : WRows w T vals ws) (hk : Kept S w w') (hS : ∀ b, T b → b < w.heap.size → ¬ S b) : WRows w' T vals ws :=
  ⟨h.1, fun i t hi => by
    obtain ⟨v, h1, h2, h3⟩ := h.2 i t hi
    exact ⟨v, h1, h2.kept hk (fun k e => hS k (h3 k e) (h2.lt k e).2), h3⟩⟩
theorem WRows.mono {w : World} {T T' : Nat → Prop} {vals : List Value} {ws : List (List Int)} (h : WRows w T vals ws) (hT : ∀ b, T b → b < w.heap.size → T' b) : WRows w T' vals ws :=
  ⟨h.1, fun i t hi => by
    obtain ⟨v, h1, h2, h3⟩ := h.2 i t hi
    exact ⟨v, h1, h2, fun b e => hT b (h3 b e) (h2.lt b e).2⟩⟩
theorem WLx.kept {w w' : World} {S T : Nat → Prop} {lw : Nat} {ws : List (List Int)} {wv : Value} {mb : Nat} {vals : List Value} {D : DataW Unit} (h : WLx w T lw ws wv mb vals D) (hk : Kept S w w') (hS : ∀ b, T b → b < w.heap.size → ¬ S b) : WLx w' T lw ws wv mb vals D := by
  obtain ⟨n, hm, hn⟩ := h.map
  have hml : mb < w.heap.size := by obtain ⟨es, c, hb, _⟩ := hm; exact lt_of_blk hb
  refine ⟨(hk.block _ (lt_of_blk h.blk) (hS _ h.tl (lt_of_blk h.blk))).trans h.blk, ⟨n, ?_, hn⟩, h.codes, h.row.kept hk (fun k e => hS k (h.tw k e) (h.row.lt k e).2), h.words.kept hk hS, h.tl, h.tm, h.tw, h.nodup, h.bytes⟩
  obtain ⟨es, c, hb, r⟩ := hm
  exact ⟨es, c, (hk.block _ hml (hS _ h.tm hml)).trans hb, r⟩
theorem WLx.mono {w : World} {T T' : Nat → Prop} {lw : Nat} {ws : List (List Int)} {wv : Value} {mb : Nat} {vals : List Value} {D : DataW Unit} (h : WLx w T lw ws wv mb vals D) (hT : ∀ b, T b → b < w.heap.size → T' b) : WLx w T' lw ws wv mb vals D := by
  obtain ⟨n, hm, hn⟩ := h.map
  have hml : mb < w.heap.size := by obtain ⟨es, c, hb, _⟩ := hm; exact lt_of_blk hb
  exact ⟨h.blk, ⟨n, hm, hn⟩, h.codes, h.row, h.words.mono hT, hT _ h.tl (lt_of_blk h.blk), hT _ h.tm hml, fun b e => hT b (h.tw b e) (h.row.lt b e).2, h.nodup, h.bytes⟩
theorem WL.kept {w w' : World} {S T : Nat → Prop} {lw : Nat} {ws : List (List Int)} (h : WL w T lw ws) (hk : Kept S w w') (hS : ∀ b, T b → b < w.heap.size → ¬ S b) : WL w' T lw ws := by
  obtain ⟨wv, mb, vals, D, h⟩ := h
  exact ⟨wv, mb, vals, D, h.kept hk hS⟩
theorem WL.mono {w : World} {T T' : Nat → Prop} {lw : Nat} {ws : List (List Int)} (h : WL w T lw ws) (hT : ∀ b, T b → b < w.heap.size → T' b) : WL w T' lw ws := by
  obtain ⟨wv, mb, vals, D, h⟩ := h
  exact ⟨wv, mb, vals, D, h.mono hT⟩
theorem WL.below {w w' : World} {T : Nat → Prop} {lw : Nat} {ws : List (List Int)} (h : WL w T lw ws) (hb : Below w.heap.size w w') : WL w' T lw ws :=
  h.kept (Kept.of_below (S := fun _ => False) hb) (fun _ _ _ e => e)
theorem WL.nodup {w : World} {T : Nat → Prop} {lw : Nat} {ws : List (List Int)} (h : WL w T lw ws) : ws.Nodup := by
  obtain ⟨wv, mb, vals, D, h⟩ := h
  exact h.nodup
theorem WL.bytes {w : World} {T : Nat → Prop} {lw : Nat} {ws : List (List Int)} (h : WL w T lw ws) : ∀ t ∈ ws, IsBytes t := by
  obtain ⟨wv, mb, vals, D, h⟩ := h
  exact h.bytes
theorem wl_new (w : World) : WL ((w.alloc (.map #[] 0)).alloc (.cells #[.slice none 0 0, .map (some w.heap.size)] 212)) (fun b => w.heap.size ≤ b) (w.heap.size + 1) [] := by
  refine ⟨.slice none 0 0, w.heap.size, [], .map [], ?_, ⟨0, ?_, Nat.le_refl _⟩, codesOK_nil, Own.nil _ _ _ _, ⟨rfl, (fun i t h => by simp at h)⟩, by simp, Nat.le_refl _, (fun b e => by cases e), List.nodup_nil, (fun t h => by cases h)⟩
  · have := heap_alloc_new (w.alloc (.map #[] 0)) (.cells #[.slice none 0 0, .map (some w.heap.size)] 212)
    simpa using this
  · exact (World.ownsMap_made w Tryz.prog 9 _).alloc _
end Go.Proofs.YtmhjjhaipcgbiaaGreat
