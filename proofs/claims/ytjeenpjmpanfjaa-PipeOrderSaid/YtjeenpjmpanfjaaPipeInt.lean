/- The calls of pipe.Pipe[int] and of wakes, and the walk of PipeOrder: it returns true and leaves what was there as it was; for every most and every turns. -/
import Derived.Test.YtjeenpjmpanfjaaRows
import Derived.WalkKit
import Derived.OwnWalk
import Derived.RegionTactic
import Derived.Deep.QuietTactic
import Derived.BigQuiet
import Derived.WalkLawsBesides
import Derived.WalkSpells
import Derived.Laws.BitsLemmas
namespace Go.Proofs.Ytjeenpjmpanfjaa
open Go.RowKit

theorem num_any (x : Int) (w : World) : Calls Try.prog 7 #[.int .i64 x] w fun e w' => e = .returned (.int .i64 x) ∧ w = w' := by
  go_enter Try.func7, Try.ntmps7
  go_wp2
  go_ret
  exact ⟨rfl, rfl⟩

/-- An owned pipe: block b. -/
structure IsPipe (w : World) (T E : TypeId) (b : Nat) (most : Int) (xs : List Value) (closed : Bool) (sv : Value) : Prop where
  blk : w.heap[b]? = some (.cells #[.int .i64 most, sv, .bool closed] T (0, 0))
  own : w.ownsRow (b + 1) E 1 sv xs.length xs

set_option maxHeartbeats 400000 in
theorem new_ok (m : Int) (w : World) (h1 : 1 ≤ m) (h2 : m ≤ 64) : Calls Try.prog 6 #[.int .i64 m] w fun e w' =>
    e = .returned (.tuple #[.pointer (some ⟨w.heap.size, 0, none⟩), .int .i64 0]) ∧ w' = w.alloc (.cells #[.int .i64 m, .slice none 0 0, .bool false] 52) := by
  go_enter Try.func6, Try.ntmps6
  go_wp2
  go_ret2
  exact ⟨rfl, rfl⟩

set_option maxHeartbeats 400000 in
theorem new_no (m : Int) (w : World) (h1 : m < 1 ∨ 64 < m) : Calls Try.prog 6 #[.int .i64 m] w fun e w' =>
    e = .returned (.tuple #[.pointer none, .int .i64 260]) ∧ w' = w := by
  rcases h1 with h1 | h1
  · go_enter Try.func6, Try.ntmps6
    go_wp2
    go_ret2
    exact ⟨rfl, rfl⟩
  · have h2 : ¬ m < 1 := by omega
    go_enter Try.func6, Try.ntmps6
    go_wp2
    go_ret2
    exact ⟨rfl, rfl⟩


/-- A fact that the walk does not look into. -/
structure Aside (p : Prop) : Prop where mk :: (out : p)

theorem Try.info3 : (Try.prog.info? 3).map (fun i => (i.zero, i.size, i.bytes)) = some (some (.int .i64 0), 1, 8) := by kernel_rfl

theorem IsPipe.cells {w : World} {T E : TypeId} {b : Nat} {most : Int} {xs : List Value} {closed : Bool} {sv : Value} (h : IsPipe w T E b most xs closed sv) :
    w.cell? ⟨b, 0, none⟩ = some (.int .i64 most) ∧ w.cell? ⟨b, 1, none⟩ = some sv ∧ w.cell? ⟨b, 2, none⟩ = some (.bool closed) ∧
    w.frozen? ⟨b, 0, none⟩ = false ∧ w.frozen? ⟨b, 1, none⟩ = false ∧ w.frozen? ⟨b, 2, none⟩ = false := by
  simp [World.cell?, World.frozen?, h.blk]

theorem send_closed (b : Nat) (most v : Int) (xs : List Value) (sv : Value) (w : World) (h : IsPipe w 52 3 b most xs true sv) :
    Calls Try.prog 9 #[.pointer (some ⟨b, 0, none⟩), .int .i64 v] w fun e w' => e = .returned (.int .i64 263) ∧ w = w' := by
  obtain ⟨c0, c1, c2, f0, f1, f2⟩ := h.cells
  clear h
  go_enter Try.func9, Try.ntmps9
  go_wp2
  go_ret
  exact ⟨rfl, rfl⟩

set_option maxHeartbeats 400000 in
theorem send_full (b : Nat) (most v : Int) (xs : List Value) (sv : Value) (w : World) (h : IsPipe w 52 3 b most xs false sv) (hl : (xs.length : Int) = most) :
    Calls Try.prog 9 #[.pointer (some ⟨b, 0, none⟩), .int .i64 v] w fun e w' => e = .returned (.int .i64 261) ∧ ∃ n, w' = w.drewN n := by
  obtain ⟨c0, c1, c2, f0, f1, f2⟩ := h.cells
  obtain ⟨a, cap, rfl⟩ : ∃ a cap, sv = .slice a xs.length cap := by
    rcases h.own.2 with ⟨h1, h2⟩ | ⟨g, cap, cur, h1, _⟩
    · exact ⟨none, 0, by rw [h1, h2]⟩
    · exact ⟨_, _, h1⟩
  clear h
  subst hl
  go_enter Try.func9, Try.ntmps9
  go_wp2
  go_quiet (fail)
  go_wp2
  go_ret
  exact ⟨rfl, _, rfl⟩


theorem heap_setCell_at {w : World} {b k : Nat} {cs : Array Value} {T : TypeId} {fr : Nat × Nat} (h : w.heap[b]? = some (.cells cs T fr)) (v : Value) :
    (w.setCell ⟨b, k, none⟩ v).heap[b]? = some (.cells (cs.setIfInBounds k v) T fr) := by
  simp [World.setCell, Array.getElem?_modify, h]

theorem cell_one_new (w : World) (x : Value) (E : TypeId) : ∀ (j : Nat) (u : Value), [x][j]? = some u → (w.alloc (.cells #[x] E)).cell? ((⟨w.heap.size, 0, none⟩ : Addr).add j) = some u := by
  intro j u hj
  match j, hj with
  | 0, hj => simp at hj; subst hj; simp [Addr.add]

theorem ownsRow_succ {w : World} {base : Nat} {e : TypeId} {size : Nat} {v : Value} {n : Nat} {xs : List Value} (h : w.ownsRow base e size v (n + 1) xs) : ∃ g cap, v = .slice (some ⟨g, 0, none⟩) (n + 1) cap ∧ base ≤ g := by
  rcases h.2 with ⟨_, h⟩ | ⟨g, cap, cur, h, hb, _⟩
  · omega
  · exact ⟨g, cap, h, hb⟩

/-- Behind the append of Send. -/
theorem pipe_grown {w w1 w2 : World} {T E : TypeId} {b : Nat} {most : Int} {closed : Bool} {sv sv' : Value} {ys : List Value} (hblk : w.heap[b]? = some (.cells #[.int .i64 most, sv, .bool closed] T (0, 0)))
    (hbel : Below (b + 1) w w1) (hown : w1.ownsRow (b + 1) E 1 sv' ys.length ys) (h2 : w2 = w1.setCell ⟨b, 1, none⟩ sv') :
    IsPipe w2 T E b most ys closed sv' ∧ Below b w w2 := by
  subst h2
  have hb1 : w1.heap[b]? = some (.cells #[.int .i64 most, sv, .bool closed] T (0, 0)) := (hbel.block b (by omega)).trans hblk
  refine ⟨⟨?_, ownsRow_setCell_below hown (by simp) _⟩, (hbel.mono (by omega)).setCell (by simp) _⟩
  rw [heap_setCell_at hb1]; rfl

set_option maxHeartbeats 400000 in
theorem send_room (b : Nat) (most v : Int) (xs : List Value) (sv : Value) (w : World) (h : IsPipe w 52 3 b most xs false sv) (hl : (xs.length : Int) < most) (hm : most ≤ 64) :
    Calls Try.prog 9 #[.pointer (some ⟨b, 0, none⟩), .int .i64 v] w fun e w' => e = .returned (.int .i64 0) ∧ (∃ sv', IsPipe w' 52 3 b most (xs ++ [.int .i64 v]) false sv') ∧ Below b w w' := by
  obtain ⟨c0, c1, c2, f0, f1, f2⟩ := h.cells
  have hown := h.own
  have hblk := h.blk
  have hbs : b < w.heap.size := (Array.getElem?_eq_some_iff.1 hblk).1
  obtain ⟨a, cap, rfl⟩ : ∃ a cap, sv = .slice a xs.length cap := by
    rcases h.own.2 with ⟨h1, h2⟩ | ⟨g, cap, cur, h1, _⟩
    · exact ⟨none, 0, by rw [h1, h2]⟩
    · exact ⟨_, _, h1⟩
  clear h
  have ht : ((xs.length : Int) == most) = false := by simp; omega
  obtain ⟨i0, hi, hz0, hz1, hz2⟩ := info_parts Try.info3
  have Hb := hblk
  have HB : Hid (w.heap[b]? = some (.cells #[.int .i64 most, .slice a xs.length cap, .bool false] 52 (0, 0))) := hblk
  clear hblk Hb
  go_enter Try.func9, Try.ntmps9
  go_wp2
  go_quiet (fail)
  go_wp2_with (at_builtin; refine wpList_append_own _ rfl _ _ 22 rfl (b + 1) 3 i0 (.int .i64 0) 1 8 Try.underlying22 hi hz0 hz1 hz2 rfl (by decide) _ _ _ rfl ((show (w.drewN nq).ownsRow _ _ _ _ _ _ from hown).alloc _) ⟨w.heap.size, 0, none⟩ 1 1 [.int .i64 v] rfl rfl (cell_one_new _ _ _) (by simp [Value.oneCell']) (by unfold maxLen; omega) (by omega) (by simp; omega) ?_)
  intro v' w1 hown' hgrow _
  obtain ⟨g, cap', rfl, hg⟩ := ownsRow_succ hown'
  have hbel : Below (b + 1) w w1 := by
    have h1 : Below (b + 1) w (w.drewN nq) := ⟨rfl, rfl, rfl, Nat.le_refl _, fun _ _ => rfl⟩
    refine (h1.alloc (by simp; omega) _).grown hgrow (by simp; omega) ?_
    intro k hk
    exact ((show (w.drewN nq).ownsRow _ _ _ _ _ _ from hown).lt k hk).1
  have k1 := (hbel.cell (p := ⟨b, 1, none⟩) (by simp)).trans c1
  have e1 := (hbel.frozen (p := ⟨b, 1, none⟩) (by simp)).trans f1
  clear hgrow
  go_wp2
  go_ret
  have hl : (xs ++ [Value.int .i64 v]).length = xs.length + 1 := by simp
  have := pipe_grown HB.out hbel (by rw [hl]; exact hown') rfl
  exact ⟨rfl, ⟨_, this.1⟩, this.2⟩


theorem len_any (b : Nat) (most : Int) (xs : List Value) (closed : Bool) (sv : Value) (w : World) (h : IsPipe w 52 3 b most xs closed sv) :
    Calls Try.prog 11 #[.pointer (some ⟨b, 0, none⟩)] w fun e w' => e = .returned (.int .i64 xs.length) ∧ w = w' := by
  obtain ⟨c0, c1, c2, f0, f1, f2⟩ := h.cells
  obtain ⟨a, cap, rfl⟩ : ∃ a cap, sv = .slice a xs.length cap := by
    rcases h.own.2 with ⟨h1, h2⟩ | ⟨g, cap, cur, h1, _⟩
    · exact ⟨none, 0, by rw [h1, h2]⟩
    · exact ⟨_, _, h1⟩
  clear h
  go_enter Try.func11, Try.ntmps11
  go_wp2
  go_ret
  exact ⟨rfl, rfl⟩

theorem close_any (b : Nat) (most : Int) (xs : List Value) (closed : Bool) (sv : Value) (w : World) (h : IsPipe w 52 3 b most xs closed sv) :
    Calls Try.prog 12 #[.pointer (some ⟨b, 0, none⟩)] w fun e w' => e = .returned (.int .i64 (if closed then 263 else 0)) ∧ (∃ sv', IsPipe w' 52 3 b most xs true sv') ∧ Below b w w' := by
  obtain ⟨c0, c1, c2, f0, f1, f2⟩ := h.cells
  cases closed with
  | true =>
    go_enter Try.func12, Try.ntmps12
    go_wp2
    go_ret
    exact ⟨rfl, ⟨_, ‹_›⟩, Below.refl _ _⟩
  | false =>
    have H := Aside.mk h
    clear h
    go_enter Try.func12, Try.ntmps12
    go_wp2
    go_ret
    exact ⟨rfl, ⟨_, ⟨(heap_setCell_at H.out.blk _).trans rfl, ownsRow_setCell_below H.out.own (by simp) _⟩⟩, (Below.refl _ _).setCell (by simp) _⟩

theorem recv_empty (b : Nat) (most : Int) (closed : Bool) (sv : Value) (w : World) (h : IsPipe w 52 3 b most [] closed sv) :
    Calls Try.prog 10 #[.pointer (some ⟨b, 0, none⟩)] w fun e w' => e = .returned (.tuple #[.int .i64 0, .int .i64 (if closed then 263 else 262)]) ∧ w = w' := by
  obtain ⟨c0, c1, c2, f0, f1, f2⟩ := h.cells
  obtain ⟨a, cap, rfl⟩ : ∃ a cap, sv = .slice a 0 cap := by
    rcases h.own.2 with ⟨h1, h2⟩ | ⟨g, cap, cur, h1, _⟩
    · exact ⟨none, 0, by rw [h1]⟩
    · exact ⟨_, _, h1⟩
  clear h
  cases closed <;>
  · go_enter Try.func10, Try.ntmps10
    go_wp2
    go_ret2
    exact ⟨rfl, rfl⟩


theorem ownsRow_shape {w : World} {base : Nat} {e : TypeId} {size : Nat} {v : Value} {n : Nat} {xs : List Value} (h : w.ownsRow base e size v n xs) : ∃ a c, v = .slice a n c := by
  rcases h.2 with ⟨h1, h2⟩ | ⟨g, cap, cur, h1, _⟩
  · exact ⟨none, 0, by rw [h1, h2]⟩
  · exact ⟨_, _, h1⟩

theorem addr_add (g k j : Nat) : (⟨g, k, none⟩ : Addr).add j = ⟨g, k + j, none⟩ := by unfold Addr.add; split <;> simp_all

set_option maxHeartbeats 400000 in
theorem recv_some (b : Nat) (most x : Int) (xs : List Value) (closed : Bool) (sv : Value) (w : World) (h : IsPipe w 52 3 b most (.int .i64 x :: xs) closed sv) (hm : xs.length < 64) (hx1 : ∀ u ∈ xs, u.oneCell' = true) :
    Calls Try.prog 10 #[.pointer (some ⟨b, 0, none⟩)] w fun e w' => e = .returned (.tuple #[.int .i64 x, .int .i64 0]) ∧ (∃ sv', IsPipe w' 52 3 b most xs closed sv') ∧ Below b w w' := by
  obtain ⟨c0, c1, c2, f0, f1, f2⟩ := h.cells
  have hown := h.own
  have hblk := h.blk
  have hbs : b < w.heap.size := (Array.getElem?_eq_some_iff.1 hblk).1
  obtain ⟨g, cap, rfl, hg⟩ := ownsRow_succ hown
  have hcap : xs.length + 1 ≤ cap ∧ cap ≤ 9223372036854775807 := by
    rcases hown.2 with ⟨_, h⟩ | ⟨g', cap', cur, h, _, _, h1, h2, _⟩
    · simp at h
    · simp only [Value.slice.injEq] at h; unfold maxLen at h2; simp at h1; omega
  have hcells : ∀ j u, (Value.int .i64 x :: xs)[j]? = some u → w.cell? ⟨g, j, none⟩ = some u := by
    intro j u hj
    have := hown.cells (g := g) rfl j u hj
    rwa [addr_add, Nat.zero_add] at this
  have d0 := hcells 0 _ rfl
  obtain ⟨i0, hi, hz0, hz1, hz2⟩ := info_parts Try.info3
  have HB := Aside.mk hblk
  have HO := Aside.mk hown
  have HC := Aside.mk hcells
  clear h hblk hown hcells
  have fin : ∀ w1 v' w2, w1.ownsRow (b + 1) 3 1 v' xs.length xs → w.grownBy w1 none → w2 = w1.setCell ⟨b, 1, none⟩ v' → (∃ sv', IsPipe w2 52 3 b most xs closed sv') ∧ Below b w w2 := by
    intro w1 v' w2 ho hg h2
    have hbel : Below (b + 1) w w1 := (Below.refl (b + 1) w).grown hg (by omega) (by simp)
    have := pipe_grown HB.out hbel ho h2
    exact ⟨⟨_, this.1⟩, this.2⟩
  have FIN := Aside.mk fin
  clear fin
  by_cases h1 : cap = 1
  · subst h1
    obtain rfl : xs = [] := List.length_eq_zero_iff.1 (by omega)
    go_enter Try.func10, Try.ntmps10
    go_wp2_with (at_builtin; refine wpList_append_own _ rfl _ _ 22 rfl (b + 1) 3 i0 (.int .i64 0) 1 8 Try.underlying22 hi hz0 hz1 hz2 rfl (by decide) _ _ _ rfl (World.ownsRow_nil _ _ _ _) _ 0 0 [] rfl (by simp) (by simp) hx1 (by unfold maxLen; omega) (by omega) (by omega) ?_)
    intro v' w1 hown' hgrow hn
    obtain rfl : v' = .slice none 0 0 := by simpa using hn
    have k1 := hgrow.cell c1 (by simp [Value.ownBlock])
    have e1 := (World.frozen?_of_block (hgrow.block b hbs (by simp [Value.ownBlock]))).trans f1
    have R := Aside.mk (FIN.out w1 _ _ hown' hgrow rfl)
    clear hgrow
    go_wp2
    go_ret2
    exact ⟨rfl, R.out⟩
  · have h2 : ¬ cap = 1 := h1
    go_enter Try.func10, Try.ntmps10
    go_wp2_with (at_builtin; refine wpList_append_own _ rfl _ _ 22 rfl (b + 1) 3 i0 (.int .i64 0) 1 8 Try.underlying22 hi hz0 hz1 hz2 rfl (by decide) _ _ _ rfl (World.ownsRow_nil _ _ _ _) ⟨g, 1, none⟩ xs.length (cap - 1) xs rfl (by simp) ?c1 hx1 (by unfold maxLen; omega) (by omega) (by omega) ?_)
    case c1 => intro j u hj; rw [addr_add]; exact HC.out (1 + j) u (by rw [Nat.add_comm]; exact hj)
    intro v' w1 hown' hgrow hn
    obtain ⟨a', c', rfl⟩ := ownsRow_shape hown'
    have k1 := hgrow.cell c1 (by simp [Value.ownBlock])
    have e1 := (World.frozen?_of_block (hgrow.block b hbs (by simp [Value.ownBlock]))).trans f1
    have R := Aside.mk (FIN.out w1 _ _ hown' hgrow rfl)
    clear hgrow hn
    go_wp2
    go_ret2
    exact ⟨rfl, R.out⟩


theorem isPipe_new (w : World) (m : Int) (T E : TypeId) : IsPipe (w.alloc (.cells #[.int .i64 m, .slice none 0 0, .bool false] T)) T E w.heap.size m [] false (.slice none 0 0) :=
  ⟨heap_alloc_new w _, World.ownsRow_nil _ _ _ _⟩

theorem below_drewN (w : World) (B n : Nat) : Below B w (w.drewN n) := ⟨rfl, rfl, rfl, Nat.le_refl _, fun _ _ => rfl⟩

theorem IsPipe.drewN {w : World} {T E : TypeId} {b : Nat} {most : Int} {xs : List Value} {closed : Bool} {sv : Value} (h : IsPipe w T E b most xs closed sv) (n : Nat) : IsPipe (w.drewN n) T E b most xs closed sv := ⟨h.blk, h.own⟩

set_option maxHeartbeats 400000 in
theorem wakes_any (w : World) : Calls Try.prog 8 #[] w fun e w' => e = .returned (.bool true) ∧ Below w.heap.size w w' := by
  go_enter Try.func8, Try.ntmps8
  go_wp2_with fail
  refine (new_ok 1 _ (by decide) (by decide)).mono ?_
  rintro e w1 ⟨rfl, rfl⟩
  have H0 := Aside.mk (isPipe_new w 1 52 3)
  have B0 := Aside.mk ((Below.refl w.heap.size w).alloc (Nat.le_refl _) (.cells #[.int .i64 1, .slice none 0 0, .bool false] 52))
  generalize w.alloc (.cells #[.int .i64 1, .slice none 0 0, .bool false] 52) = w1 at *
  generalize hb : w.heap.size = b at *
  have HB := Aside.mk hb
  clear hb
  go_wp2_with (go_at_call 7; refine (num_any _ _).mono ?_; rintro e w' ⟨rfl, rfl⟩)
  refine (send_room b 1 7 [] _ _ H0.out (by simp) (by simp)).mono ?_
  rintro e w2 ⟨rfl, ⟨sv2, h2⟩, hb2⟩
  have H2 := Aside.mk h2
  have B2 := Aside.mk (B0.out.trans hb2)
  clear h2 hb2
  go_wp2_with fail
  refine (send_full b 1 8 _ _ _ H2.out (by simp)).mono ?_
  rintro e w3 ⟨rfl, n3, rfl⟩
  go_wp2_with fail
  refine (recv_some b 1 7 [] false sv2 _ (H2.out.drewN n3) (by simp) (by simp)).mono ?_
  rintro e w4 ⟨rfl, ⟨sv4, h4⟩, hb4⟩
  have B4 := Aside.mk ((B2.out.trans (below_drewN _ _ _)).trans hb4)
  clear h4 hb4
  go_wp2_with (go_at_call 7; refine (num_any _ _).mono ?_; rintro e w' ⟨rfl, rfl⟩)
  go_ret
  exact ⟨rfl, by rw [HB.out]; exact B4.out⟩


def IsRow (k : IntKind) (w : World) (a : Option Addr) (len cap : Nat) (zs : List Int) : Prop :=
  (a = none ∧ len = 0 ∧ cap = 0 ∧ zs = []) ∨
  ∃ x, a = some x ∧ len ≤ cap ∧ cap ≤ maxLen ∧ zs.length = cap ∧ (∀ i, i < zs.length → w.cell? (x.add i) = some (.int k (zs.getD i 0))) ∧ ∀ n ∈ zs, (Lit.int k n).wf = true

theorem IsRow.at {k : IntKind} {w : World} {a : Option Addr} {len cap : Nat} {zs : List Int} (h : IsRow k w a len cap zs) (i : Nat) (hi : i < len) :
    ∃ b off z, a = some ⟨b, off, none⟩ ∧ w.cell? ⟨b, off + i, none⟩ = some (.int k z) ∧ (Lit.int k z).wf = true := by
  rcases h with ⟨_, h, _⟩ | ⟨⟨xb, xo, xs⟩, h0, h1, h2, h3, h4, h5⟩
  · omega
  · have h6 := h4 0 (by omega)
    obtain rfl : xs = none := by simpa [Addr.add] using World.cell?_spot h6
    have h7 := h4 i (by omega)
    rw [addr_add] at h7
    refine ⟨xb, xo, _, h0, h7, h5 _ ?_⟩
    rw [List.getD_eq_getElem?_getD, List.getElem?_eq_getElem (by omega)]
    exact List.getElem_mem _

theorem i64_and63 (n : Int) : bits .and .i64 n 63 = n % 64 := by
  have h127 : (BitVec.ofInt 64 63).toNat = 2 ^ 6 - 1 := by decide
  have key : (BitVec.ofInt 64 n &&& BitVec.ofInt 64 63).toNat = (n % ((2 ^ 64 : Nat) : Int)).toNat % 2 ^ 6 := by
    rw [BitVec.toNat_and, BitVec.toNat_ofInt, h127, Nat.and_two_pow_sub_one_eq_mod]
  show IntKind.i64.wrap ((BitVec.ofInt 64 n &&& BitVec.ofInt 64 63).toNat : Nat) = n % 64
  rw [key, IntKind.wrap_i64]
  omega

theorem one_and63 (m : Int) : 1 ≤ wrap64 (1 + bits .and .i64 m 63) ∧ wrap64 (1 + bits .and .i64 m 63) ≤ 64 := by
  rw [i64_and63]; unfold wrap64; omega

theorem close_open (b : Nat) (most : Int) (xs : List Value) (sv : Value) (w : World) (h : IsPipe w 52 3 b most xs false sv) :
    Calls Try.prog 12 #[.pointer (some ⟨b, 0, none⟩)] w fun e w' => e = .returned (.int .i64 0) ∧ (∃ sv', IsPipe w' 52 3 b most xs true sv') ∧ Below b w w' := by
  simpa using close_any b most xs false sv w h
theorem recv_open (b : Nat) (most : Int) (sv : Value) (w : World) (h : IsPipe w 52 3 b most [] false sv) :
    Calls Try.prog 10 #[.pointer (some ⟨b, 0, none⟩)] w fun e w' => e = .returned (.tuple #[.int .i64 0, .int .i64 262]) ∧ w = w' := by
  simpa using recv_empty b most false sv w h
theorem recv_closed (b : Nat) (most : Int) (sv : Value) (w : World) (h : IsPipe w 52 3 b most [] true sv) :
    Calls Try.prog 10 #[.pointer (some ⟨b, 0, none⟩)] w fun e w' => e = .returned (.tuple #[.int .i64 0, .int .i64 263]) ∧ w = w' := by
  simpa using recv_empty b most true sv w h

def prow (o n : Nat) : List Value := (List.range n).map (fun k => Value.int .i64 (((o + k : Nat) : Int) + 5))

theorem prow_length (o n : Nat) : (prow o n).length = n := by simp [prow]
theorem prow_snoc (o n : Nat) : prow o n ++ [.int .i64 (((o + n : Nat) : Int) + 5)] = prow o (n + 1) := by simp [prow, List.range_succ]
theorem prow_cons (o n : Nat) : prow o (n + 1) = .int .i64 ((o : Int) + 5) :: prow (o + 1) n := by
  simp [prow, List.range_succ_eq_map, Function.comp_def]
  intro a _; omega
theorem prow_one (o n : Nat) : ∀ u ∈ prow o n, u.oneCell' = true := by
  intro u hu; simp [prow] at hu; obtain ⟨a, _, rfl⟩ := hu; rfl

set_option maxRecDepth 100000 in
set_option maxHeartbeats 2000000 in
theorem pipeOrder_walk (m : Int) (a1 : Option Addr) (len1 cap1 : Nat) (z1 : List Int) (w : World) (w1 : IsRow .i64 w a1 len1 cap1 z1) :
    Calls Try.prog 3 #[.int .i64 m, .slice a1 len1 cap1] w fun e w' => e = .returned (.bool true) ∧ Below w.heap.size w w' := by
  have hlen : len1 ≤ 9223372036854775807 := by
    rcases w1 with ⟨_, h, _⟩ | ⟨x, _, h1, h2, _⟩
    · omega
    · unfold maxLen at h2; omega
  have W1 := Aside.mk w1
  clear w1
  go_enter Try.func3, Try.ntmps3
  go_wp2_with fail
  have hM := one_and63 m
  generalize (wrap64 (1 + bits BinOp.and IntKind.i64 m 63)) = M at *
  obtain ⟨hM1, hM2⟩ := hM
  refine (new_ok M _ hM1 hM2).mono ?_
  rintro e w2 ⟨rfl, rfl⟩
  have H0 := Aside.mk (isPipe_new w M 52 3)
  have B0 := Aside.mk ((Below.refl w.heap.size w).alloc (Nat.le_refl _) (.cells #[.int .i64 M, .slice none 0 0, .bool false] 52))
  generalize w.alloc (.cells #[.int .i64 M, .slice none 0 0, .bool false] 52) = w2 at *
  go_wp2_with (go_at_call 7; refine (num_any _ _).mono ?_; rintro e w' ⟨rfl, rfl⟩)
  refine (wakes_any _).mono ?_
  rintro e w3 ⟨rfl, hb3⟩
  have HP := Aside.mk (show ∃ sv, IsPipe w3 52 3 w.heap.size M (prow 0 0) false sv from by
    have hP := H0.out
    refine ⟨.slice none 0 0, ⟨(hb3.block _ (Array.getElem?_eq_some_iff.1 hP.blk).1).trans hP.blk, World.ownsRow_nil _ _ _ _⟩⟩)
  have B3 := Aside.mk (show Below w.heap.size w w3 from B0.out.trans (hb3.mono B0.out.size))
  clear H0 B0 hb3
  go_wp2_with fail
  go_loopw [7, 8, 9] (fun vi vo ii wr => ∃ (i o n : Nat), i ≤ len1 ∧ i ≤ 600 ∧ (n : Int) ≤ M ∧ o + n ≤ i ∧ vi = .int .i64 ((o + n : Nat) : Int) ∧ vo = .int .i64 (o : Int) ∧ ii = .int .i64 (i : Int) ∧
      Aside (∃ sv, IsPipe wr 52 3 w.heap.size M (prow o n) false sv) ∧ Aside (Below w.heap.size w wr)) (fun _ _ ii _ => 600 - (intOf ii).toNat)
  case atStart => exact ⟨0, 0, 0, by omega, by omega, by omega, by omega, rfl, rfl, rfl, HP, B3⟩
  case round =>
    obtain ⟨i, o, n, hi1, hi2, hn, hon, rfl, rfl, rfl, HP, HB⟩ := hrel
    clear B3
    by_cases hlt : i < len1 ∧ i < 600
    · obtain ⟨hlt, hlt2⟩ := hlt
      have hcell : ∃ b off z, a1 = some ⟨b, off, none⟩ ∧ wr.cell? ⟨b, off + i, none⟩ = some (.int .i64 z) := by
        obtain ⟨b, off, z, h1, h2, _⟩ := W1.out.at i hlt
        exact ⟨b, off, z, h1, (HB.out.cell (p := ⟨b, off + i, none⟩) (World.block_lt_of_cell? _ _ h2)).trans h2⟩
      obtain ⟨b, off, z, rfl, hcell⟩ := hcell
      go_wp2_with fail
      · by_cases hf : (n : Int) = M
        · subst hf
          have ht : ((n : Int) != (o : Int) + n - o) = false := by simp; omega
          refine (send_full _ _ _ (prow o n) HP.out.choose _ HP.out.choose_spec (by rw [prow_length])).mono ?_
          rintro e w4 ⟨rfl, n4, rfl⟩
          go_wp2_with (go_at_call 7; refine (num_any _ _).mono ?_; rintro e w' ⟨rfl, rfl⟩)
          refine (len_any _ _ (prow o n) false HP.out.choose _ (HP.out.choose_spec.drewN n4)).mono ?_
          rintro e w5 ⟨rfl, rfl⟩
          rw [prow_length]
          go_wp2_with fail
          go_roundw
          case rel => exact ⟨i + 1, o, n, by omega, by omega, by omega, by omega, by go_num, by go_num, by go_num, ⟨⟨_, HP.out.choose_spec.drewN n4⟩⟩, ⟨HB.out.trans (below_drewN _ _ _)⟩⟩
          case measure => simp [intOf]; omega
        · refine (send_room _ M _ (prow o n) HP.out.choose _ HP.out.choose_spec (by rw [prow_length]; omega) hM2).mono ?_
          rintro e w4 ⟨rfl, hp4, hb4⟩
          have HP4 := Aside.mk (show ∃ sv, IsPipe w4 52 3 w.heap.size M (prow o (n + 1)) false sv from by rw [← prow_snoc]; exact hp4)
          clear hp4
          go_wp2_with (go_at_call 7; refine (num_any _ _).mono ?_; rintro e w' ⟨rfl, rfl⟩)
          refine (len_any _ M (prow o (n + 1)) false HP4.out.choose _ HP4.out.choose_spec).mono ?_
          rintro e w5 ⟨rfl, rfl⟩
          rw [prow_length]
          have ht : (((n + 1 : Nat) : Int) != (o : Int) + n + 1 - o) = false := by simp; omega
          go_wp2_with fail
          go_roundw
          case rel => exact ⟨i + 1, o, n + 1, by omega, by omega, by omega, by omega, by go_num, by go_num, by go_num, HP4, ⟨HB.out.trans hb4⟩⟩
          case measure => simp [intOf]; omega
      · cases n with
        | zero =>
          refine (recv_open _ M HP.out.choose _ HP.out.choose_spec).mono ?_
          rintro e w4 ⟨rfl, rfl⟩
          go_wp2_with (go_at_call 7; refine (num_any _ _).mono ?_; rintro e w' ⟨rfl, rfl⟩)
          refine (len_any _ M (prow o 0) false HP.out.choose _ HP.out.choose_spec).mono ?_
          rintro e w5 ⟨rfl, rfl⟩
          rw [prow_length]
          go_wp2_with fail
          go_roundw
          case rel => exact ⟨i + 1, o, 0, by omega, by omega, by omega, by omega, by go_num, by go_num, by go_num, HP, HB⟩
          case measure => simp [intOf]; omega
        | succ n =>
          have HPC := Aside.mk (show ∃ sv, IsPipe wr 52 3 w.heap.size M (.int .i64 ((o : Int) + 5) :: prow (o + 1) n) false sv from by rw [← prow_cons]; exact HP.out)
          refine (recv_some _ M _ (prow (o + 1) n) false _ _ HPC.out.choose_spec (by rw [prow_length]; omega) (prow_one _ _)).mono ?_
          rintro e w4 ⟨rfl, hp4, hb4⟩
          have HP4 := Aside.mk hp4
          clear hp4
          go_wp2_with (go_at_call 7; refine (num_any _ _).mono ?_; rintro e w' ⟨rfl, rfl⟩)
          refine (len_any _ M (prow (o + 1) n) false HP4.out.choose _ HP4.out.choose_spec).mono ?_
          rintro e w5 ⟨rfl, rfl⟩
          rw [prow_length]
          have ht : ((n : Int) != (o : Int) + (n + 1) - (o + 1)) = false := by simp; omega
          go_wp2_with fail
          go_roundw
          case rel => exact ⟨i + 1, o + 1, n, by omega, by omega, by omega, by omega, by go_num, by go_num, by go_num, HP4, ⟨HB.out.trans hb4⟩⟩
          case measure => simp [intOf]; omega
    · obtain ⟨o0, ho0⟩ : ∃ o0, o0 = o := ⟨_, rfl⟩
      subst ho0
      have h9 : Aside (len1 ≤ i ∨ (i < len1 ∧ 600 ≤ i)) := ⟨by omega⟩
      clear hlt
      rcases h9.out with h10 | ⟨h10, h13⟩
      all_goals
        go_wp2_with fail
        refine (close_open _ M (prow o0 n) HP.out.choose _ HP.out.choose_spec).mono ?_
        rintro e w4 ⟨rfl, hp4, hb4⟩
        have HP4 := Aside.mk hp4
        have HB4 := Aside.mk (HB.out.trans hb4)
        clear HP HB hb4 hp4
        go_wp2_with fail
        go_loopw [8] (fun vo wr => ∃ (o n' : Nat), vo = .int .i64 (o : Int) ∧ o + n' = o0 + n ∧ n' ≤ n ∧
            Aside (∃ sv, IsPipe wr 52 3 w.heap.size M (prow o n') true sv) ∧ Aside (Below w.heap.size w wr)) (fun vo _ => o0 + n - (intOf vo).toNat)
        case atStart => exact ⟨o0, n, rfl, rfl, by omega, HP4, HB4⟩
        case round =>
          obtain ⟨o, n', rfl, ho, hn', HP, HB⟩ := hrel
          cases n' with
          | zero => 
            have h11 : Aside (o = o0 + n) := ⟨by omega⟩
            have h12 : ¬ (o : Int) < o0 + n := by omega
            clear ho
            go_wp2_with fail
            refine (recv_closed _ M HP.out.choose _ HP.out.choose_spec).mono ?_
            rintro e w4 ⟨rfl, rfl⟩
            go_wp2_with (go_at_call 7; refine (num_any _ _).mono ?_; rintro e w' ⟨rfl, rfl⟩)
            refine (send_closed _ M 1 [] HP.out.choose _ HP.out.choose_spec).mono ?_
            rintro e w4 ⟨rfl, rfl⟩
            go_wp2_with (go_at_call 7; refine (num_any _ _).mono ?_; rintro e w' ⟨rfl, rfl⟩)
            go_ret
            exact ⟨rfl, HB.out⟩
          | succ n' =>
            have h12 : (o : Int) < o0 + n := by omega
            have H11 := Aside.mk ho
            clear ho
            go_wp2_with fail
            have HPC := Aside.mk (show ∃ sv, IsPipe _ 52 3 w.heap.size M (.int .i64 ((o : Int) + 5) :: prow (o + 1) n') true sv from by rw [← prow_cons]; exact HP.out)
            refine (recv_some _ M _ (prow (o + 1) n') true _ _ HPC.out.choose_spec (by rw [prow_length]; omega) (prow_one _ _)).mono ?_
            rintro e w4 ⟨rfl, hp4, hb4⟩
            have HP4 := Aside.mk hp4
            clear hp4
            go_wp2_with (go_at_call 7; refine (num_any _ _).mono ?_; rintro e w' ⟨rfl, rfl⟩)
            go_roundw
            case rel => exact ⟨o + 1, n', by go_num, by have := H11.out; omega, by omega, HP4, ⟨HB.out.trans hb4⟩⟩
            case measure => simp [intOf]; omega
end Go.Proofs.Ytjeenpjmpanfjaa
