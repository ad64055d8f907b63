/- The calls of a pipe.Pipe of string: New, Send, Recv, Len, Most, Closed, Close: each answer, and the row of values behind it. -/
import Derived.Test.YtjeenpjmpanfjaaRows
import Derived.Test.YtjeenpjmpanfjaaMem
import Derived.RegionTactic
import Derived.Deep.QuietTactic
import Derived.BigQuiet
import Derived.WalkLawsBesides
import Derived.WalkSpells
namespace Go.Proofs.Ytjeenpjmpanfjaa
open Go.RowKit
namespace PStr

/-- An owned pipe: block b holds most, the row, the mark; the row lies behind it. -/
structure Is (w : World) (b : Nat) (most : Int) (xs : List Value) (closed : Bool) (sv : Value) : Prop where
  blk : w.heap[b]? = some (.cells #[.int .i64 most, sv, .bool closed] 54 (0, 0))
  own : Own w (b + 1) 9 1 sv xs.length xs
  one : ∀ u ∈ xs, u.oneCell' = true

theorem info : (Try.prog.info? 9).map (fun i => (i.zero, i.size, i.bytes)) = some (some (.string ByteArray.empty), 1, 16) := by kernel_rfl

variable {b : Nat} {most : Int} {xs : List Value} {closed : Bool} {sv : Value} {w w1 w2 : World}

theorem Is.cells (h : Is w b most xs closed sv) :
    w.cell? ⟨b, 0, none⟩ = some (.int .i64 most) ∧ w.cell? ⟨b, 1, none⟩ = some sv ∧ w.cell? ⟨b, 2, none⟩ = some (.bool closed) ∧
    w.frozen? ⟨b, 0, none⟩ = false ∧ w.frozen? ⟨b, 1, none⟩ = false ∧ w.frozen? ⟨b, 2, none⟩ = false := by
  simp [World.cell?, World.frozen?, h.blk]

theorem Is.new (w : World) (m : Int) : Is (w.alloc (.cells #[.int .i64 m, .slice none 0 0, .bool false] 54)) w.heap.size m [] false (.slice none 0 0) :=
  ⟨heap_alloc_new w _, Own.nil _ _ _ _, by simp⟩
theorem Is.drewN (h : Is w b most xs closed sv) (n : Nat) : Is (w.drewN n) b most xs closed sv := ⟨h.blk, h.own, h.one⟩
theorem Is.below (h : Is w b most xs closed sv) (hb : Below w.heap.size w w1) : Is w1 b most xs closed sv := ⟨(hb.block _ (lt_of_blk h.blk)).trans h.blk, h.own.below hb, h.one⟩

/-- The pipe's step: its block and its row alone have turned; its row is the old one, none, or a new one. -/
structure Mv (w : World) (b : Nat) (v v' : Value) (w' : World) : Prop where
  kept : Kept (fun k => k = b ∨ v.ownBlock = some k) w w'
  row : ∀ k, v'.ownBlock = some k → v.ownBlock = some k ∨ w.heap.size ≤ k

theorem Mv.below {v v' : Value} (h : Mv w b v v' w1) (hi : Is w b most xs closed v) : Below b w w1 :=
  h.kept.to_below (Nat.le_of_lt (lt_of_blk hi.blk)) (fun k hk => by rcases hk with rfl | hk; exact Nat.le_refl _; have := (hi.own.lt k hk).1; omega)

/-- Behind the append of Send, or of Recv. -/
theorem grown {sv' : Value} {ys : List Value} (hi : Is w b most xs closed sv) (hk : Kept (fun k => sv.ownBlock = some k) w w1) (hown : Own w1 (b + 1) 9 1 sv' ys.length ys) (h1 : ∀ u ∈ ys, u.oneCell' = true)
    (hr : ∀ k, sv'.ownBlock = some k → sv.ownBlock = some k ∨ w.heap.size ≤ k) (h2 : w2 = w1.setCell ⟨b, 1, none⟩ sv') : Is w2 b most ys closed sv' ∧ Mv w b sv sv' w2 := by
  subst h2
  have hb1 : w1.heap[b]? = some (.cells #[.int .i64 most, sv, .bool closed] 54 (0, 0)) := (hk.block b (lt_of_blk hi.blk) (fun e => by have := (hi.own.lt _ e).1; omega)).trans hi.blk
  refine ⟨⟨?_, hown.set_other (fun e => by have := (hown.lt _ e).1; simp at this; omega) _, h1⟩, ⟨(hk.mono (fun k hk _ => .inr hk)).trans (Kept.setCell w1 ⟨b, 1, none⟩ sv') (fun k hk _ => .inl hk), hr⟩⟩
  rw [heap_setCell_at hb1]; rfl

set_option maxHeartbeats 400000 in
theorem new_ok (m : Int) (w : World) (h1 : 1 ≤ m) (h2 : m ≤ 64) : Calls Try.prog 15 #[.int .i64 m] w fun e w' =>
    e = .returned (.tuple #[.pointer (some ⟨w.heap.size, 0, none⟩), .int .i64 0]) ∧ w' = w.alloc (.cells #[.int .i64 m, .slice none 0 0, .bool false] 54) := by
  go_enter Try.func15, Try.ntmps15
  go_wp2
  go_ret2
  exact ⟨rfl, rfl⟩

set_option maxHeartbeats 400000 in
theorem new_no (m : Int) (w : World) (h1 : m < 1 ∨ 64 < m) : Calls Try.prog 15 #[.int .i64 m] w fun e w' =>
    e = .returned (.tuple #[.pointer none, .int .i64 260]) ∧ w = w' := by
  rcases h1 with h1 | h1
  · go_enter Try.func15, Try.ntmps15
    go_wp2
    go_ret2
    exact ⟨rfl, rfl⟩
  · have h2 : ¬ m < 1 := by omega
    go_enter Try.func15, Try.ntmps15
    go_wp2
    go_ret2
    exact ⟨rfl, rfl⟩

theorem send_closed (v : ByteArray) (h : Is w b most xs true sv) :
    Calls Try.prog 16 #[.pointer (some ⟨b, 0, none⟩), .string v] w fun e w' => e = .returned (.int .i64 263) ∧ w = w' := by
  obtain ⟨c0, c1, c2, f0, f1, f2⟩ := h.cells
  clear h
  go_enter Try.func16, Try.ntmps16
  go_wp2
  go_ret
  exact ⟨rfl, rfl⟩

set_option maxHeartbeats 400000 in
theorem send_full (v : ByteArray) (h : Is w b most xs false sv) (hl : (xs.length : Int) = most) :
    Calls Try.prog 16 #[.pointer (some ⟨b, 0, none⟩), .string v] w fun e w' => e = .returned (.int .i64 261) ∧ ∃ n, w' = w.drewN n := by
  obtain ⟨c0, c1, c2, f0, f1, f2⟩ := h.cells
  obtain ⟨a, cap, rfl⟩ := h.own.form
  clear h
  subst hl
  go_enter Try.func16, Try.ntmps16
  go_wp2
  go_quiet (fail)
  go_wp2
  go_ret
  exact ⟨rfl, _, rfl⟩

set_option maxHeartbeats 400000 in
theorem send_room (v : ByteArray) (h : Is w b most xs false sv) (hl : (xs.length : Int) < most) (hm : most ≤ 64) :
    Calls Try.prog 16 #[.pointer (some ⟨b, 0, none⟩), .string v] w fun e w' => e = .returned (.int .i64 0) ∧ ∃ sv', Is w' b most (xs ++ [.string v]) false sv' ∧ Mv w b sv sv' w' := by
  obtain ⟨c0, c1, c2, f0, f1, f2⟩ := h.cells
  have H := Aside.mk h
  have hown := h.own
  have hbs := lt_of_blk h.blk
  obtain ⟨a, cap, rfl⟩ := h.own.form
  clear h
  have ht : ((xs.length : Int) == most) = false := by simp; omega
  go_enter Try.func16, Try.ntmps16
  go_wp2
  go_quiet (fail)
  go_wp2_with (at_builtin; refine wpList_app _ rfl _ _ 39 39 rfl (b + 1) 9 (.string ByteArray.empty) 1 16 Try.underlying39 info rfl _ _ _ rfl ((hown.drewN nq).alloc _) _ 1 [.string v] rfl (src_one Try.underlying39 _ _ _ rfl rfl) (by unfold maxLen; omega) (by omega) (by simp; omega) ?_)
  intro v' w1 hown' hgrow _ hat
  obtain ⟨a', cap', rfl⟩ := hown'.form
  have hk : Kept (fun k => (Value.slice a xs.length cap).ownBlock = some k) w w1 := ((Kept.of_below ((below_drewN w _ nq).alloc (by simp) _)).trans (Kept.of_grown hgrow) (fun k hk _ => hk.symm)).mono (fun k hk _ => hk)
  have k1 := hk.cell c1 (fun e => by have := (hown.lt _ e).1; simp at this; omega)
  have e1 := (World.frozen?_of_block (w := w) (hk.block b hbs (fun e => by have := (hown.lt _ e).1; omega))).trans f1
  have HK := Aside.mk hk
  have HR := Aside.mk hat
  clear hgrow hk hat
  go_wp2
  go_ret
  have hl : (xs ++ [(.string v : Value)]).length = xs.length + 1 := by simp
  refine ⟨rfl, _, grown H.out HK.out (by rw [hl]; exact hown') (fun u hu => by rcases List.mem_append.1 hu with hu | hu <;> first | exact H.out.one u hu | (simp at hu; subst hu; rfl)) (fun k hk => ?_) rfl⟩
  rcases HR.out with h | ⟨g, h, hg⟩
  · exact .inl (h.symm.trans hk)
  · rw [h] at hk; cases hk; exact .inr (by omega)

theorem len_any (h : Is w b most xs closed sv) :
    Calls Try.prog 19 #[.pointer (some ⟨b, 0, none⟩)] w fun e w' => e = .returned (.int .i64 xs.length) ∧ w = w' := by
  obtain ⟨c0, c1, c2, f0, f1, f2⟩ := h.cells
  obtain ⟨a, cap, rfl⟩ := h.own.form
  clear h
  go_enter Try.func19, Try.ntmps19
  go_wp2
  go_ret
  exact ⟨rfl, rfl⟩

theorem recv_open (h : Is w b most [] false sv) :
    Calls Try.prog 17 #[.pointer (some ⟨b, 0, none⟩)] w fun e w' => e = .returned (.tuple #[.string ByteArray.empty, .int .i64 262]) ∧ w = w' := by
  obtain ⟨c0, c1, c2, f0, f1, f2⟩ := h.cells
  obtain ⟨a, cap, rfl⟩ := h.own.form
  clear h
  go_enter Try.func17, Try.ntmps17
  go_wp2
  go_ret2
  exact ⟨rfl, rfl⟩

theorem recv_closed (h : Is w b most [] true sv) :
    Calls Try.prog 17 #[.pointer (some ⟨b, 0, none⟩)] w fun e w' => e = .returned (.tuple #[.string ByteArray.empty, .int .i64 263]) ∧ w = w' := by
  obtain ⟨c0, c1, c2, f0, f1, f2⟩ := h.cells
  obtain ⟨a, cap, rfl⟩ := h.own.form
  clear h
  go_enter Try.func17, Try.ntmps17
  go_wp2
  go_ret2
  exact ⟨rfl, rfl⟩

set_option maxHeartbeats 400000 in
theorem recv_some (v : ByteArray) (h : Is w b most (.string v :: xs) closed sv) (hm : xs.length < 64) :
    Calls Try.prog 17 #[.pointer (some ⟨b, 0, none⟩)] w fun e w' => e = .returned (.tuple #[.string v, .int .i64 0]) ∧ ∃ sv', Is w' b most xs closed sv' ∧ Mv w b sv sv' w' := by
  obtain ⟨c0, c1, c2, f0, f1, f2⟩ := h.cells
  have H := Aside.mk h
  have hbs := lt_of_blk h.blk
  have h1 : ∀ u ∈ xs, u.oneCell' = true := fun u hu => h.one u (by simp [hu])
  obtain ⟨g, off, cap, rfl, hg, hgs, hc1, hc2, hcells, _⟩ := h.own.some_ (by simp)
  have d0 := hcells 0 _ rfl
  simp only [List.length_cons, Nat.add_zero] at c1 hc1 d0
  have HC := Aside.mk hcells
  have fin : ∀ w1 v' w2, Own w1 (b + 1) 9 1 v' xs.length xs → w.grownBy w1 none → (v'.ownBlock = none ∨ ∃ b, v'.ownBlock = some b ∧ w.heap.size ≤ b) → w2 = w1.setCell ⟨b, 1, none⟩ v' → ∃ sv', Is w2 b most xs closed sv' ∧ Mv w b (.slice (some ⟨g, off, none⟩) (.string v :: xs).length cap) sv' w2 := by
    intro w1 v' w2 ho hg hat h2
    refine ⟨_, grown h ((Kept.of_grown hg).mono (fun k hk _ => by cases hk)) ho h1 (fun k hk => .inr ?_) h2⟩
    rcases hat with h | ⟨g, h, hg⟩
    · rw [h] at hk; cases hk
    · rw [h] at hk; cases hk; exact hg
  have FIN := Aside.mk fin
  have H1 := Aside.mk h1
  clear h hcells fin h1
  by_cases h1 : cap = 1
  · subst h1
    obtain rfl : xs = [] := List.length_eq_zero_iff.1 (by omega)
    go_enter Try.func17, Try.ntmps17
    go_wp2_with (at_builtin; refine wpList_app _ rfl _ _ 39 39 rfl (b + 1) 9 (.string ByteArray.empty) 1 16 Try.underlying39 info rfl _ _ _ rfl (Own.nil _ _ _ _) _ 0 [] rfl (Src.ofSlice _ Try.underlying39 _ 0 0 [] rfl (by simp) (by simp)) (by unfold maxLen; omega) (by omega) (by omega) ?_)
    intro v' w1 hown' hgrow hn hat
    obtain rfl : v' = .slice none 0 0 := by simpa using hn
    have k1 := hgrow.cell c1 (by simp [Value.ownBlock])
    have e1 := (World.frozen?_of_block (hgrow.block b hbs (by simp [Value.ownBlock]))).trans f1
    have R := Aside.mk (FIN.out w1 _ _ hown' hgrow hat rfl)
    clear hgrow hat
    go_wp2
    go_ret2
    exact ⟨rfl, R.out⟩
  · have h2 : ¬ cap = 1 := h1
    go_enter Try.func17, Try.ntmps17
    go_wp2_with (at_builtin; refine wpList_app _ rfl _ _ 39 39 rfl (b + 1) 9 (.string ByteArray.empty) 1 16 Try.underlying39 info rfl _ _ _ rfl (Own.nil _ _ _ _) _ xs.length xs rfl (Src.ofSlice _ Try.underlying39 ⟨g, off + 1, none⟩ _ _ xs (by simp) ?c1 H1.out) (by unfold maxLen; omega) (by omega) (by omega) ?_)
    case c1 => intro j u hj; rw [addr_add, Nat.add_assoc]; exact HC.out (1 + j) u (by rw [Nat.add_comm]; exact hj)
    intro v' w1 hown' hgrow hn hat
    obtain ⟨a', c', rfl⟩ := hown'.form
    have k1 := hgrow.cell c1 (by simp [Value.ownBlock])
    have e1 := (World.frozen?_of_block (hgrow.block b hbs (by simp [Value.ownBlock]))).trans f1
    have R := Aside.mk (FIN.out w1 _ _ hown' hgrow hat rfl)
    clear hgrow hn hat
    go_wp2
    go_ret2
    exact ⟨rfl, R.out⟩
end PStr
end Go.Proofs.Ytjeenpjmpanfjaa
