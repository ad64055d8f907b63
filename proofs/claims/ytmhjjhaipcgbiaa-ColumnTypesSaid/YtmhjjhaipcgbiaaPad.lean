/- Digits: digit.Count, digit.Pad; date.pad, PrintDay, PrintMoment. -/
import Derived.Test.YtmhjjhaipcgbiaaDate
namespace Go.Proofs.Ytmhjjhaipcgbiaa
open Go.RowKit
set_option linter.unusedVariables false
set_option linter.unusedSimpArgs false
set_option maxRecDepth 100000
set_option maxHeartbeats 2000000

def CountP (X : Nat) (w : World) (e : Ending) (w' : World) : Prop := ∃ c : Nat, e = .returned (.int .i64 (c : Int)) ∧ 1 ≤ c ∧ c ≤ 20 ∧ X < 10 ^ c ∧ (c = 1 ∨ 10 ^ (c - 1) ≤ X) ∧ w = w'

theorem pow_lt {k X : Nat} (h : k = 0 ∨ 10 ^ k ≤ X) (hX : X < 18446744073709551616) : k ≤ 19 := by
  rcases h with h | h
  · omega
  · apply Nat.le_of_not_lt
    intro hk
    have : 10 ^ 20 ≤ 10 ^ k := Nat.pow_le_pow_right (by decide) hk
    have h20 : (10 : Nat) ^ 20 = 100000000000000000000 := by decide
    omega

theorem count_any (X : Nat) (hX : X < 18446744073709551616) (w : World) : Calls Try.prog 116 #[.int .u64 (X : Int)] w (CountP X w) := by
  go_enter Try.func116, Try.ntmps116
  go_wp2
  go_loop [0, 3] (fun xv nv => ∃ k q : Nat, xv = .int .u64 (q : Int) ∧ nv = .int .i64 ((k : Int) + 1) ∧ Aside (q = X / 10 ^ k) ∧ Aside (k = 0 ∨ 10 ^ k ≤ X) ∧ k ≤ 19 ∧ q < 18446744073709551616) (fun xv _ => (intOf xv).toNat)
  case atStart => exact ⟨0, X, rfl, rfl, ⟨by simp⟩, ⟨.inl rfl⟩, by omega, hX⟩
  case round =>
    obtain ⟨k, q, rfl, rfl, hq, hk, hk19, hqX⟩ := hrel
    by_cases h9 : 9 < q
    · have hk2 : 10 ^ (k + 1) ≤ X := by
        have := hq.out
        have h1 : 10 ≤ X / 10 ^ k := by omega
        have h2 := (Nat.le_div_iff_mul_le (Nat.pow_pos (by decide : 0 < 10))).1 h1
        rw [Nat.pow_succ, Nat.mul_comm]; exact h2
      have hk3 := pow_lt (.inr hk2) hX
      go_wp2
      go_round
      case rel => exact ⟨k + 1, q / 10, by go_num, by go_num, ⟨by rw [hq.out, Nat.div_div_eq_div_mul, Nat.pow_succ]⟩, ⟨.inr hk2⟩, hk3, by omega⟩
      case measure => simp [intOf]; omega
    · have hlt : X < 10 ^ (k + 1) := by
        have := hq.out
        have h1 : X / 10 ^ k < 10 := by omega
        rw [Nat.pow_succ, Nat.mul_comm]
        exact (Nat.div_lt_iff_lt_mul (Nat.pow_pos (by decide : 0 < 10))).1 h1
      have HLT := Aside.mk hlt
      clear hlt
      go_wp2
      go_ret
      exact ⟨k + 1, by go_num, by omega, by omega, HLT.out, by rcases hk.out with h | h <;> simp_all, rfl⟩

/-- A digit of a number that is laid in w of them. -/
def dg (X w j : Nat) : Nat := 48 + X / 10 ^ (w - 1 - j) % 10
def digs (X w : Nat) : List Value := (List.range w).map fun j => Value.int .u8 (dg X w j : Int)
theorem len_digs (X w : Nat) : (digs X w).length = w := by simp [digs]

theorem count_le {c X wd : Nat} (h1 : 1 ≤ wd) (hX : X < 10 ^ wd) (h4 : c = 1 ∨ 10 ^ (c - 1) ≤ X) : c ≤ wd := by
  rcases h4 with h | h
  · omega
  · apply Nat.le_of_not_lt
    intro hk
    have := Nat.pow_le_pow_right (show 0 < 10 by decide) (show wd ≤ c - 1 by omega)
    omega

def PadP (X wd : Nat) (w : World) (e : Ending) (w' : World) : Prop := ∃ a c, e = .returned (.tuple #[.slice a wd c, .int .i64 0]) ∧ Own w' w.heap.size 5 1 (.slice a wd c) wd (digs X wd) ∧ Below w.heap.size w w'

/-- The row of digits while it is written from behind: those from t on are there. -/
def PadIn (X wd B t : Nat) (wr : World) (cur : Array Value) (T : TypeId) : Prop := wr.heap[B]? = some (.cells cur T (0, 0)) ∧ cur.size = 20 ∧ (∀ j, j < 20 → ∃ z, cur[j]? = some (.int .u8 z)) ∧ ∀ j, t ≤ j → j < wd → cur[j]? = some (.int .u8 (dg X wd j : Int))

theorem u8info : (Try.prog.info? 5).map (fun i => (i.zero, i.size, i.bytes)) = some (some (.int .u8 0), 1, 1) := by kernel_rfl

theorem pad_ok (X wd : Nat) (h1 : 1 ≤ wd) (h2 : wd ≤ 20) (hX : X < 10 ^ wd) (hX2 : X < 18446744073709551616) (w : World) : Calls Try.prog 94 #[.int .u64 (X : Int), .int .i64 (wd : Int)] w (PadP X wd w) := by
  have HXW := Aside.mk hX
  clear hX
  go_enter Try.func94, Try.ntmps94
  go_wp2_with (go_at_call 116; refine (count_any X hX2 _).mono ?_; rintro e w' ⟨c, rfl, hc1, hc2, hc3, hc4, rfl⟩; have hcw : c ≤ wd := count_le h1 HXW.out hc4; clear hc3 hc4)
  go_loopw [0, 7] (fun xv iv wr => ∃ t : Nat, t ≤ wd ∧ xv = .int .u64 ((X / 10 ^ (wd - t) : Nat) : Int) ∧ iv = .int .i64 ((t : Int) - 1) ∧ Aside (Below w.heap.size w wr) ∧ Aside (∃ cur T, PadIn X wd w.heap.size t wr cur T)) (fun _ iv _ => (intOf iv + 1).toNat)
  case atStart =>
    refine ⟨wd, Nat.le_refl _, by simp, rfl, ⟨below_new _ _⟩, ⟨_, _, heap_alloc_new _ _, rfl, ?_, fun j h1 h2 => by omega⟩⟩
    intro j hj
    have : j = 0 ∨ j = 1 ∨ j = 2 ∨ j = 3 ∨ j = 4 ∨ j = 5 ∨ j = 6 ∨ j = 7 ∨ j = 8 ∨ j = 9 ∨ j = 10 ∨ j = 11 ∨ j = 12 ∨ j = 13 ∨ j = 14 ∨ j = 15 ∨ j = 16 ∨ j = 17 ∨ j = 18 ∨ j = 19 := by omega
    rcases this with rfl | rfl | rfl | rfl | rfl | rfl | rfl | rfl | rfl | rfl | rfl | rfl | rfl | rfl | rfl | rfl | rfl | rfl | rfl | rfl <;> exact ⟨_, rfl⟩
  case round =>
    obtain ⟨t, ht, rfl, rfl, hb, hp⟩ := hrel
    obtain ⟨cur, T, hp⟩ := hp.out
    cases t with
    | zero =>
      have HP := Aside.mk hp
      clear hp
      have hsrc : Src Try.prog 1 37 (.slice (some ⟨w.heap.size, 0, none⟩) wd 20) wd (digs X wd) wr := by
        refine Src.ofSlice _ Try.underlying37 _ wd 20 (digs X wd) (by simp [len_digs]) ?_ ?_
        · intro j u hu
          rw [addr_add, cell_blk HP.out.1]
          have hj := (List.getElem?_eq_some_iff.1 hu).1
          rw [len_digs] at hj
          simp only [digs, List.getElem?_map, List.getElem?_range hj, Option.map_some, Option.some.injEq] at hu
          rw [Nat.zero_add, HP.out.2.2.2 j (Nat.zero_le _) hj, hu]
        · intro x hx
          simp only [digs, List.mem_map] at hx
          obtain ⟨j, _, rfl⟩ := hx
          rfl
      have HS := Aside.mk hsrc
      have hbb := Aside.mk (lt_of_blk HP.out.1)
      clear hsrc
      go_wp2_with (at_builtin; refine wpList_app _ rfl _ _ 37 37 rfl w.heap.size 5 (.int .u8 0) 1 1 Try.underlying37 u8info rfl _ _ _ rfl (Own.nil _ _ _ _) _ wd (digs X wd) rfl HS.out (by unfold maxLen; omega) (by omega) (Nat.le_of_lt hbb.out) ?_)
      intro v' w5 hown' hgrow _ hat
      obtain ⟨a', cap', rfl⟩ := hown'.form
      have HO := Aside.mk hown'
      have HB := Aside.mk (hb.out.trans (below_of_grown hgrow (Nat.le_of_lt hbb.out) (by simp [Value.ownBlock])))
      clear hown' hgrow hat
      go_wp2
      go_ret2
      exact ⟨a', cap', rfl, HO.out, HB.out⟩
    | succ k =>
      obtain ⟨z, hz⟩ := hp.2.2.1 k (by omega)
      have hc : wr.cell? ⟨w.heap.size, k, none⟩ = some (.int .u8 z) := (cell_blk hp.1).trans hz
      have hf : wr.frozen? ⟨w.heap.size, k, none⟩ = false := frozen_blk hp.1
      have hX3 : X / 10 ^ (wd - (k + 1)) < 18446744073709551616 := Nat.lt_of_le_of_lt (Nat.div_le_self _ _) hX2
      have HP := Aside.mk hp
      clear hp hz
      have e : (((k + 1 : Nat) : Int) - 1) = (k : Int) := by omega
      rw [e]
      generalize hq : X / 10 ^ (wd - (k + 1)) = q at *
      have HQ := Aside.mk hq
      clear hq
      go_wp2
      go_roundw
      case rel =>
        refine ⟨k, by omega, ?_, rfl, ⟨hb.out.setCell (Nat.le_refl _) _⟩, ⟨_, _, heap_setCell_at HP.out.1 _, by simp [HP.out.2.1], ?_, ?_⟩⟩
        · have : wd - k = wd - (k + 1) + 1 := by omega
          rw [this, Nat.pow_succ, ← Nat.div_div_eq_div_mul, HQ.out]
          go_num
        · intro j hj
          rw [Array.getElem?_setIfInBounds]
          by_cases hjk : k = j
          · rw [if_pos hjk, if_pos (by rw [HP.out.2.1]; omega)]
            exact ⟨_, rfl⟩
          · rw [if_neg hjk]; exact HP.out.2.2.1 j hj
        · intro j h1 h2
          rw [Array.getElem?_setIfInBounds]
          by_cases hjk : k = j
          · subst hjk
            rw [if_pos rfl, if_pos (by rw [HP.out.2.1]; omega)]
            have e1 : wd - 1 - k = wd - (k + 1) := by omega
            simp only [dg, e1, HQ.out]
            go_num
          · rw [if_neg hjk]; exact HP.out.2.2.2 j (by omega) h2
      case measure => simp [intOf]
end Go.Proofs.Ytmhjjhaipcgbiaa
