/- Texts of this claim, one behind the other: Date, Pad, Pad2. -/
import Derived.Test.YtmhjjhaipcgbiaaBakP1

namespace Go.Proofs.Ytmhjjhaipcgbiaa
open Go.RowKit
set_option linter.unusedVariables false
set_option linter.unusedSimpArgs false
set_option maxRecDepth 100000
set_option maxHeartbeats 2000000
def leapB (y : Int) : Bool := decide (0 ≤ y ∧ y ≤ 9999 ∧ y % 4 = 0 ∧ (y % 100 ≠ 0 ∨ y % 400 = 0))
theorem leap_any (y : Int) (h0 : 0 ≤ y) (h1 : y ≤ 9999) (w : World) : Calls Try.prog 120 #[.int .i64 y] w fun e w' => e = .returned (.bool (leapB y)) ∧ w = w' := by
  by_cases c1 : y % 4 = 0
  · by_cases c2 : y % 100 = 0
    · have hl : Aside (leapB y = (y % 400 == 0)) := ⟨by unfold leapB; by_cases c3 : y % 400 = 0 <;> simp [c1, c2, c3, h0, h1]⟩
      have e1 : (y % 4 == 0) = true := by simpa using c1
      have e2 : (y % 100 != 0) = false := by simpa using c2
      clear c1 c2
      go_enter Try.func120, Try.ntmps120
      go_wp2
      go_ret
      exact ⟨by rw [hl.out]; rfl, rfl⟩
    · have hl : Aside (leapB y = true) := ⟨by unfold leapB; simp [c1, c2, h0, h1]⟩
      have e1 : (y % 4 == 0) = true := by simpa using c1
      have e2 : (y % 100 != 0) = true := by simpa using c2
      clear c1 c2
      go_enter Try.func120, Try.ntmps120
      go_wp2
      go_ret
      exact ⟨by rw [hl.out]; rfl, rfl⟩
  · have hl : Aside (leapB y = false) := ⟨by unfold leapB; simp [c1]⟩
    have e1 : (y % 4 == 0) = false := by simpa using c1
    clear c1
    go_enter Try.func120, Try.ntmps120
    go_wp2
    go_ret
    exact ⟨by rw [hl.out]; rfl, rfl⟩
def dby (y : Int) : Int := if y = 0 then 0 else 365 * (y - 1 + 1) + (y - 1) / 4 - (y - 1) / 100 + (y - 1) / 400 + 1
theorem ahead_any (y : Int) (h0 : 0 ≤ y) (h1 : y ≤ 10000) (w : World) : Calls Try.prog 114 #[.int .i64 y] w fun e w' => e = .returned (.int .i64 (dby y)) ∧ w = w' := by
  by_cases c : y = 0
  · subst c
    go_enter Try.func114, Try.ntmps114
    go_wp2
    go_ret
    exact ⟨rfl, rfl⟩
  · have hd : Aside (dby y = 365 * (y - 1 + 1) + (y - 1) / 4 - (y - 1) / 100 + (y - 1) / 400 + 1) := ⟨by unfold dby; rw [if_neg c]⟩
    have e1 : (y == 0) = false := by simpa using c
    have h2 : 1 ≤ y := by omega
    clear c
    go_enter Try.func114, Try.ntmps114
    go_wp2
    go_ret
    refine ⟨ret_int ?_, rfl⟩
    rw [hd.out]
    omega
def feb (y : Int) : Int := 28 + (if leapB y then 1 else 0)
def mlens (y : Int) : List Int := [31, feb y, 31, 30, 31, 30, 31, 31, 30, 31, 30, 31]
theorem months_any (y : Int) (h0 : 0 ≤ y) (h1 : y ≤ 9999) (w : World) : Calls Try.prog 115 #[.int .i64 y] w fun e w' => e = .returned (.agg #[.int .i64 31, .int .i64 (feb y), .int .i64 31, .int .i64 30, .int .i64 31, .int .i64 30, .int .i64 31, .int .i64 31, .int .i64 30, .int .i64 31, .int .i64 30, .int .i64 31]) ∧ Below w.heap.size w w' := by
  cases hl : leapB y
  · have HL := Aside.mk hl
    clear hl
    go_enter Try.func115, Try.ntmps115
    go_wp2_with (go_at_call 120; refine (leap_any _ h0 h1 _).mono ?_; rw [HL.out]; rintro e w1 ⟨rfl, rfl⟩)
    refine bodyPost_ret (v := .agg #[.int .i64 31, .int .i64 28, .int .i64 31, .int .i64 30, .int .i64 31, .int .i64 30, .int .i64 31, .int .i64 31, .int .i64 30, .int .i64 31, .int .i64 30, .int .i64 31]) (by simp [results, Try.results115, go_sem]) rfl ⟨?_, (by repeat (first | exact Below.refl _ _ | assumption | (refine Below.drew ?_) | (refine Below.trans ?_ (below_drewN _ _ _)) | (refine Below.alloc ?_ (by first | omega | (simp; done) | (simp; omega)) _) | (refine Below.setCell ?_ (by first | omega | (simp; done) | (simp; omega)) _)))⟩
    simp [feb, HL.out]
  · have HL := Aside.mk hl
    clear hl
    go_enter Try.func115, Try.ntmps115
    go_wp2_with (go_at_call 120; refine (leap_any _ h0 h1 _).mono ?_; rw [HL.out]; rintro e w1 ⟨rfl, rfl⟩)
    refine bodyPost_ret (v := .agg #[.int .i64 31, .int .i64 29, .int .i64 31, .int .i64 30, .int .i64 31, .int .i64 30, .int .i64 31, .int .i64 31, .int .i64 30, .int .i64 31, .int .i64 30, .int .i64 31]) (by simp [results, Try.results115, go_sem]) rfl ⟨?_, (by repeat (first | exact Below.refl _ _ | assumption | (refine Below.drew ?_) | (refine Below.trans ?_ (below_drewN _ _ _)) | (refine Below.alloc ?_ (by first | omega | (simp; done) | (simp; omega)) _) | (refine Below.setCell ?_ (by first | omega | (simp; done) | (simp; omega)) _)))⟩
    simp [feb, HL.out]
def cum (y : Int) (m : Nat) : Int := ((mlens y).take m).sum
def isDate (N y m d : Int) : Prop := 0 ≤ y ∧ y ≤ 9999 ∧ ∃ j : Nat, m = j + 1 ∧ j < 12 ∧ 1 ≤ d ∧ d ≤ (mlens y).getD j 0 ∧ dby y + cum y j + d - 1 = N
theorem cum_succ (y : Int) (j : Nat) (h : j < 12) : cum y (j + 1) = cum y j + (mlens y).getD j 0 := by
  unfold cum
  have hl : j < (mlens y).length := by simp [mlens]; exact h
  rw [List.take_succ_eq_append_getElem hl, List.sum_append]
  simp [List.getD, List.getElem?_eq_getElem hl]
theorem cum_all (y : Int) : cum y 12 = 365 + (if leapB y then 1 else 0) := by
  unfold cum mlens feb
  cases leapB y <;> rfl
theorem mlens_pos (y : Int) (j : Nat) (h : j < 12) : 28 ≤ (mlens y).getD j 0 ∧ (mlens y).getD j 0 ≤ 31 := by
  unfold mlens feb
  have : j = 0 ∨ j = 1 ∨ j = 2 ∨ j = 3 ∨ j = 4 ∨ j = 5 ∨ j = 6 ∨ j = 7 ∨ j = 8 ∨ j = 9 ∨ j = 10 ∨ j = 11 := by omega
  rcases this with rfl | rfl | rfl | rfl | rfl | rfl | rfl | rfl | rfl | rfl | rfl | rfl <;> cases leapB y <;> simp
theorem dby_succ (y : Int) (h0 : 0 ≤ y) (h1 : y ≤ 9999) : dby (y + 1) = dby y + 365 + (if leapB y then 1 else 0) := by
  unfold dby leapB
  by_cases c : y = 0
  · subst c; decide
  · rw [if_neg (by omega), if_neg c]
    by_cases c1 : y % 4 = 0 <;> by_cases c2 : y % 100 = 0 <;> by_cases c3 : y % 400 = 0 <;> simp [c1, c2, c3, h0, h1] <;> omega
theorem dby_le (y : Int) (h0 : 0 ≤ y) : dby y ≤ 366 * y ∧ 0 ≤ dby y ∧ 365 * y ≤ dby y := by
  unfold dby
  split
  · omega
  · omega
def DateP (N : Int) (w : World) (e : Ending) (w' : World) : Prop := ∃ y m d, e = .returned (.tuple #[.int .i64 y, .int .i64 m, .int .i64 d]) ∧ isDate N y m d ∧ Below w.heap.size w w'
set_option maxHeartbeats 4000000 in
theorem date_any (N : Int) (h0 : 0 ≤ N) (h1 : N < 3652425) (w : World) : Calls Try.prog 92 #[.int .i64 (N - 719528)] w (DateP N w) := by
  have e0 : wrap64 (N - 719528 - -719528) = N := by unfold wrap64; omega
  go_enter Try.func92, Try.ntmps92
  go_wp2_with fail
  have g0 : dby (N / 366) ≤ N := by have := (dby_le (N / 366) (by omega)).1; omega
  have G0 := Aside.mk g0
  clear g0 e0
  go_loop [2] (fun t => ∃ y : Int, 0 ≤ y ∧ y ≤ 9999 ∧ Aside (dby y ≤ N) ∧ t = .int .i64 y) (fun t => (9999 - intOf t).toNat)
  case atStart => exact ⟨_, by omega, by omega, G0, rfl⟩
  case round =>
    obtain ⟨y, hy1, hy2, hy3, rfl⟩ := hrel
    have hp := dby_le (y + 1) (by omega)
    have hq := dby_le y (by omega)
    by_cases hc : y < 9999 ∧ dby (y + 1) ≤ N
    · obtain ⟨hlt, hd⟩ := hc
      go_wp2_with (go_at_call 114; refine (ahead_any _ (by omega) (by omega) _).mono ?_; rintro e w' ⟨rfl, rfl⟩)
      go_round
      case rel => exact ⟨y + 1, by omega, by omega, ⟨hd⟩, rfl⟩
      case measure => simp [intOf]; omega
    · have hsucc := dby_succ y hy1 hy2
      have hz : N < dby (y + 1) := by
        by_cases e : y = 9999
        · have : dby (9999 + 1) = 3652425 := by decide
          rw [e]; omega
        · omega
      have hy4 := hy3.out
      have hlen := cum_all y
      have hrem : 0 ≤ N - dby y ∧ N - dby y < cum y 12 := by rw [hlen]; omega
      have HREM := Aside.mk hrem
      have hbd : N - dby y ≤ 400 := by rw [hlen] at hrem; split at hrem <;> omega
      clear hc G0 hrem hsucc hlen
      have hlt2 : y < 9999 ∨ decide (y < 9999) = false := by by_cases h : y < 9999 <;> simp [h]
      have hmp := mlens_pos y
      have HMP := Aside.mk hmp
      clear hmp
      rcases hlt2 with hlt | hlt
      all_goals
        go_wp2_with (go_at_call 114; refine (ahead_any _ (by omega) (by omega) _).mono ?_; rintro e w' ⟨rfl, rfl⟩)
        refine (months_any y hy1 hy2 _).mono ?_
        rintro e w1 ⟨rfl, hb1⟩
        have hcell : ∀ j, j < 12 → (w1.alloc (.cells #[.int .i64 31, .int .i64 (feb y), .int .i64 31, .int .i64 30, .int .i64 31, .int .i64 30, .int .i64 31, .int .i64 31, .int .i64 30, .int .i64 31, .int .i64 30, .int .i64 31] 192)).cell? ⟨w1.heap.size, j, none⟩ = some (.int .i64 ((mlens y).getD j 0)) := by
          intro j hj
          rw [cell_blk (heap_alloc_new w1 _)]
          have : j = 0 ∨ j = 1 ∨ j = 2 ∨ j = 3 ∨ j = 4 ∨ j = 5 ∨ j = 6 ∨ j = 7 ∨ j = 8 ∨ j = 9 ∨ j = 10 ∨ j = 11 := by omega
          rcases this with rfl | rfl | rfl | rfl | rfl | rfl | rfl | rfl | rfl | rfl | rfl | rfl <;> rfl
        have HC := Aside.mk hcell
        have HB := Aside.mk (hb1.trans ((below_new w1 (.cells #[.int .i64 31, .int .i64 (feb y), .int .i64 31, .int .i64 30, .int .i64 31, .int .i64 30, .int .i64 31, .int .i64 31, .int .i64 30, .int .i64 31, .int .i64 30, .int .i64 31] 192)).mono hb1.size))
        clear hcell
        go_wp2_with fail
        generalize w1.alloc (.cells #[.int .i64 31, .int .i64 (feb y), .int .i64 31, .int .i64 30, .int .i64 31, .int .i64 30, .int .i64 31, .int .i64 31, .int .i64 30, .int .i64 31, .int .i64 30, .int .i64 31] 192) = w2 at *
        go_loop [0, 3] (fun vn vm => ∃ (j : Nat) (n : Int), j < 12 ∧ vm = .int .i64 j ∧ vn = .int .i64 n ∧ Aside (n = N - dby y - cum y j) ∧ 0 ≤ n ∧ n ≤ 400) (fun _ vm => 12 - (intOf vm).toNat)
        case atStart => exact ⟨0, _, by omega, rfl, rfl, ⟨by simp [cum]⟩, HREM.out.1, hbd⟩
        case round =>
          obtain ⟨j, n, hj, rfl, rfl, hn, hn0, hn400⟩ := hrel
          have hc := HC.out j hj
          have hm := HMP.out j hj
          have hcs := cum_succ y j hj
          obtain ⟨l, hl⟩ : ∃ l, l = (mlens y).getD j 0 := ⟨_, rfl⟩
          rw [← hl] at hc hm hcs
          have HL := Aside.mk hl
          have HS := Aside.mk hcs
          clear hl hcs
          obtain ⟨hm1, hm2⟩ := hm
          by_cases hln : l ≤ n
          · have hj2 : j + 1 < 12 := by
              by_cases e : j = 11
              · subst e
                have h3 := HREM.out.2
                have h4 := HS.out
                have h5 := hn.out
                simp only [Nat.reduceAdd] at h4
                omega
              · omega
            go_wp2
            go_round
            case rel => exact ⟨j + 1, n - l, hj2, by go_num, rfl, ⟨by rw [HS.out, hn.out]; omega⟩, by omega, by omega⟩
            case measure => simp [intOf]; omega
          · go_wp2
            go_ret3
            exact ⟨y, _, _, rfl, ⟨hy1, hy2, j, rfl, hj, by omega, by rw [← HL.out]; omega, by rw [hn.out]; omega⟩, HB.out⟩
end Go.Proofs.Ytmhjjhaipcgbiaa


namespace Go.Proofs.Ytmhjjhaipcgbiaa
open Go.RowKit
set_option linter.unusedVariables false
set_option linter.unusedSimpArgs false
set_option maxRecDepth 100000
set_option maxHeartbeats 2000000
def CountP (X : Nat) (w : World) (e : Ending) (w' : World) : Prop := ∃ c : Nat, e = .returned (.int .i64 (c : Int)) ∧ 1 ≤ c ∧ c ≤ 20 ∧ X < 10 ^ c ∧ (c = 1 ∨ 10 ^ (c - 1) ≤ X) ∧ w = w'
theorem pow_lt {k X : Nat} (h : k = 0 ∨ 10 ^ k ≤ X) (hX : X < 18446744073709551616) : k ≤ 19 := by
  rcases h with h | h
  · omega
  · apply Nat.le_of_not_lt
    intro hk
    have : 10 ^ 20 ≤ 10 ^ k := Nat.pow_le_pow_right (by decide) hk
    have h20 : (10 : Nat) ^ 20 = 100000000000000000000 := by decide
    omega
theorem count_any (X : Nat) (hX : X < 18446744073709551616) (w : World) : Calls Try.prog 116 #[.int .u64 (X : Int)] w (CountP X w) := by
  go_enter Try.func116, Try.ntmps116
  go_wp2
  go_loop [0, 3] (fun xv nv => ∃ k q : Nat, xv = .int .u64 (q : Int) ∧ nv = .int .i64 ((k : Int) + 1) ∧ Aside (q = X / 10 ^ k) ∧ Aside (k = 0 ∨ 10 ^ k ≤ X) ∧ k ≤ 19 ∧ q < 18446744073709551616) (fun xv _ => (intOf xv).toNat)
  case atStart => exact ⟨0, X, rfl, rfl, ⟨by simp⟩, ⟨.inl rfl⟩, by omega, hX⟩
  case round =>
    obtain ⟨k, q, rfl, rfl, hq, hk, hk19, hqX⟩ := hrel
    by_cases h9 : 9 < q
    · have hk2 : 10 ^ (k + 1) ≤ X := by
        have := hq.out
        have h1 : 10 ≤ X / 10 ^ k := by omega
        have h2 := (Nat.le_div_iff_mul_le (Nat.pow_pos (by decide : 0 < 10))).1 h1
        rw [Nat.pow_succ, Nat.mul_comm]; exact h2
      have hk3 := pow_lt (.inr hk2) hX
      go_wp2
      go_round
      case rel => exact ⟨k + 1, q / 10, by go_num, by go_num, ⟨by rw [hq.out, Nat.div_div_eq_div_mul, Nat.pow_succ]⟩, ⟨.inr hk2⟩, hk3, by omega⟩
      case measure => simp [intOf]; omega
    · have hlt : X < 10 ^ (k + 1) := by
        have := hq.out
        have h1 : X / 10 ^ k < 10 := by omega
        rw [Nat.pow_succ, Nat.mul_comm]
        exact (Nat.div_lt_iff_lt_mul (Nat.pow_pos (by decide : 0 < 10))).1 h1
      have HLT := Aside.mk hlt
      clear hlt
      go_wp2
      go_ret
      exact ⟨k + 1, by go_num, by omega, by omega, HLT.out, by rcases hk.out with h | h <;> simp_all, rfl⟩
def dg (X w j : Nat) : Nat := 48 + X / 10 ^ (w - 1 - j) % 10
def digs (X w : Nat) : List Value := (List.range w).map fun j => Value.int .u8 (dg X w j : Int)
theorem len_digs (X w : Nat) : (digs X w).length = w := by simp [digs]
theorem count_le {c X wd : Nat} (h1 : 1 ≤ wd) (hX : X < 10 ^ wd) (h4 : c = 1 ∨ 10 ^ (c - 1) ≤ X) : c ≤ wd := by
  rcases h4 with h | h
  · omega
  · apply Nat.le_of_not_lt
    intro hk
    have := Nat.pow_le_pow_right (show 0 < 10 by decide) (show wd ≤ c - 1 by omega)
    omega
def PadP (X wd : Nat) (w : World) (e : Ending) (w' : World) : Prop := ∃ a c, e = .returned (.tuple #[.slice a wd c, .int .i64 0]) ∧ Own w' w.heap.size 5 1 (.slice a wd c) wd (digs X wd) ∧ Below w.heap.size w w'
def PadIn (X wd B t : Nat) (wr : World) (cur : Array Value) (T : TypeId) : Prop := wr.heap[B]? = some (.cells cur T (0, 0)) ∧ cur.size = 20 ∧ (∀ j, j < 20 → ∃ z, cur[j]? = some (.int .u8 z)) ∧ ∀ j, t ≤ j → j < wd → cur[j]? = some (.int .u8 (dg X wd j : Int))
theorem u8info : (Try.prog.info? 5).map (fun i => (i.zero, i.size, i.bytes)) = some (some (.int .u8 0), 1, 1) := by kernel_rfl
theorem pad_ok (X wd : Nat) (h1 : 1 ≤ wd) (h2 : wd ≤ 20) (hX : X < 10 ^ wd) (hX2 : X < 18446744073709551616) (w : World) : Calls Try.prog 94 #[.int .u64 (X : Int), .int .i64 (wd : Int)] w (PadP X wd w) := by
  have HXW := Aside.mk hX
  clear hX
  go_enter Try.func94, Try.ntmps94
  go_wp2_with (go_at_call 116; refine (count_any X hX2 _).mono ?_; rintro e w' ⟨c, rfl, hc1, hc2, hc3, hc4, rfl⟩; have hcw : c ≤ wd := count_le h1 HXW.out hc4; clear hc3 hc4)
  go_loopw [0, 7] (fun xv iv wr => ∃ t : Nat, t ≤ wd ∧ xv = .int .u64 ((X / 10 ^ (wd - t) : Nat) : Int) ∧ iv = .int .i64 ((t : Int) - 1) ∧ Aside (Below w.heap.size w wr) ∧ Aside (∃ cur T, PadIn X wd w.heap.size t wr cur T)) (fun _ iv _ => (intOf iv + 1).toNat)
  case atStart =>
    refine ⟨wd, Nat.le_refl _, by simp, rfl, ⟨below_new _ _⟩, ⟨_, _, heap_alloc_new _ _, rfl, ?_, fun j h1 h2 => by omega⟩⟩
    intro j hj
    have : j = 0 ∨ j = 1 ∨ j = 2 ∨ j = 3 ∨ j = 4 ∨ j = 5 ∨ j = 6 ∨ j = 7 ∨ j = 8 ∨ j = 9 ∨ j = 10 ∨ j = 11 ∨ j = 12 ∨ j = 13 ∨ j = 14 ∨ j = 15 ∨ j = 16 ∨ j = 17 ∨ j = 18 ∨ j = 19 := by omega
    rcases this with rfl | rfl | rfl | rfl | rfl | rfl | rfl | rfl | rfl | rfl | rfl | rfl | rfl | rfl | rfl | rfl | rfl | rfl | rfl | rfl <;> exact ⟨_, rfl⟩
  case round =>
    obtain ⟨t, ht, rfl, rfl, hb, hp⟩ := hrel
    obtain ⟨cur, T, hp⟩ := hp.out
    cases t with
    | zero =>
      have HP := Aside.mk hp
      clear hp
      have hsrc : Src Try.prog 1 37 (.slice (some ⟨w.heap.size, 0, none⟩) wd 20) wd (digs X wd) wr := by
        refine Src.ofSlice _ Try.underlying37 _ wd 20 (digs X wd) (by simp [len_digs]) ?_ ?_
        · intro j u hu
          rw [addr_add, cell_blk HP.out.1]
          have hj := (List.getElem?_eq_some_iff.1 hu).1
          rw [len_digs] at hj
          simp only [digs, List.getElem?_map, List.getElem?_range hj, Option.map_some, Option.some.injEq] at hu
          rw [Nat.zero_add, HP.out.2.2.2 j (Nat.zero_le _) hj, hu]
        · intro x hx
          simp only [digs, List.mem_map] at hx
          obtain ⟨j, _, rfl⟩ := hx
          rfl
      have HS := Aside.mk hsrc
      have hbb := Aside.mk (lt_of_blk HP.out.1)
      clear hsrc
      go_wp2_with (at_builtin; refine wpList_app _ rfl _ _ 37 37 rfl w.heap.size 5 (.int .u8 0) 1 1 Try.underlying37 u8info rfl _ _ _ rfl (Own.nil _ _ _ _) _ wd (digs X wd) rfl HS.out (by unfold maxLen; omega) (by omega) (Nat.le_of_lt hbb.out) ?_)
      intro v' w5 hown' hgrow _ hat
      obtain ⟨a', cap', rfl⟩ := hown'.form
      have HO := Aside.mk hown'
      have HB := Aside.mk (hb.out.trans (below_of_grown hgrow (Nat.le_of_lt hbb.out) (by simp [Value.ownBlock])))
      clear hown' hgrow hat
      go_wp2
      go_ret2
      exact ⟨a', cap', rfl, HO.out, HB.out⟩
    | succ k =>
      obtain ⟨z, hz⟩ := hp.2.2.1 k (by omega)
      have hc : wr.cell? ⟨w.heap.size, k, none⟩ = some (.int .u8 z) := (cell_blk hp.1).trans hz
      have hf : wr.frozen? ⟨w.heap.size, k, none⟩ = false := frozen_blk hp.1
      have hX3 : X / 10 ^ (wd - (k + 1)) < 18446744073709551616 := Nat.lt_of_le_of_lt (Nat.div_le_self _ _) hX2
      have HP := Aside.mk hp
      clear hp hz
      have e : (((k + 1 : Nat) : Int) - 1) = (k : Int) := by omega
      rw [e]
      generalize hq : X / 10 ^ (wd - (k + 1)) = q at *
      have HQ := Aside.mk hq
      clear hq
      go_wp2
      go_roundw
      case rel =>
        refine ⟨k, by omega, ?_, rfl, ⟨hb.out.setCell (Nat.le_refl _) _⟩, ⟨_, _, heap_setCell_at HP.out.1 _, by simp [HP.out.2.1], ?_, ?_⟩⟩
        · have : wd - k = wd - (k + 1) + 1 := by omega
          rw [this, Nat.pow_succ, ← Nat.div_div_eq_div_mul, HQ.out]
          go_num
        · intro j hj
          rw [Array.getElem?_setIfInBounds]
          by_cases hjk : k = j
          · rw [if_pos hjk, if_pos (by rw [HP.out.2.1]; omega)]
            exact ⟨_, rfl⟩
          · rw [if_neg hjk]; exact HP.out.2.2.1 j hj
        · intro j h1 h2
          rw [Array.getElem?_setIfInBounds]
          by_cases hjk : k = j
          · subst hjk
            rw [if_pos rfl, if_pos (by rw [HP.out.2.1]; omega)]
            have e1 : wd - 1 - k = wd - (k + 1) := by omega
            simp only [dg, e1, HQ.out]
            go_num
          · rw [if_neg hjk]; exact HP.out.2.2.2 j (by omega) h2
      case measure => simp [intOf]
end Go.Proofs.Ytmhjjhaipcgbiaa


namespace Go.Proofs.Ytmhjjhaipcgbiaa
open Go.RowKit
set_option linter.unusedVariables false
set_option linter.unusedSimpArgs false
set_option maxRecDepth 100000
set_option maxHeartbeats 2000000
theorem one_digs (X w : Nat) : ∀ u ∈ digs X w, u.oneCell' = true := by
  intro x hx
  simp only [digs, List.mem_map] at hx
  obtain ⟨j, _, rfl⟩ := hx
  rfl
def RowP (w : World) (e : Ending) (w' : World) : Prop := ∃ a n c xs, e = .returned (.slice a n c) ∧ Own w' w.heap.size 5 1 (.slice a n c) n xs ∧ n ≤ 40 ∧ Below w.heap.size w w'
theorem pad3 (y m d : Nat) (hy : y < 10000) (hm : m < 100) (hd : d < 100) (g : Nat) (T : TypeId) (w : World) (hr : w.heap[g]? = some (.cells #[.int .i64 (y : Int), .int .i64 (m : Int), .int .i64 (d : Int)] T (0, 0))) : Calls Try.prog 93 #[.string ⟨#[32, 45, 45]⟩, .slice (some ⟨g, 0, none⟩) 3 3] w (RowP w) := by
  have HR := Aside.mk hr
  clear hr
  go_enter Try.func93, Try.ntmps93
  go_wp2
  go_loopw [5, 13] (fun vo ii wr => ∃ i : Nat, i ≤ 3 ∧ ii = .int .i64 (i : Int) ∧ Aside (Below w.heap.size w wr) ∧ Aside (∃ k xs, k ≤ 5 * i ∧ Own wr w.heap.size 5 1 vo k xs)) (fun _ ii _ => 3 - (intOf ii).toNat)
  case atStart => exact ⟨0, by omega, rfl, ⟨Below.refl _ _⟩, ⟨0, [], by omega, Own.nil _ _ _ _⟩⟩
  case round =>
    obtain ⟨i, hi, rfl, hb, hp⟩ := hrel
    obtain ⟨k, xs, hk, hp⟩ := hp.out
    obtain ⟨a1, c1, rfl⟩ := hp.form
    have HP := Aside.mk hp
    clear hp
    have hg : wr.heap[g]? = some (.cells #[.int .i64 (y : Int), .int .i64 (m : Int), .int .i64 (d : Int)] T (0, 0)) := (hb.out.block g (lt_of_blk HR.out)).trans HR.out
    have hcs : i = 0 ∨ i = 1 ∨ i = 2 ∨ i = 3 := by omega
    rcases hcs with rfl | rfl | rfl | rfl
    · have hc : wr.cell? ⟨g, 0, none⟩ = some (.int .i64 (y : Int)) := (cell_blk hg).trans rfl
      have hbw := Aside.mk (World.block_lt_of_cell? _ _ hc)
      clear hg
      go_wp2_with (first | (go_at_call 94; refine (pad_ok y 4 (by omega) (by omega) (by omega) (by omega) _).mono ?_; rintro e w6 ⟨da, dc, rfl, hd1, hd2⟩; have HD := Aside.mk (And.intro hd1 hd2); clear hd1 hd2) | (at_builtin; refine wpList_app _ rfl _ _ 37 37 rfl w.heap.size 5 (.int .u8 0) 1 1 Try.underlying37 u8info rfl _ _ _ rfl (HP.out.below HD.out.2) _ 4 (digs y 4) rfl (HD.out.1.rd.src Try.underlying37 (one_digs _ _)) (by unfold maxLen; omega) (by omega) (by have := hb.out.size; have := HD.out.2.size; omega) ?_))
      intro v' w7 hown' hgrow _ hat
      obtain ⟨a7, c7, rfl⟩ := hown'.form
      have HP7 := Aside.mk hown'
      have hb7 := Aside.mk ((hb.out.trans (HD.out.2.mono hb.out.size)).trans (below_of_grown hgrow (by have := hb.out.size; have := HD.out.2.size; omega) (fun k e => (HP.out.lt k e).1)))
      clear hown' hgrow hat
      go_wp2
      go_roundw
      case rel => exact ⟨1, by omega, by go_num, hb7, ⟨_, _, by omega, HP7.out⟩⟩
      case measure => simp [intOf]
    · have hc : wr.cell? ⟨g, 1, none⟩ = some (.int .i64 (m : Int)) := (cell_blk hg).trans rfl
      have hbw := Aside.mk (World.block_lt_of_cell? _ _ hc)
      clear hg
      go_wp2_with (at_builtin; refine wpList_app _ rfl _ _ 37 37 rfl w.heap.size 5 (.int .u8 0) 1 1 Try.underlying37 u8info rfl _ _ _ rfl (HP.out.alloc _) _ 1 [.int .u8 45] rfl (src_one Try.underlying37 _ _ _ rfl rfl) (by unfold maxLen; omega) (by omega) (by have := hb.out.size; simp; omega) ?_)
      intro v' w5 hown' hgrow _ hat
      obtain ⟨a5, c5, rfl⟩ := hown'.form
      have HP5 := Aside.mk hown'
      have hb5 := Aside.mk ((hb.out.alloc hb.out.size (.cells #[.int .u8 45] 5)).trans (below_of_grown hgrow (by have := hb.out.size; simp; omega) (fun k e => (HP.out.lt k e).1)))
      clear hown' hgrow hat
      go_wp2_with (first | (go_at_call 94; refine (pad_ok m 2 (by omega) (by omega) (by omega) (by omega) _).mono ?_; rintro e w6 ⟨da, dc, rfl, hd1, hd2⟩; have HD := Aside.mk (And.intro hd1 hd2); clear hd1 hd2) | (at_builtin; refine wpList_app _ rfl _ _ 37 37 rfl w.heap.size 5 (.int .u8 0) 1 1 Try.underlying37 u8info rfl _ _ _ rfl (HP5.out.below HD.out.2) _ 2 (digs m 2) rfl (HD.out.1.rd.src Try.underlying37 (one_digs _ _)) (by unfold maxLen; omega) (by omega) (by have := hb5.out.size; have := HD.out.2.size; omega) ?_))
      intro v' w7 hown' hgrow _ hat
      obtain ⟨a7, c7, rfl⟩ := hown'.form
      have HP7 := Aside.mk hown'
      have hb7 := Aside.mk ((hb5.out.trans (HD.out.2.mono hb5.out.size)).trans (below_of_grown hgrow (by have := hb5.out.size; have := HD.out.2.size; omega) (fun k e => (HP5.out.lt k e).1)))
      clear hown' hgrow hat
      go_wp2
      go_roundw
      case rel => exact ⟨2, by omega, by go_num, hb7, ⟨_, _, by omega, HP7.out⟩⟩
      case measure => simp [intOf]
    · have hc : wr.cell? ⟨g, 2, none⟩ = some (.int .i64 (d : Int)) := (cell_blk hg).trans rfl
      have hbw := Aside.mk (World.block_lt_of_cell? _ _ hc)
      clear hg
      go_wp2_with (at_builtin; refine wpList_app _ rfl _ _ 37 37 rfl w.heap.size 5 (.int .u8 0) 1 1 Try.underlying37 u8info rfl _ _ _ rfl (HP.out.alloc _) _ 1 [.int .u8 45] rfl (src_one Try.underlying37 _ _ _ rfl rfl) (by unfold maxLen; omega) (by omega) (by have := hb.out.size; simp; omega) ?_)
      intro v' w5 hown' hgrow _ hat
      obtain ⟨a5, c5, rfl⟩ := hown'.form
      have HP5 := Aside.mk hown'
      have hb5 := Aside.mk ((hb.out.alloc hb.out.size (.cells #[.int .u8 45] 5)).trans (below_of_grown hgrow (by have := hb.out.size; simp; omega) (fun k e => (HP.out.lt k e).1)))
      clear hown' hgrow hat
      go_wp2_with (first | (go_at_call 94; refine (pad_ok d 2 (by omega) (by omega) (by omega) (by omega) _).mono ?_; rintro e w6 ⟨da, dc, rfl, hd1, hd2⟩; have HD := Aside.mk (And.intro hd1 hd2); clear hd1 hd2) | (at_builtin; refine wpList_app _ rfl _ _ 37 37 rfl w.heap.size 5 (.int .u8 0) 1 1 Try.underlying37 u8info rfl _ _ _ rfl (HP5.out.below HD.out.2) _ 2 (digs d 2) rfl (HD.out.1.rd.src Try.underlying37 (one_digs _ _)) (by unfold maxLen; omega) (by omega) (by have := hb5.out.size; have := HD.out.2.size; omega) ?_))
      intro v' w7 hown' hgrow _ hat
      obtain ⟨a7, c7, rfl⟩ := hown'.form
      have HP7 := Aside.mk hown'
      have hb7 := Aside.mk ((hb5.out.trans (HD.out.2.mono hb5.out.size)).trans (below_of_grown hgrow (by have := hb5.out.size; have := HD.out.2.size; omega) (fun k e => (HP5.out.lt k e).1)))
      clear hown' hgrow hat
      go_wp2
      go_roundw
      case rel => exact ⟨3, by omega, by go_num, hb7, ⟨_, _, by omega, HP7.out⟩⟩
      case measure => simp [intOf]
    · go_wp2
      go_ret
      exact ⟨a1, k, c1, xs, rfl, HP.out, by omega, hb.out⟩
theorem pad6 (y m d p q r : Nat) (hy : y < 10000) (hm : m < 100) (hd : d < 100) (hp : p < 100) (hq : q < 100) (hr : r < 100) (g : Nat) (T : TypeId) (w : World) (hr : w.heap[g]? = some (.cells #[.int .i64 (y : Int), .int .i64 (m : Int), .int .i64 (d : Int), .int .i64 (p : Int), .int .i64 (q : Int), .int .i64 (r : Int)] T (0, 0))) : Calls Try.prog 93 #[.string ⟨#[32, 45, 45, 84, 58, 58]⟩, .slice (some ⟨g, 0, none⟩) 6 6] w (RowP w) := by
  have HR := Aside.mk hr
  clear hr
  go_enter Try.func93, Try.ntmps93
  go_wp2
  go_loopw [5, 13] (fun vo ii wr => ∃ i : Nat, i ≤ 6 ∧ ii = .int .i64 (i : Int) ∧ Aside (Below w.heap.size w wr) ∧ Aside (∃ k xs, k ≤ 5 * i ∧ Own wr w.heap.size 5 1 vo k xs)) (fun _ ii _ => 6 - (intOf ii).toNat)
  case atStart => exact ⟨0, by omega, rfl, ⟨Below.refl _ _⟩, ⟨0, [], by omega, Own.nil _ _ _ _⟩⟩
  case round =>
    obtain ⟨i, hi, rfl, hb, hp⟩ := hrel
    obtain ⟨k, xs, hk, hp⟩ := hp.out
    obtain ⟨a1, c1, rfl⟩ := hp.form
    have HP := Aside.mk hp
    clear hp
    have hg : wr.heap[g]? = some (.cells #[.int .i64 (y : Int), .int .i64 (m : Int), .int .i64 (d : Int), .int .i64 (p : Int), .int .i64 (q : Int), .int .i64 (r : Int)] T (0, 0)) := (hb.out.block g (lt_of_blk HR.out)).trans HR.out
    have hcs : i = 0 ∨ i = 1 ∨ i = 2 ∨ i = 3 ∨ i = 4 ∨ i = 5 ∨ i = 6 := by omega
    rcases hcs with rfl | rfl | rfl | rfl | rfl | rfl | rfl
    · have hc : wr.cell? ⟨g, 0, none⟩ = some (.int .i64 (y : Int)) := (cell_blk hg).trans rfl
      have hbw := Aside.mk (World.block_lt_of_cell? _ _ hc)
      clear hg
      go_wp2_with (first | (go_at_call 94; refine (pad_ok y 4 (by omega) (by omega) (by omega) (by omega) _).mono ?_; rintro e w6 ⟨da, dc, rfl, hd1, hd2⟩; have HD := Aside.mk (And.intro hd1 hd2); clear hd1 hd2) | (at_builtin; refine wpList_app _ rfl _ _ 37 37 rfl w.heap.size 5 (.int .u8 0) 1 1 Try.underlying37 u8info rfl _ _ _ rfl (HP.out.below HD.out.2) _ 4 (digs y 4) rfl (HD.out.1.rd.src Try.underlying37 (one_digs _ _)) (by unfold maxLen; omega) (by omega) (by have := hb.out.size; have := HD.out.2.size; omega) ?_))
      intro v' w7 hown' hgrow _ hat
      obtain ⟨a7, c7, rfl⟩ := hown'.form
      have HP7 := Aside.mk hown'
      have hb7 := Aside.mk ((hb.out.trans (HD.out.2.mono hb.out.size)).trans (below_of_grown hgrow (by have := hb.out.size; have := HD.out.2.size; omega) (fun k e => (HP.out.lt k e).1)))
      clear hown' hgrow hat
      go_wp2
      go_roundw
      case rel => exact ⟨1, by omega, by go_num, hb7, ⟨_, _, by omega, HP7.out⟩⟩
      case measure => simp [intOf]
    · have hc : wr.cell? ⟨g, 1, none⟩ = some (.int .i64 (m : Int)) := (cell_blk hg).trans rfl
      have hbw := Aside.mk (World.block_lt_of_cell? _ _ hc)
      clear hg
      go_wp2_with (at_builtin; refine wpList_app _ rfl _ _ 37 37 rfl w.heap.size 5 (.int .u8 0) 1 1 Try.underlying37 u8info rfl _ _ _ rfl (HP.out.alloc _) _ 1 [.int .u8 45] rfl (src_one Try.underlying37 _ _ _ rfl rfl) (by unfold maxLen; omega) (by omega) (by have := hb.out.size; simp; omega) ?_)
      intro v' w5 hown' hgrow _ hat
      obtain ⟨a5, c5, rfl⟩ := hown'.form
      have HP5 := Aside.mk hown'
      have hb5 := Aside.mk ((hb.out.alloc hb.out.size (.cells #[.int .u8 45] 5)).trans (below_of_grown hgrow (by have := hb.out.size; simp; omega) (fun k e => (HP.out.lt k e).1)))
      clear hown' hgrow hat
      go_wp2_with (first | (go_at_call 94; refine (pad_ok m 2 (by omega) (by omega) (by omega) (by omega) _).mono ?_; rintro e w6 ⟨da, dc, rfl, hd1, hd2⟩; have HD := Aside.mk (And.intro hd1 hd2); clear hd1 hd2) | (at_builtin; refine wpList_app _ rfl _ _ 37 37 rfl w.heap.size 5 (.int .u8 0) 1 1 Try.underlying37 u8info rfl _ _ _ rfl (HP5.out.below HD.out.2) _ 2 (digs m 2) rfl (HD.out.1.rd.src Try.underlying37 (one_digs _ _)) (by unfold maxLen; omega) (by omega) (by have := hb5.out.size; have := HD.out.2.size; omega) ?_))
      intro v' w7 hown' hgrow _ hat
      obtain ⟨a7, c7, rfl⟩ := hown'.form
      have HP7 := Aside.mk hown'
      have hb7 := Aside.mk ((hb5.out.trans (HD.out.2.mono hb5.out.size)).trans (below_of_grown hgrow (by have := hb5.out.size; have := HD.out.2.size; omega) (fun k e => (HP5.out.lt k e).1)))
      clear hown' hgrow hat
      go_wp2
      go_roundw
      case rel => exact ⟨2, by omega, by go_num, hb7, ⟨_, _, by omega, HP7.out⟩⟩
      case measure => simp [intOf]
    · have hc : wr.cell? ⟨g, 2, none⟩ = some (.int .i64 (d : Int)) := (cell_blk hg).trans rfl
      have hbw := Aside.mk (World.block_lt_of_cell? _ _ hc)
      clear hg
      go_wp2_with (at_builtin; refine wpList_app _ rfl _ _ 37 37 rfl w.heap.size 5 (.int .u8 0) 1 1 Try.underlying37 u8info rfl _ _ _ rfl (HP.out.alloc _) _ 1 [.int .u8 45] rfl (src_one Try.underlying37 _ _ _ rfl rfl) (by unfold maxLen; omega) (by omega) (by have := hb.out.size; simp; omega) ?_)
      intro v' w5 hown' hgrow _ hat
      obtain ⟨a5, c5, rfl⟩ := hown'.form
      have HP5 := Aside.mk hown'
      have hb5 := Aside.mk ((hb.out.alloc hb.out.size (.cells #[.int .u8 45] 5)).trans (below_of_grown hgrow (by have := hb.out.size; simp; omega) (fun k e => (HP.out.lt k e).1)))
      clear hown' hgrow hat
      go_wp2_with (first | (go_at_call 94; refine (pad_ok d 2 (by omega) (by omega) (by omega) (by omega) _).mono ?_; rintro e w6 ⟨da, dc, rfl, hd1, hd2⟩; have HD := Aside.mk (And.intro hd1 hd2); clear hd1 hd2) | (at_builtin; refine wpList_app _ rfl _ _ 37 37 rfl w.heap.size 5 (.int .u8 0) 1 1 Try.underlying37 u8info rfl _ _ _ rfl (HP5.out.below HD.out.2) _ 2 (digs d 2) rfl (HD.out.1.rd.src Try.underlying37 (one_digs _ _)) (by unfold maxLen; omega) (by omega) (by have := hb5.out.size; have := HD.out.2.size; omega) ?_))
      intro v' w7 hown' hgrow _ hat
      obtain ⟨a7, c7, rfl⟩ := hown'.form
      have HP7 := Aside.mk hown'
      have hb7 := Aside.mk ((hb5.out.trans (HD.out.2.mono hb5.out.size)).trans (below_of_grown hgrow (by have := hb5.out.size; have := HD.out.2.size; omega) (fun k e => (HP5.out.lt k e).1)))
      clear hown' hgrow hat
      go_wp2
      go_roundw
      case rel => exact ⟨3, by omega, by go_num, hb7, ⟨_, _, by omega, HP7.out⟩⟩
      case measure => simp [intOf]
    · have hc : wr.cell? ⟨g, 3, none⟩ = some (.int .i64 (p : Int)) := (cell_blk hg).trans rfl
      have hbw := Aside.mk (World.block_lt_of_cell? _ _ hc)
      clear hg
      go_wp2_with (at_builtin; refine wpList_app _ rfl _ _ 37 37 rfl w.heap.size 5 (.int .u8 0) 1 1 Try.underlying37 u8info rfl _ _ _ rfl (HP.out.alloc _) _ 1 [.int .u8 84] rfl (src_one Try.underlying37 _ _ _ rfl rfl) (by unfold maxLen; omega) (by omega) (by have := hb.out.size; simp; omega) ?_)
      intro v' w5 hown' hgrow _ hat
      obtain ⟨a5, c5, rfl⟩ := hown'.form
      have HP5 := Aside.mk hown'
      have hb5 := Aside.mk ((hb.out.alloc hb.out.size (.cells #[.int .u8 84] 5)).trans (below_of_grown hgrow (by have := hb.out.size; simp; omega) (fun k e => (HP.out.lt k e).1)))
      clear hown' hgrow hat
      go_wp2_with (first | (go_at_call 94; refine (pad_ok p 2 (by omega) (by omega) (by omega) (by omega) _).mono ?_; rintro e w6 ⟨da, dc, rfl, hd1, hd2⟩; have HD := Aside.mk (And.intro hd1 hd2); clear hd1 hd2) | (at_builtin; refine wpList_app _ rfl _ _ 37 37 rfl w.heap.size 5 (.int .u8 0) 1 1 Try.underlying37 u8info rfl _ _ _ rfl (HP5.out.below HD.out.2) _ 2 (digs p 2) rfl (HD.out.1.rd.src Try.underlying37 (one_digs _ _)) (by unfold maxLen; omega) (by omega) (by have := hb5.out.size; have := HD.out.2.size; omega) ?_))
      intro v' w7 hown' hgrow _ hat
      obtain ⟨a7, c7, rfl⟩ := hown'.form
      have HP7 := Aside.mk hown'
      have hb7 := Aside.mk ((hb5.out.trans (HD.out.2.mono hb5.out.size)).trans (below_of_grown hgrow (by have := hb5.out.size; have := HD.out.2.size; omega) (fun k e => (HP5.out.lt k e).1)))
      clear hown' hgrow hat
      go_wp2
      go_roundw
      case rel => exact ⟨4, by omega, by go_num, hb7, ⟨_, _, by omega, HP7.out⟩⟩
      case measure => simp [intOf]
    · have hc : wr.cell? ⟨g, 4, none⟩ = some (.int .i64 (q : Int)) := (cell_blk hg).trans rfl
      have hbw := Aside.mk (World.block_lt_of_cell? _ _ hc)
      clear hg
      go_wp2_with (at_builtin; refine wpList_app _ rfl _ _ 37 37 rfl w.heap.size 5 (.int .u8 0) 1 1 Try.underlying37 u8info rfl _ _ _ rfl (HP.out.alloc _) _ 1 [.int .u8 58] rfl (src_one Try.underlying37 _ _ _ rfl rfl) (by unfold maxLen; omega) (by omega) (by have := hb.out.size; simp; omega) ?_)
      intro v' w5 hown' hgrow _ hat
      obtain ⟨a5, c5, rfl⟩ := hown'.form
      have HP5 := Aside.mk hown'
      have hb5 := Aside.mk ((hb.out.alloc hb.out.size (.cells #[.int .u8 58] 5)).trans (below_of_grown hgrow (by have := hb.out.size; simp; omega) (fun k e => (HP.out.lt k e).1)))
      clear hown' hgrow hat
      go_wp2_with (first | (go_at_call 94; refine (pad_ok q 2 (by omega) (by omega) (by omega) (by omega) _).mono ?_; rintro e w6 ⟨da, dc, rfl, hd1, hd2⟩; have HD := Aside.mk (And.intro hd1 hd2); clear hd1 hd2) | (at_builtin; refine wpList_app _ rfl _ _ 37 37 rfl w.heap.size 5 (.int .u8 0) 1 1 Try.underlying37 u8info rfl _ _ _ rfl (HP5.out.below HD.out.2) _ 2 (digs q 2) rfl (HD.out.1.rd.src Try.underlying37 (one_digs _ _)) (by unfold maxLen; omega) (by omega) (by have := hb5.out.size; have := HD.out.2.size; omega) ?_))
      intro v' w7 hown' hgrow _ hat
      obtain ⟨a7, c7, rfl⟩ := hown'.form
      have HP7 := Aside.mk hown'
      have hb7 := Aside.mk ((hb5.out.trans (HD.out.2.mono hb5.out.size)).trans (below_of_grown hgrow (by have := hb5.out.size; have := HD.out.2.size; omega) (fun k e => (HP5.out.lt k e).1)))
      clear hown' hgrow hat
      go_wp2
      go_roundw
      case rel => exact ⟨5, by omega, by go_num, hb7, ⟨_, _, by omega, HP7.out⟩⟩
      case measure => simp [intOf]
    · have hc : wr.cell? ⟨g, 5, none⟩ = some (.int .i64 (r : Int)) := (cell_blk hg).trans rfl
      have hbw := Aside.mk (World.block_lt_of_cell? _ _ hc)
      clear hg
      go_wp2_with (at_builtin; refine wpList_app _ rfl _ _ 37 37 rfl w.heap.size 5 (.int .u8 0) 1 1 Try.underlying37 u8info rfl _ _ _ rfl (HP.out.alloc _) _ 1 [.int .u8 58] rfl (src_one Try.underlying37 _ _ _ rfl rfl) (by unfold maxLen; omega) (by omega) (by have := hb.out.size; simp; omega) ?_)
      intro v' w5 hown' hgrow _ hat
      obtain ⟨a5, c5, rfl⟩ := hown'.form
      have HP5 := Aside.mk hown'
      have hb5 := Aside.mk ((hb.out.alloc hb.out.size (.cells #[.int .u8 58] 5)).trans (below_of_grown hgrow (by have := hb.out.size; simp; omega) (fun k e => (HP.out.lt k e).1)))
      clear hown' hgrow hat
      go_wp2_with (first | (go_at_call 94; refine (pad_ok r 2 (by omega) (by omega) (by omega) (by omega) _).mono ?_; rintro e w6 ⟨da, dc, rfl, hd1, hd2⟩; have HD := Aside.mk (And.intro hd1 hd2); clear hd1 hd2) | (at_builtin; refine wpList_app _ rfl _ _ 37 37 rfl w.heap.size 5 (.int .u8 0) 1 1 Try.underlying37 u8info rfl _ _ _ rfl (HP5.out.below HD.out.2) _ 2 (digs r 2) rfl (HD.out.1.rd.src Try.underlying37 (one_digs _ _)) (by unfold maxLen; omega) (by omega) (by have := hb5.out.size; have := HD.out.2.size; omega) ?_))
      intro v' w7 hown' hgrow _ hat
      obtain ⟨a7, c7, rfl⟩ := hown'.form
      have HP7 := Aside.mk hown'
      have hb7 := Aside.mk ((hb5.out.trans (HD.out.2.mono hb5.out.size)).trans (below_of_grown hgrow (by have := hb5.out.size; have := HD.out.2.size; omega) (fun k e => (HP5.out.lt k e).1)))
      clear hown' hgrow hat
      go_wp2
      go_roundw
      case rel => exact ⟨6, by omega, by go_num, hb7, ⟨_, _, by omega, HP7.out⟩⟩
      case measure => simp [intOf]
    · go_wp2
      go_ret
      exact ⟨a1, k, c1, xs, rfl, HP.out, by omega, hb.out⟩
end Go.Proofs.Ytmhjjhaipcgbiaa
