/- Days: date.Leap, ahead, months, date; digit.Count, Pad; date.pad, PrintDay, PrintMoment. -/
import Derived.Test.YtmhjjhaipcgbiaaScaled
namespace Go.Proofs.Ytmhjjhaipcgbiaa
open Go.RowKit
set_option linter.unusedVariables false
set_option linter.unusedSimpArgs false
set_option maxRecDepth 100000
set_option maxHeartbeats 2000000

def leapB (y : Int) : Bool := decide (0 ≤ y ∧ y ≤ 9999 ∧ y % 4 = 0 ∧ (y % 100 ≠ 0 ∨ y % 400 = 0))

theorem leap_any (y : Int) (h0 : 0 ≤ y) (h1 : y ≤ 9999) (w : World) : Calls Try.prog 120 #[.int .i64 y] w fun e w' => e = .returned (.bool (leapB y)) ∧ w = w' := by
  by_cases c1 : y % 4 = 0
  · by_cases c2 : y % 100 = 0
    · have hl : Aside (leapB y = (y % 400 == 0)) := ⟨by unfold leapB; by_cases c3 : y % 400 = 0 <;> simp [c1, c2, c3, h0, h1]⟩
      have e1 : (y % 4 == 0) = true := by simpa using c1
      have e2 : (y % 100 != 0) = false := by simpa using c2
      clear c1 c2
      go_enter Try.func120, Try.ntmps120
      go_wp2
      go_ret
      exact ⟨by rw [hl.out]; rfl, rfl⟩
    · have hl : Aside (leapB y = true) := ⟨by unfold leapB; simp [c1, c2, h0, h1]⟩
      have e1 : (y % 4 == 0) = true := by simpa using c1
      have e2 : (y % 100 != 0) = true := by simpa using c2
      clear c1 c2
      go_enter Try.func120, Try.ntmps120
      go_wp2
      go_ret
      exact ⟨by rw [hl.out]; rfl, rfl⟩
  · have hl : Aside (leapB y = false) := ⟨by unfold leapB; simp [c1]⟩
    have e1 : (y % 4 == 0) = false := by simpa using c1
    clear c1
    go_enter Try.func120, Try.ntmps120
    go_wp2
    go_ret
    exact ⟨by rw [hl.out]; rfl, rfl⟩

/-- How many days stand ahead of a year. -/
def dby (y : Int) : Int := if y = 0 then 0 else 365 * (y - 1 + 1) + (y - 1) / 4 - (y - 1) / 100 + (y - 1) / 400 + 1

theorem ahead_any (y : Int) (h0 : 0 ≤ y) (h1 : y ≤ 10000) (w : World) : Calls Try.prog 114 #[.int .i64 y] w fun e w' => e = .returned (.int .i64 (dby y)) ∧ w = w' := by
  by_cases c : y = 0
  · subst c
    go_enter Try.func114, Try.ntmps114
    go_wp2
    go_ret
    exact ⟨rfl, rfl⟩
  · have hd : Aside (dby y = 365 * (y - 1 + 1) + (y - 1) / 4 - (y - 1) / 100 + (y - 1) / 400 + 1) := ⟨by unfold dby; rw [if_neg c]⟩
    have e1 : (y == 0) = false := by simpa using c
    have h2 : 1 ≤ y := by omega
    clear c
    go_enter Try.func114, Try.ntmps114
    go_wp2
    go_ret
    refine ⟨ret_int ?_, rfl⟩
    rw [hd.out]
    omega

/-- The lengths of a year's months. -/
def feb (y : Int) : Int := 28 + (if leapB y then 1 else 0)
def mlens (y : Int) : List Int := [31, feb y, 31, 30, 31, 30, 31, 31, 30, 31, 30, 31]

theorem months_any (y : Int) (h0 : 0 ≤ y) (h1 : y ≤ 9999) (w : World) : Calls Try.prog 115 #[.int .i64 y] w fun e w' => e = .returned (.agg #[.int .i64 31, .int .i64 (feb y), .int .i64 31, .int .i64 30, .int .i64 31, .int .i64 30, .int .i64 31, .int .i64 31, .int .i64 30, .int .i64 31, .int .i64 30, .int .i64 31]) ∧ Below w.heap.size w w' := by
  cases hl : leapB y
  · have HL := Aside.mk hl
    clear hl
    go_enter Try.func115, Try.ntmps115
    go_wp2_with (go_at_call 120; refine (leap_any _ h0 h1 _).mono ?_; rw [HL.out]; rintro e w1 ⟨rfl, rfl⟩)
    refine bodyPost_ret (v := .agg #[.int .i64 31, .int .i64 28, .int .i64 31, .int .i64 30, .int .i64 31, .int .i64 30, .int .i64 31, .int .i64 31, .int .i64 30, .int .i64 31, .int .i64 30, .int .i64 31]) (by simp [results, Try.results115, go_sem]) rfl ⟨?_, (by repeat (first | exact Below.refl _ _ | assumption | (refine Below.drew ?_) | (refine Below.trans ?_ (below_drewN _ _ _)) | (refine Below.alloc ?_ (by first | omega | (simp; done) | (simp; omega)) _) | (refine Below.setCell ?_ (by first | omega | (simp; done) | (simp; omega)) _)))⟩
    simp [feb, HL.out]
  · have HL := Aside.mk hl
    clear hl
    go_enter Try.func115, Try.ntmps115
    go_wp2_with (go_at_call 120; refine (leap_any _ h0 h1 _).mono ?_; rw [HL.out]; rintro e w1 ⟨rfl, rfl⟩)
    refine bodyPost_ret (v := .agg #[.int .i64 31, .int .i64 29, .int .i64 31, .int .i64 30, .int .i64 31, .int .i64 30, .int .i64 31, .int .i64 31, .int .i64 30, .int .i64 31, .int .i64 30, .int .i64 31]) (by simp [results, Try.results115, go_sem]) rfl ⟨?_, (by repeat (first | exact Below.refl _ _ | assumption | (refine Below.drew ?_) | (refine Below.trans ?_ (below_drewN _ _ _)) | (refine Below.alloc ?_ (by first | omega | (simp; done) | (simp; omega)) _) | (refine Below.setCell ?_ (by first | omega | (simp; done) | (simp; omega)) _)))⟩
    simp [feb, HL.out]

/-- Days of a year ahead of its month m (from 0 on). -/
def cum (y : Int) (m : Nat) : Int := ((mlens y).take m).sum
def isDate (N y m d : Int) : Prop := 0 ≤ y ∧ y ≤ 9999 ∧ ∃ j : Nat, m = j + 1 ∧ j < 12 ∧ 1 ≤ d ∧ d ≤ (mlens y).getD j 0 ∧ dby y + cum y j + d - 1 = N

theorem cum_succ (y : Int) (j : Nat) (h : j < 12) : cum y (j + 1) = cum y j + (mlens y).getD j 0 := by
  unfold cum
  have hl : j < (mlens y).length := by simp [mlens]; exact h
  rw [List.take_succ_eq_append_getElem hl, List.sum_append]
  simp [List.getD, List.getElem?_eq_getElem hl]
theorem cum_all (y : Int) : cum y 12 = 365 + (if leapB y then 1 else 0) := by
  unfold cum mlens feb
  cases leapB y <;> rfl
theorem mlens_pos (y : Int) (j : Nat) (h : j < 12) : 28 ≤ (mlens y).getD j 0 ∧ (mlens y).getD j 0 ≤ 31 := by
  unfold mlens feb
  have : j = 0 ∨ j = 1 ∨ j = 2 ∨ j = 3 ∨ j = 4 ∨ j = 5 ∨ j = 6 ∨ j = 7 ∨ j = 8 ∨ j = 9 ∨ j = 10 ∨ j = 11 := by omega
  rcases this with rfl | rfl | rfl | rfl | rfl | rfl | rfl | rfl | rfl | rfl | rfl | rfl <;> cases leapB y <;> simp
theorem dby_succ (y : Int) (h0 : 0 ≤ y) (h1 : y ≤ 9999) : dby (y + 1) = dby y + 365 + (if leapB y then 1 else 0) := by
  unfold dby leapB
  by_cases c : y = 0
  · subst c; decide
  · rw [if_neg (by omega), if_neg c]
    by_cases c1 : y % 4 = 0 <;> by_cases c2 : y % 100 = 0 <;> by_cases c3 : y % 400 = 0 <;> simp [c1, c2, c3, h0, h1] <;> omega
theorem dby_le (y : Int) (h0 : 0 ≤ y) : dby y ≤ 366 * y ∧ 0 ≤ dby y ∧ 365 * y ≤ dby y := by
  unfold dby
  split
  · omega
  · omega

/-- The answer of date: a year, a month, a day. -/
def DateP (N : Int) (w : World) (e : Ending) (w' : World) : Prop := ∃ y m d, e = .returned (.tuple #[.int .i64 y, .int .i64 m, .int .i64 d]) ∧ isDate N y m d ∧ Below w.heap.size w w'

set_option maxHeartbeats 4000000 in
theorem date_any (N : Int) (h0 : 0 ≤ N) (h1 : N < 3652425) (w : World) : Calls Try.prog 92 #[.int .i64 (N - 719528)] w (DateP N w) := by
  have e0 : wrap64 (N - 719528 - -719528) = N := by unfold wrap64; omega
  go_enter Try.func92, Try.ntmps92
  go_wp2_with fail
  have g0 : dby (N / 366) ≤ N := by have := (dby_le (N / 366) (by omega)).1; omega
  have G0 := Aside.mk g0
  clear g0 e0
  go_loop [2] (fun t => ∃ y : Int, 0 ≤ y ∧ y ≤ 9999 ∧ Aside (dby y ≤ N) ∧ t = .int .i64 y) (fun t => (9999 - intOf t).toNat)
  case atStart => exact ⟨_, by omega, by omega, G0, rfl⟩
  case round =>
    obtain ⟨y, hy1, hy2, hy3, rfl⟩ := hrel
    have hp := dby_le (y + 1) (by omega)
    have hq := dby_le y (by omega)
    by_cases hc : y < 9999 ∧ dby (y + 1) ≤ N
    · obtain ⟨hlt, hd⟩ := hc
      go_wp2_with (go_at_call 114; refine (ahead_any _ (by omega) (by omega) _).mono ?_; rintro e w' ⟨rfl, rfl⟩)
      go_round
      case rel => exact ⟨y + 1, by omega, by omega, ⟨hd⟩, rfl⟩
      case measure => simp [intOf]; omega
    · have hsucc := dby_succ y hy1 hy2
      have hz : N < dby (y + 1) := by
        by_cases e : y = 9999
        · have : dby (9999 + 1) = 3652425 := by decide
          rw [e]; omega
        · omega
      have hy4 := hy3.out
      have hlen := cum_all y
      have hrem : 0 ≤ N - dby y ∧ N - dby y < cum y 12 := by rw [hlen]; omega
      have HREM := Aside.mk hrem
      have hbd : N - dby y ≤ 400 := by rw [hlen] at hrem; split at hrem <;> omega
      clear hc G0 hrem hsucc hlen
      have hlt2 : y < 9999 ∨ decide (y < 9999) = false := by by_cases h : y < 9999 <;> simp [h]
      have hmp := mlens_pos y
      have HMP := Aside.mk hmp
      clear hmp
      rcases hlt2 with hlt | hlt
      all_goals
        go_wp2_with (go_at_call 114; refine (ahead_any _ (by omega) (by omega) _).mono ?_; rintro e w' ⟨rfl, rfl⟩)
        refine (months_any y hy1 hy2 _).mono ?_
        rintro e w1 ⟨rfl, hb1⟩
        have hcell : ∀ j, j < 12 → (w1.alloc (.cells #[.int .i64 31, .int .i64 (feb y), .int .i64 31, .int .i64 30, .int .i64 31, .int .i64 30, .int .i64 31, .int .i64 31, .int .i64 30, .int .i64 31, .int .i64 30, .int .i64 31] 192)).cell? ⟨w1.heap.size, j, none⟩ = some (.int .i64 ((mlens y).getD j 0)) := by
          intro j hj
          rw [cell_blk (heap_alloc_new w1 _)]
          have : j = 0 ∨ j = 1 ∨ j = 2 ∨ j = 3 ∨ j = 4 ∨ j = 5 ∨ j = 6 ∨ j = 7 ∨ j = 8 ∨ j = 9 ∨ j = 10 ∨ j = 11 := by omega
          rcases this with rfl | rfl | rfl | rfl | rfl | rfl | rfl | rfl | rfl | rfl | rfl | rfl <;> rfl
        have HC := Aside.mk hcell
        have HB := Aside.mk (hb1.trans ((below_new w1 (.cells #[.int .i64 31, .int .i64 (feb y), .int .i64 31, .int .i64 30, .int .i64 31, .int .i64 30, .int .i64 31, .int .i64 31, .int .i64 30, .int .i64 31, .int .i64 30, .int .i64 31] 192)).mono hb1.size))
        clear hcell
        go_wp2_with fail
        generalize w1.alloc (.cells #[.int .i64 31, .int .i64 (feb y), .int .i64 31, .int .i64 30, .int .i64 31, .int .i64 30, .int .i64 31, .int .i64 31, .int .i64 30, .int .i64 31, .int .i64 30, .int .i64 31] 192) = w2 at *
        go_loop [0, 3] (fun vn vm => ∃ (j : Nat) (n : Int), j < 12 ∧ vm = .int .i64 j ∧ vn = .int .i64 n ∧ Aside (n = N - dby y - cum y j) ∧ 0 ≤ n ∧ n ≤ 400) (fun _ vm => 12 - (intOf vm).toNat)
        case atStart => exact ⟨0, _, by omega, rfl, rfl, ⟨by simp [cum]⟩, HREM.out.1, hbd⟩
        case round =>
          obtain ⟨j, n, hj, rfl, rfl, hn, hn0, hn400⟩ := hrel
          have hc := HC.out j hj
          have hm := HMP.out j hj
          have hcs := cum_succ y j hj
          obtain ⟨l, hl⟩ : ∃ l, l = (mlens y).getD j 0 := ⟨_, rfl⟩
          rw [← hl] at hc hm hcs
          have HL := Aside.mk hl
          have HS := Aside.mk hcs
          clear hl hcs
          obtain ⟨hm1, hm2⟩ := hm
          by_cases hln : l ≤ n
          · have hj2 : j + 1 < 12 := by
              by_cases e : j = 11
              · subst e
                have h3 := HREM.out.2
                have h4 := HS.out
                have h5 := hn.out
                simp only [Nat.reduceAdd] at h4
                omega
              · omega
            go_wp2
            go_round
            case rel => exact ⟨j + 1, n - l, hj2, by go_num, rfl, ⟨by rw [HS.out, hn.out]; omega⟩, by omega, by omega⟩
            case measure => simp [intOf]; omega
          · go_wp2
            go_ret3
            exact ⟨y, _, _, rfl, ⟨hy1, hy2, j, rfl, hj, by omega, by rw [← HL.out]; omega, by rw [hn.out]; omega⟩, HB.out⟩
end Go.Proofs.Ytmhjjhaipcgbiaa
