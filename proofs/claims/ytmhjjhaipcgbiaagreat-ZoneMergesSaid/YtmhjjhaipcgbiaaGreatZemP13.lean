/- Texts of this claim, one behind the other: EqF, OfR. -/
import Derived.Test.YtmhjjhaipcgbiaaGreatZemP9
import Derived.Test.YtmhjjhaipcgbiaaGreatZemP10

namespace Go.Proofs.YtmhjjhaipcgbiaaGreat
open Go.RowKit
set_option linter.unusedVariables false
set_option linter.unusedSimpArgs false
set_option maxRecDepth 100000
set_option maxHeartbeats 1000000
def maskErr (m : Int) (bs : List Int) : Int := if maskOK m bs then 0 else 160
theorem maskOK_no {m : Int} {bs : List Int} (h : ¬ (0 ≤ m ∧ m ≤ 8 * (bs.length : Int) ∧ 8 * ((bs.length : Int) - 1) < m ∧ (0 < m % 8 → (bs.getD (bs.length - 1) 0).toNat / 2 ^ (m % 8).toNat = 0))) : (160 : Int) = maskErr m bs := by
  rw [maskErr, if_neg]
  unfold maskOK
  rw [decide_eq_true_eq]
  exact h
theorem maskOK_yes {m : Int} {bs : List Int} (h : 0 ≤ m ∧ m ≤ 8 * (bs.length : Int) ∧ 8 * ((bs.length : Int) - 1) < m ∧ (0 < m % 8 → (bs.getD (bs.length - 1) 0).toNat / 2 ^ (m % 8).toNat = 0)) : (0 : Int) = maskErr m bs := by
  rw [maskErr, if_pos]
  unfold maskOK
  rw [decide_eq_true_eq]
  exact h
theorem maskCheck_any (m : Int) (bs : List Int) (B : SL) (hl : bs.length ≤ 100000000) (hb : IsBytes bs) (w : World) (h : Rd w 1 (.slice B.a bs.length B.c) bs.length (bs.map (.int .u8))) :
    Calls Tryz.prog 149 #[.agg #[.int .i64 m, .slice B.a bs.length B.c]] w (IntP (maskErr m bs) w) := by
  obtain ⟨ba, bc⟩ := B
  have HB0 := Aside.mk (below_new w (.cells #[.int .i64 m, .slice ba bs.length bc] 60))
  have HR := Aside.mk h
  clear h
  dsimp only
  by_cases h1 : m < 0
  · have HD := Aside.mk (maskOK_no (m := m) (bs := bs) (by omega))
    go_enter Tryz.func149, Tryz.ntmps149
    go_wp2
    go_ret
    exact ⟨ret_int HD.out, HB0.out⟩
  by_cases h2 : 8 * (bs.length : Int) < m
  · have HD := Aside.mk (maskOK_no (m := m) (bs := bs) (by omega))
    go_enter Tryz.func149, Tryz.ntmps149
    go_wp2
    go_ret
    exact ⟨ret_int HD.out, HB0.out⟩
  by_cases h3 : m ≤ 8 * ((bs.length : Int) - 1)
  · have HD := Aside.mk (maskOK_no (m := m) (bs := bs) (by omega))
    go_enter Tryz.func149, Tryz.ntmps149
    go_wp2
    go_ret
    exact ⟨ret_int HD.out, HB0.out⟩
  by_cases h4 : 0 < m % 8
  · obtain ⟨g, off, cap, hs, hel, hecap, hc⟩ := rd_get HR.out (bs.length - 1) (by omega)
    simp only [Value.slice.injEq, true_and] at hs
    obtain ⟨rfl, rfl⟩ := hs
    have hc2 := (HB0.out.cell (p := ⟨g, off + (bs.length - 1), none⟩) (World.block_lt_of_cell? _ _ hc)).trans hc
    have hv := getD_byte hb (bs.length - 1)
    have HY := Aside.mk (fun (h : (bs.getD (bs.length - 1) 0).toNat / 2 ^ (m % 8).toNat = 0) => maskOK_yes (m := m) (bs := bs) ⟨by omega, by omega, by omega, fun _ => h⟩)
    have HZ := Aside.mk (fun (h : ¬ (bs.getD (bs.length - 1) 0).toNat / 2 ^ (m % 8).toNat = 0) => maskOK_no (m := m) (bs := bs) (fun h2 => h (h2.2.2.2 h4)))
    obtain ⟨M, rfl⟩ := Int.eq_ofNat_of_zero_le (show 0 ≤ m by omega)
    clear HR
    clear hc
    generalize bs.getD (bs.length - 1) 0 = y at *
    generalize bs.length = n at *
    cases n with
    | zero => omega
    | succ n =>
      simp only [Nat.add_sub_cancel] at hc2
      obtain ⟨Y, rfl⟩ := Int.eq_ofNat_of_zero_le hv.1
      have e1 : ((M : Int) % 8).toNat = M % 8 := by omega
      have e2 : (Y : Int) / 2 ^ (M % 8) = ((Y / 2 ^ (M % 8) : Nat) : Int) := by simp
      rw [e1, Int.toNat_natCast] at HY HZ
      by_cases hz : Y / 2 ^ (M % 8) = 0
      · have HQ := Aside.mk (HY.out hz)
        have hq : ((Y : Int) / 2 ^ (M % 8) != 0) = false := by rw [e2, hz]; rfl
        clear e1 e2 hz HY HZ
        go_enter Tryz.func149, Tryz.ntmps149
        go_wp2
        go_quiet (fail)
        go_wp2
        go_ret
        exact ⟨ret_int HQ.out, HB0.out.trans (below_drewN _ _ _)⟩
      · have HQ := Aside.mk (HZ.out hz)
        have hq : ((Y : Int) / 2 ^ (M % 8) != 0) = true := by rw [e2]; simp only [bne_iff_ne, ne_eq]; omega
        clear e1 e2 hz HY HZ
        go_enter Tryz.func149, Tryz.ntmps149
        go_wp2
        go_quiet (fail)
        go_wp2
        go_ret
        exact ⟨ret_int HQ.out, HB0.out.trans (below_drewN _ _ _)⟩
  · have HD := Aside.mk (maskOK_yes (m := m) (bs := bs) ⟨by omega, by omega, by omega, fun h => absurd h h4⟩)
    have h5 : decide (0 < m % 8) = false := decide_eq_false h4
    have h6 : 0 ≤ m := by omega
    go_enter Tryz.func149, Tryz.ntmps149
    go_wp2
    go_quiet (fail)
    go_wp2
    go_ret
    exact ⟨ret_int HD.out, HB0.out.trans (below_drewN _ _ _)⟩
end Go.Proofs.YtmhjjhaipcgbiaaGreat


namespace Go.Proofs.YtmhjjhaipcgbiaaGreat
open Go.RowKit
set_option maxRecDepth 100000
set_option maxHeartbeats 1000000
theorem of_running (s : Int) (w : World) : Calls Tryz.prog 86 #[.agg #[.int .i64 15, .int .i64 s]] w fun e w' => e = .returned (.iface 162 (.agg #[])) ∧ w' = w.alloc (.cells #[.int .i64 15, .int .i64 s] 23) := by
  go_enter Tryz.func86, Tryz.ntmps86
  go_wp2
  go_ret
  exact ⟨rfl, rfl⟩
end Go.Proofs.YtmhjjhaipcgbiaaGreat
