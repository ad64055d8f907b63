/- Texts of this claim, one behind the other: EqF, OfR, Calm. -/
import Derived.Test.YtmhjjhaipcgbiaaSpoP14
import Derived.Test.YtmhjjhaipcgbiaaSpoP12
import Derived.Test.YtmhjjhaipcgbiaaSpoP1
import Derived.BigQuiet
import Derived.Deep.Quiet

namespace Go.Proofs.Ytmhjjhaipcgbiaa
open Go.RowKit
set_option linter.unusedVariables false
set_option linter.unusedSimpArgs false
set_option maxRecDepth 100000
set_option maxHeartbeats 1000000
def maskErr (m : Int) (bs : List Int) : Int := if maskOK m bs then 0 else 160
theorem maskOK_no {m : Int} {bs : List Int} (h : ¬ (0 ≤ m ∧ m ≤ 8 * (bs.length : Int) ∧ 8 * ((bs.length : Int) - 1) < m ∧ (0 < m % 8 → (bs.getD (bs.length - 1) 0).toNat / 2 ^ (m % 8).toNat = 0))) : (160 : Int) = maskErr m bs := by
  rw [maskErr, if_neg]
  unfold maskOK
  rw [decide_eq_true_eq]
  exact h
theorem maskOK_yes {m : Int} {bs : List Int} (h : 0 ≤ m ∧ m ≤ 8 * (bs.length : Int) ∧ 8 * ((bs.length : Int) - 1) < m ∧ (0 < m % 8 → (bs.getD (bs.length - 1) 0).toNat / 2 ^ (m % 8).toNat = 0)) : (0 : Int) = maskErr m bs := by
  rw [maskErr, if_pos]
  unfold maskOK
  rw [decide_eq_true_eq]
  exact h
theorem maskCheck_any (m : Int) (bs : List Int) (B : SL) (hl : bs.length ≤ 100000000) (hb : IsBytes bs) (w : World) (h : Rd w 1 (.slice B.a bs.length B.c) bs.length (bs.map (.int .u8))) :
    Calls Try.prog 72 #[.agg #[.int .i64 m, .slice B.a bs.length B.c]] w (IntP (maskErr m bs) w) := by
  obtain ⟨ba, bc⟩ := B
  have HB0 := Aside.mk (below_new w (.cells #[.int .i64 m, .slice ba bs.length bc] 39))
  have HR := Aside.mk h
  clear h
  dsimp only
  by_cases h1 : m < 0
  · have HD := Aside.mk (maskOK_no (m := m) (bs := bs) (by omega))
    go_enter Try.func72, Try.ntmps72
    go_wp2
    go_ret
    exact ⟨ret_int HD.out, HB0.out⟩
  by_cases h2 : 8 * (bs.length : Int) < m
  · have HD := Aside.mk (maskOK_no (m := m) (bs := bs) (by omega))
    go_enter Try.func72, Try.ntmps72
    go_wp2
    go_ret
    exact ⟨ret_int HD.out, HB0.out⟩
  by_cases h3 : m ≤ 8 * ((bs.length : Int) - 1)
  · have HD := Aside.mk (maskOK_no (m := m) (bs := bs) (by omega))
    go_enter Try.func72, Try.ntmps72
    go_wp2
    go_ret
    exact ⟨ret_int HD.out, HB0.out⟩
  by_cases h4 : 0 < m % 8
  · obtain ⟨g, off, cap, hs, hel, hecap, hc⟩ := rd_get HR.out (bs.length - 1) (by omega)
    simp only [Value.slice.injEq, true_and] at hs
    obtain ⟨rfl, rfl⟩ := hs
    have hc2 := (HB0.out.cell (p := ⟨g, off + (bs.length - 1), none⟩) (World.block_lt_of_cell? _ _ hc)).trans hc
    have hv := getD_byte hb (bs.length - 1)
    have HY := Aside.mk (fun (h : (bs.getD (bs.length - 1) 0).toNat / 2 ^ (m % 8).toNat = 0) => maskOK_yes (m := m) (bs := bs) ⟨by omega, by omega, by omega, fun _ => h⟩)
    have HZ := Aside.mk (fun (h : ¬ (bs.getD (bs.length - 1) 0).toNat / 2 ^ (m % 8).toNat = 0) => maskOK_no (m := m) (bs := bs) (fun h2 => h (h2.2.2.2 h4)))
    obtain ⟨M, rfl⟩ := Int.eq_ofNat_of_zero_le (show 0 ≤ m by omega)
    clear HR
    clear hc
    generalize bs.getD (bs.length - 1) 0 = y at *
    generalize bs.length = n at *
    cases n with
    | zero => omega
    | succ n =>
      simp only [Nat.add_sub_cancel] at hc2
      obtain ⟨Y, rfl⟩ := Int.eq_ofNat_of_zero_le hv.1
      have e1 : ((M : Int) % 8).toNat = M % 8 := by omega
      have e2 : (Y : Int) / 2 ^ (M % 8) = ((Y / 2 ^ (M % 8) : Nat) : Int) := by simp
      rw [e1, Int.toNat_natCast] at HY HZ
      by_cases hz : Y / 2 ^ (M % 8) = 0
      · have HQ := Aside.mk (HY.out hz)
        have hq : ((Y : Int) / 2 ^ (M % 8) != 0) = false := by rw [e2, hz]; rfl
        clear e1 e2 hz HY HZ
        go_enter Try.func72, Try.ntmps72
        go_wp2
        go_quiet (fail)
        go_wp2
        go_ret
        exact ⟨ret_int HQ.out, HB0.out.trans (below_drewN _ _ _)⟩
      · have HQ := Aside.mk (HZ.out hz)
        have hq : ((Y : Int) / 2 ^ (M % 8) != 0) = true := by rw [e2]; simp only [bne_iff_ne, ne_eq]; omega
        clear e1 e2 hz HY HZ
        go_enter Try.func72, Try.ntmps72
        go_wp2
        go_quiet (fail)
        go_wp2
        go_ret
        exact ⟨ret_int HQ.out, HB0.out.trans (below_drewN _ _ _)⟩
  · have HD := Aside.mk (maskOK_yes (m := m) (bs := bs) ⟨by omega, by omega, by omega, fun h => absurd h h4⟩)
    have h5 : decide (0 < m % 8) = false := decide_eq_false h4
    have h6 : 0 ≤ m := by omega
    go_enter Try.func72, Try.ntmps72
    go_wp2
    go_quiet (fail)
    go_wp2
    go_ret
    exact ⟨ret_int HD.out, HB0.out.trans (below_drewN _ _ _)⟩
end Go.Proofs.Ytmhjjhaipcgbiaa


namespace Go.Proofs.Ytmhjjhaipcgbiaa
open Go.RowKit
set_option maxRecDepth 100000
set_option maxHeartbeats 1000000
theorem of_running (s : Int) (w : World) : Calls Try.prog 57 #[.agg #[.int .i64 15, .int .i64 s]] w fun e w' => e = .returned (.iface 125 (.agg #[])) ∧ w' = w.alloc (.cells #[.int .i64 15, .int .i64 s] 23) := by
  go_enter Try.func57, Try.ntmps57
  go_wp2
  go_ret
  exact ⟨rfl, rfl⟩
end Go.Proofs.Ytmhjjhaipcgbiaa


namespace Go.Proofs.Ytmhjjhaipcgbiaa
open Go.RowKit
section
variable {P : Program} {ops : Array Oper} {C : World → Prop} {Q : Act → Prop} {a : Act} {o : Oper} {rest : List Oper}
theorem calm_skip (hw : Region.wanted o (yielded ops a.tmps) = false) (h : wpQuiet P ops C Q rest (a.put o.dst undef)) : wpQuiet P ops C Q (o :: rest) a := by
  unfold wpQuiet
  rw [hw]
  exact h
theorem calm_take (hw : Region.wanted o (yielded ops a.tmps) = true) (v : Value) (hy : ∀ w', C w' → (execOp a.eval o).run P w' = .ok (.value v) w') (h : wpQuiet P ops C Q rest (a.put o.dst v)) : wpQuiet P ops C Q (o :: rest) a := by
  unfold wpQuiet
  rw [hw]
  refine ⟨v, fun w' hC => ?_, h⟩
  unfold Oper.quietAt
  rw [hy w' hC]
  exact ⟨rfl, rfl⟩
theorem calm_call (hw : Region.wanted o (yielded ops a.tmps) = true) (v : Value) (nx : Next) (hr : ∀ w', (execOp a.eval o).run P w' = .ok nx w') (f : FuncId) (args : Array Value) (hn : nx = .enter f args) (hc : ∀ w', C w' → Calls P f args w' (fun e w'' => e = .returned v ∧ C w'')) (h : wpQuiet P ops C Q rest (a.put o.dst v)) : wpQuiet P ops C Q (o :: rest) a := by
  unfold wpQuiet
  rw [hw]
  refine ⟨v, fun w' hC => ?_, h⟩
  unfold Oper.quietAt
  rw [hr w', hn]
  exact ⟨rfl, hc w' hC⟩
end
theorem wp_region_calm {P : Program} {id : Nat} {Q : Exit → Act → World → Prop} {a : Act} {w : World} {l : List Oper} (hm : P.follows .mixedOrders = true) (hB : Region.lexB .any l.toArray = true)
    (h : wpQuiet P l.toArray (fun w' => Below w.heap.size w w') (fun a' => ∀ w', Below w.heap.size w w' → Q .normal a' w') l a) : (Code.region id l.toArray true).wp P Q a w :=
  wp_region_quiet (C := fun w' => Below w.heap.size w w') hm hB (below_drewN w _ 1) (by simpa using h)
end Go.Proofs.Ytmhjjhaipcgbiaa
