/- Texts of this claim, one behind the other: OfR, Calm. -/
import Derived.Test.YtmhjjhaipcgbiaaBakP11
import Derived.Test.YtmhjjhaipcgbiaaBakP1
import Derived.BigQuiet
import Derived.Deep.Quiet

namespace Go.Proofs.Ytmhjjhaipcgbiaa
open Go.RowKit
set_option maxRecDepth 100000
set_option maxHeartbeats 1000000
theorem of_running (s : Int) (w : World) : Calls Try.prog 57 #[.agg #[.int .i64 15, .int .i64 s]] w fun e w' => e = .returned (.iface 125 (.agg #[])) ∧ w' = w.alloc (.cells #[.int .i64 15, .int .i64 s] 23) := by
  go_enter Try.func57, Try.ntmps57
  go_wp2
  go_ret
  exact ⟨rfl, rfl⟩
end Go.Proofs.Ytmhjjhaipcgbiaa


namespace Go.Proofs.Ytmhjjhaipcgbiaa
open Go.RowKit
section
variable {P : Program} {ops : Array Oper} {C : World → Prop} {Q : Act → Prop} {a : Act} {o : Oper} {rest : List Oper}
theorem calm_skip (hw : Region.wanted o (yielded ops a.tmps) = false) (h : wpQuiet P ops C Q rest (a.put o.dst undef)) : wpQuiet P ops C Q (o :: rest) a := by
  unfold wpQuiet
  rw [hw]
  exact h
theorem calm_take (hw : Region.wanted o (yielded ops a.tmps) = true) (v : Value) (hy : ∀ w', C w' → (execOp a.eval o).run P w' = .ok (.value v) w') (h : wpQuiet P ops C Q rest (a.put o.dst v)) : wpQuiet P ops C Q (o :: rest) a := by
  unfold wpQuiet
  rw [hw]
  refine ⟨v, fun w' hC => ?_, h⟩
  unfold Oper.quietAt
  rw [hy w' hC]
  exact ⟨rfl, rfl⟩
theorem calm_call (hw : Region.wanted o (yielded ops a.tmps) = true) (v : Value) (nx : Next) (hr : ∀ w', (execOp a.eval o).run P w' = .ok nx w') (f : FuncId) (args : Array Value) (hn : nx = .enter f args) (hc : ∀ w', C w' → Calls P f args w' (fun e w'' => e = .returned v ∧ C w'')) (h : wpQuiet P ops C Q rest (a.put o.dst v)) : wpQuiet P ops C Q (o :: rest) a := by
  unfold wpQuiet
  rw [hw]
  refine ⟨v, fun w' hC => ?_, h⟩
  unfold Oper.quietAt
  rw [hr w', hn]
  exact ⟨rfl, hc w' hC⟩
end
theorem wp_region_calm {P : Program} {id : Nat} {Q : Exit → Act → World → Prop} {a : Act} {w : World} {l : List Oper} (hm : P.follows .mixedOrders = true) (hB : Region.lexB .any l.toArray = true)
    (h : wpQuiet P l.toArray (fun w' => Below w.heap.size w w') (fun a' => ∀ w', Below w.heap.size w w' → Q .normal a' w') l a) : (Code.region id l.toArray true).wp P Q a w :=
  wp_region_quiet (C := fun w' => Below w.heap.size w w') hm hB (below_drewN w _ 1) (by simpa using h)
end Go.Proofs.Ytmhjjhaipcgbiaa
