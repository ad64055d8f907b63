/- ColumnAsks: for every input the call returns true, and the arguments read as they did. No condition. -/
import Derived.Test.YtmhjjhaipcgbiaaGreatAsqP13
namespace Go.Proofs.YtmhjjhaipcgbiaaGreat.columnAsks
open Go.ChangeShapes Go.WideShapes Go.ChangeAt Go.RowKit
open Go.ChangeMaps (open_string shut_string)
set_option linter.unusedVariables false
set_option linter.unusedSimpArgs false

theorem own : ownKnob Tryz.prog.godebug = none := by kernel_rfl
theorem laidOut : laidOutB Tryz.prog = true := by kernel_rfl

set_option maxRecDepth 100000 in
theorem lifted (os : Os) (started : os.Started) (H : Type) (enc : TypeId × Value → H) :
    ReturnsInHanded {} Tryz.checked os 6 .any (Rows.columnAsksSpec.pre6 enc Tryz.prog Tryz.f6 Rows.columnAsksRow.domain false) (Rows.columnAsksSpec.post enc Tryz.prog Tryz.f6 false true false false) := by
  refine returnsInHanded_of_change (C := Tryz.checked) own started (by kernel_rfl) Tryz.func6
    (ChangeSpec.witness6 (enc := enc) (C := Tryz.checked) false ⟨#[], #[.agg #[.int .i64 0, .slice none 0 0, .slice none 0 0, .int .i64 0, .int .i64 0, .int .i64 0, .int .i64 0, .int .i64 0]], []⟩ 8 (by kernel_rfl) (by kernel_rfl) (by kernel_rfl) (by kernel_rfl)) ?_
  intro W base args ds gs before hval0 hW hcnd _
  have hval : ∀ (j : Nat) t v, Tryz.f6.params[j]? = some t → args[j]? = some v → Value.okWide Tryz.prog W .any base t v := hval0
  have hW' := hW
  obtain ⟨p, q, hA0, hV, rfl, hfz, hnd⟩ := hW
  have hA : DataW.TrodAll enc Tryz.prog W 0 (fun _ => true) true Tryz.f6.params.toList args.toList ds p := hA0
  rw [Tryz.params6] at hA hval
  obtain ⟨v0, vs0, d0, ds0, p0, q0, hargs, rfl, rfl, h0, r0⟩ := trodAll_cons hA
  obtain ⟨rfl, rfl, rfl⟩ := trodAll_nil r0
  obtain rfl : args = #[v0] := by cases args; simp_all
  obtain ⟨rfl, rfl⟩ := trodVars_none hV
  have k0 := h0
  have lt0 : ∀ x ∈ p0, x.block < W.heap.size := by obtain ⟨m, hm⟩ := k0; exact DataW.trod_lt m _ _ _ hm
  obtain ⟨m0, w0, b0⟩ : ∃ m, Sh.Reads W ((.st (.cons (.int .i64) (.cons (.sl (.st (.cons .bool (.cons (.int .u64) (.cons (.sl (.int .u8)) .nil))))) (.cons (.sl (.st (.cons .bool (.cons (.int .u64) (.cons (.sl (.int .u8)) .nil))))) (.cons (.st (.cons (.int .i64) (.cons (.int .i64) (.cons (.int .i64) .nil)))) (.cons (.int .i64) (.cons (.int .i64) .nil))))))) : Sh) v0.cells.toList m ∧ Sh.Dat ((.st (.cons (.int .i64) (.cons (.sl (.st (.cons .bool (.cons (.int .u64) (.cons (.sl (.int .u8)) .nil))))) (.cons (.sl (.st (.cons .bool (.cons (.int .u64) (.cons (.sl (.int .u8)) .nil))))) (.cons (.st (.cons (.int .i64) (.cons (.int .i64) (.cons (.int .i64) .nil)))) (.cons (.int .i64) (.cons (.int .i64) .nil))))))) : Sh) m [d0] := by
    obtain ⟨fuel, hf⟩ := h0
    exact (Sh.reads_of_trod ((.st (.cons (.int .i64) (.cons (.sl (.st (.cons .bool (.cons (.int .u64) (.cons (.sl (.int .u8)) .nil))))) (.cons (.sl (.st (.cons .bool (.cons (.int .u64) (.cons (.sl (.int .u8)) .nil))))) (.cons (.st (.cons (.int .i64) (.cons (.int .i64) (.cons (.int .i64) .nil)))) (.cons (.int .i64) (.cons (.int .i64) .nil))))))) : Sh)).1 95 fuel _ _ ⟨_, Tryz.underlying95, by kernel_rfl, rfl, ⟨_, _, rfl, rfl, by kernel_rfl, rfl, rfl, Tryz.underlying3, ⟨_, _, rfl, rfl, by kernel_rfl, rfl, rfl, ⟨45, Tryz.underlying46, by kernel_rfl, by decide, rfl, ⟨_, Tryz.underlying45, by kernel_rfl, rfl, ⟨_, _, rfl, rfl, by kernel_rfl, rfl, rfl, Tryz.underlying4, ⟨_, _, rfl, rfl, by kernel_rfl, rfl, rfl, Tryz.underlying42, ⟨_, _, rfl, rfl, by kernel_rfl, rfl, rfl, ⟨5, Tryz.underlying43, by kernel_rfl, by decide, rfl, Tryz.underlying5⟩, rfl⟩⟩⟩⟩⟩, ⟨_, _, rfl, rfl, by kernel_rfl, rfl, rfl, ⟨45, Tryz.underlying46, by kernel_rfl, by decide, rfl, ⟨_, Tryz.underlying45, by kernel_rfl, rfl, ⟨_, _, rfl, rfl, by kernel_rfl, rfl, rfl, Tryz.underlying4, ⟨_, _, rfl, rfl, by kernel_rfl, rfl, rfl, Tryz.underlying42, ⟨_, _, rfl, rfl, by kernel_rfl, rfl, rfl, ⟨5, Tryz.underlying43, by kernel_rfl, by decide, rfl, Tryz.underlying5⟩, rfl⟩⟩⟩⟩⟩, ⟨_, _, rfl, rfl, by kernel_rfl, rfl, rfl, ⟨_, Tryz.underlying93, by kernel_rfl, rfl, ⟨_, _, rfl, rfl, by kernel_rfl, rfl, rfl, Tryz.underlying3, ⟨_, _, rfl, rfl, by kernel_rfl, rfl, rfl, Tryz.underlying3, ⟨_, _, rfl, rfl, by kernel_rfl, rfl, rfl, Tryz.underlying3, rfl⟩⟩⟩⟩, ⟨_, _, rfl, rfl, by kernel_rfl, rfl, rfl, Tryz.underlying3, ⟨_, _, rfl, rfl, by kernel_rfl, rfl, rfl, Tryz.underlying3, rfl⟩⟩⟩⟩⟩⟩⟩ rfl hf
  clear hA0 hval0
  refine (asks_row W v0 m0 w0).mono fun e W' ⟨he, bel⟩ => ?_
  subst he
  exact ⟨_, rfl, _, _, _, [], _, [], hW', trodAll_mk1 (shut_bool Tryz.underlying4 _), (trodAll_cons_mk (Below.trod laidOut (by kernel_rfl) (of_decide_eq_true (by kernel_rfl)) k0 bel lt0) trodAll_mk0), rfl, bel.frame _, fun h => by cases h⟩

theorem over : Rows.columnAsksRow.holds Tryz.pinned (OpenSpec.ofChange Rows.columnAsksSpec) :=
  OpenClaim.holds_of_wide 6 Tryz.f6 rfl rfl rfl rfl rfl rfl rfl ⟨rfl, rfl, rfl, rfl, rfl⟩ rfl rfl rfl rfl rfl (by kernel_rfl) Tryz.func6 (by kernel_rfl)
    (of_decide_eq_true (by kernel_rfl)) (by unfold Func.isWrapper; first | (rw [if_pos (by decide +kernel)]; kernel_rfl) | (rw [if_neg (by decide +kernel)]; exact ⟨rfl, rfl⟩))
    (fun os started H enc _ => lifted os started H enc)

theorem proved : Rows.ColumnAsksSaid := over
#print axioms proved
end Go.Proofs.YtmhjjhaipcgbiaaGreat.columnAsks

