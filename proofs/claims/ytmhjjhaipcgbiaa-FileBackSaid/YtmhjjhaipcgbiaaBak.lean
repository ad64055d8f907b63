/- FileBack: for every input the call returns true, and the arguments read as they did. No condition. -/
import Derived.Test.YtmhjjhaipcgbiaaBakP42
import Derived.Test.YtmhjjhaipcgbiaaBakP41
namespace Go.Proofs.Ytmhjjhaipcgbiaa.fileBack
open Go.ChangeShapes Go.WideShapes Go.ChangeAt Go.RowKit
open Go.ChangeMaps (open_string shut_string)
set_option linter.unusedVariables false
set_option linter.unusedSimpArgs false

theorem own : ownKnob Try.prog.godebug = none := by kernel_rfl
theorem laidOut : laidOutB Try.prog = true := by kernel_rfl

set_option maxRecDepth 100000 in
theorem lifted (os : Os) (started : os.Started) (H : Type) (enc : TypeId × Value → H) :
    ReturnsInHanded {} Try.checked os 7 .any (Rows.fileBackSpec.pre6 enc Try.prog Try.f7 Rows.fileBackRow.domain false) (Rows.fileBackSpec.post enc Try.prog Try.f7 false true false false) := by
  refine returnsInHanded_of_change (C := Try.checked) own started (by kernel_rfl) Try.func7
    (ChangeSpec.witness6 (enc := enc) (C := Try.checked) false ⟨#[], #[.agg #[.slice none 0 0, .slice none 0 0, .bool false, .int .i64 0]], []⟩ 8 (by kernel_rfl) (by kernel_rfl) (by kernel_rfl) (by kernel_rfl)) ?_
  intro W base args ds gs before hval0 hW hcnd _
  have hval : ∀ (j : Nat) t v, Try.f7.params[j]? = some t → args[j]? = some v → Value.okWide Try.prog W .any base t v := hval0
  have hW' := hW
  obtain ⟨p, q, hA0, hV, rfl, hfz, hnd⟩ := hW
  have hA : DataW.TrodAll enc Try.prog W 0 (fun _ => true) true Try.f7.params.toList args.toList ds p := hA0
  rw [Try.params7] at hA hval
  obtain ⟨v0, vs0, d0, ds0, p0, q0, hargs, rfl, rfl, h0, r0⟩ := trodAll_cons hA
  obtain ⟨rfl, rfl, rfl⟩ := trodAll_nil r0
  obtain rfl : args = #[v0] := by cases args; simp_all
  obtain ⟨rfl, rfl⟩ := trodVars_none hV
  have k0 := h0
  have lt0 : ∀ x ∈ p0, x.block < W.heap.size := by obtain ⟨m, hm⟩ := k0; exact DataW.trod_lt m _ _ _ hm
  obtain ⟨m0, w0, b0⟩ : ∃ m, Sh.Reads W ((.st (.cons (.sl (.st (.cons (.sl (.int .u8)) (.cons (.int .i64) (.cons .bool .nil))))) (.cons (.sl (.sl (.st (.cons .bool (.cons (.int .u64) (.cons (.sl (.int .u8)) .nil)))))) (.cons .bool (.cons (.int .i64) .nil))))) : Sh) v0.cells.toList m ∧ Sh.Dat ((.st (.cons (.sl (.st (.cons (.sl (.int .u8)) (.cons (.int .i64) (.cons .bool .nil))))) (.cons (.sl (.sl (.st (.cons .bool (.cons (.int .u64) (.cons (.sl (.int .u8)) .nil)))))) (.cons .bool (.cons (.int .i64) .nil))))) : Sh) m [d0] := by
    obtain ⟨fuel, hf⟩ := h0
    exact (Sh.reads_of_trod ((.st (.cons (.sl (.st (.cons (.sl (.int .u8)) (.cons (.int .i64) (.cons .bool .nil))))) (.cons (.sl (.sl (.st (.cons .bool (.cons (.int .u64) (.cons (.sl (.int .u8)) .nil)))))) (.cons .bool (.cons (.int .i64) .nil))))) : Sh)).1 67 fuel _ _ ⟨_, Try.underlying67, by kernel_rfl, rfl, ⟨_, _, rfl, rfl, by kernel_rfl, rfl, rfl, ⟨182, Try.underlying64, by kernel_rfl, by decide, rfl, ⟨_, Try.underlying182, by kernel_rfl, rfl, ⟨_, _, rfl, rfl, by kernel_rfl, rfl, rfl, ⟨5, Try.underlying37, by kernel_rfl, by decide, rfl, Try.underlying5⟩, ⟨_, _, rfl, rfl, by kernel_rfl, rfl, rfl, Try.underlying3, ⟨_, _, rfl, rfl, by kernel_rfl, rfl, rfl, Try.underlying4, rfl⟩⟩⟩⟩⟩, ⟨_, _, rfl, rfl, by kernel_rfl, rfl, rfl, ⟨34, Try.underlying65, by kernel_rfl, by decide, rfl, ⟨98, Try.underlying34, by kernel_rfl, by decide, rfl, ⟨_, Try.underlying98, by kernel_rfl, rfl, ⟨_, _, rfl, rfl, by kernel_rfl, rfl, rfl, Try.underlying4, ⟨_, _, rfl, rfl, by kernel_rfl, rfl, rfl, Try.underlying24, ⟨_, _, rfl, rfl, by kernel_rfl, rfl, rfl, ⟨5, Try.underlying37, by kernel_rfl, by decide, rfl, Try.underlying5⟩, rfl⟩⟩⟩⟩⟩⟩, ⟨_, _, rfl, rfl, by kernel_rfl, rfl, rfl, Try.underlying4, ⟨_, _, rfl, rfl, by kernel_rfl, rfl, rfl, Try.underlying3, rfl⟩⟩⟩⟩⟩ rfl hf
  clear hA0 hval0
  refine (back_row W v0 m0 w0).mono fun e W' ⟨he, bel⟩ => ?_
  subst he
  exact ⟨_, rfl, _, _, _, [], _, [], hW', trodAll_mk1 (shut_bool Try.underlying4 _), (trodAll_cons_mk (Below.trod laidOut (by kernel_rfl) (of_decide_eq_true (by kernel_rfl)) k0 bel lt0) trodAll_mk0), rfl, bel.frame _, fun h => by cases h⟩

theorem over : Rows.fileBackRow.holds Try.pinned (OpenSpec.ofChange Rows.fileBackSpec) :=
  OpenClaim.holds_of_wide 7 Try.f7 rfl rfl rfl rfl rfl rfl rfl ⟨rfl, rfl, rfl, rfl, rfl⟩ rfl rfl rfl rfl rfl (by kernel_rfl) Try.func7 (by kernel_rfl)
    (of_decide_eq_true (by kernel_rfl)) (by unfold Func.isWrapper; first | (rw [if_pos (by decide +kernel)]; kernel_rfl) | (rw [if_neg (by decide +kernel)]; exact ⟨rfl, rfl⟩))
    (fun os started H enc _ => lifted os started H enc)

theorem proved : Rows.FileBackSaid := over
#print axioms proved
end Go.Proofs.Ytmhjjhaipcgbiaa.fileBack

