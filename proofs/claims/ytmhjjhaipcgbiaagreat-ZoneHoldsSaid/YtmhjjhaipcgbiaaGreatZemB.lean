/- ZoneHolds: for every input the call returns true, and the arguments read as they did. No condition. -/
import Derived.Test.YtmhjjhaipcgbiaaGreatZemP52
import Derived.Test.YtmhjjhaipcgbiaaGreatZemP51
namespace Go.Proofs.YtmhjjhaipcgbiaaGreat.zoneHolds
open Go.ChangeShapes Go.WideShapes Go.ChangeAt Go.RowKit
open Go.ChangeMaps (open_string shut_string)
set_option linter.unusedVariables false
set_option linter.unusedSimpArgs false

theorem own : ownKnob Tryz.prog.godebug = none := by kernel_rfl
theorem laidOut : laidOutB Tryz.prog = true := by kernel_rfl

set_option maxRecDepth 100000 in
theorem lifted (os : Os) (started : os.Started) (H : Type) (enc : TypeId × Value → H) :
    ReturnsInHanded {} Tryz.checked os 8 .any (Rows.zoneHoldsSpec.pre6 enc Tryz.prog Tryz.f8 Rows.zoneHoldsRow.domain false) (Rows.zoneHoldsSpec.post enc Tryz.prog Tryz.f8 false true false false) := by
  refine returnsInHanded_of_change (C := Tryz.checked) own started (by kernel_rfl) Tryz.func8
    (ChangeSpec.witness6 (enc := enc) (C := Tryz.checked) false ⟨#[], #[.int .i64 0, .slice none 0 0, .int .u64 0], []⟩ 8 (by kernel_rfl) (by kernel_rfl) (by kernel_rfl) (by kernel_rfl)) ?_
  intro W base args ds gs before hval0 hW hcnd _
  have hval : ∀ (j : Nat) t v, Tryz.f8.params[j]? = some t → args[j]? = some v → Value.okWide Tryz.prog W .any base t v := hval0
  have hW' := hW
  obtain ⟨p, q, hA0, hV, rfl, hfz, hnd⟩ := hW
  have hA : DataW.TrodAll enc Tryz.prog W 0 (fun _ => true) true Tryz.f8.params.toList args.toList ds p := hA0
  rw [Tryz.params8] at hA hval
  obtain ⟨v0, vs0, d0, ds0, p0, q0, hargs, rfl, rfl, h0, r0⟩ := trodAll_cons hA
  obtain ⟨v1, vs1, d1, ds1, p1, q1, rfl, rfl, rfl, h1, r1⟩ := trodAll_cons r0
  obtain ⟨v2, vs2, d2, ds2, p2, q2, rfl, rfl, rfl, h2, r2⟩ := trodAll_cons r1
  obtain ⟨rfl, rfl, rfl⟩ := trodAll_nil r2
  obtain rfl : args = #[v0, v1, v2] := by cases args; simp_all
  obtain ⟨rfl, rfl⟩ := trodVars_none hV
  obtain ⟨a0, rfl, rfl, rfl, w0⟩ := open_int Tryz.underlying3 (hval 0 3 v0 rfl rfl) h0
  have k1 := h1
  have lt1 : ∀ x ∈ p1, x.block < W.heap.size := by obtain ⟨m, hm⟩ := k1; exact DataW.trod_lt m _ _ _ hm
  obtain ⟨m1, w1, b1⟩ : ∃ m, Sh.Reads W ((.sl (.st (.cons .bool (.cons (.int .u64) (.cons (.sl (.int .u8)) .nil))))) : Sh) v1.cells.toList m ∧ Sh.Dat ((.sl (.st (.cons .bool (.cons (.int .u64) (.cons (.sl (.int .u8)) .nil))))) : Sh) m [d1] := by
    obtain ⟨fuel, hf⟩ := h1
    exact (Sh.reads_of_trod ((.sl (.st (.cons .bool (.cons (.int .u64) (.cons (.sl (.int .u8)) .nil))))) : Sh)).1 46 fuel _ _ ⟨45, Tryz.underlying46, by kernel_rfl, by decide, rfl, ⟨_, Tryz.underlying45, by kernel_rfl, rfl, ⟨_, _, rfl, rfl, by kernel_rfl, rfl, rfl, Tryz.underlying4, ⟨_, _, rfl, rfl, by kernel_rfl, rfl, rfl, Tryz.underlying42, ⟨_, _, rfl, rfl, by kernel_rfl, rfl, rfl, ⟨5, Tryz.underlying43, by kernel_rfl, by decide, rfl, Tryz.underlying5⟩, rfl⟩⟩⟩⟩⟩ rfl hf
  obtain ⟨a1, len1, cap1, rfl⟩ := okWide_slice Tryz.underlying46 (hval 1 46 v1 rfl rfl)
  obtain ⟨a2, rfl, rfl, rfl, w2⟩ := open_int Tryz.underlying42 (hval 2 42 v2 rfl rfl) h2
  clear hA0 hval0
  refine (zoneHolds_row W a0 w0 a1 len1 cap1 m1 w1 a2 w2).mono fun e W' ⟨he, bel⟩ => ?_
  subst he
  exact ⟨_, rfl, _, _, _, [], _, [], hW', trodAll_mk1 (shut_bool Tryz.underlying4 _), (trodAll_cons_mk (shut_int Tryz.underlying3 w0) (trodAll_cons_mk (Below.trod laidOut (by kernel_rfl) (of_decide_eq_true (by kernel_rfl)) k1 bel lt1) (trodAll_cons_mk (shut_int Tryz.underlying42 w2) trodAll_mk0))), rfl, bel.frame _, fun h => by cases h⟩

theorem over : Rows.zoneHoldsRow.holds Tryz.pinned (OpenSpec.ofChange Rows.zoneHoldsSpec) :=
  OpenClaim.holds_of_wide 8 Tryz.f8 rfl rfl rfl rfl rfl rfl rfl ⟨rfl, rfl, rfl, rfl, rfl⟩ rfl rfl rfl rfl rfl (by kernel_rfl) Tryz.func8 (by kernel_rfl)
    (of_decide_eq_true (by kernel_rfl)) (by unfold Func.isWrapper; first | (rw [if_pos (by decide +kernel)]; kernel_rfl) | (rw [if_neg (by decide +kernel)]; exact ⟨rfl, rfl⟩))
    (fun os started H enc _ => lifted os started H enc)

theorem proved : Rows.ZoneHoldsSaid := over
#print axioms proved
end Go.Proofs.YtmhjjhaipcgbiaaGreat.zoneHolds

