/- ZoneMerges: for every input the call returns true, and the arguments read as they did. No condition. -/
import Derived.Test.YtmhjjhaipcgbiaaGreatZemP53
import Derived.Test.YtmhjjhaipcgbiaaGreatZemP51
namespace Go.Proofs.YtmhjjhaipcgbiaaGreat.zoneMerges
open Go.ChangeShapes Go.WideShapes Go.ChangeAt Go.RowKit
open Go.ChangeMaps (open_string shut_string)
set_option linter.unusedVariables false
set_option linter.unusedSimpArgs false

theorem own : ownKnob Tryz.prog.godebug = none := by kernel_rfl
theorem laidOut : laidOutB Tryz.prog = true := by kernel_rfl

set_option maxRecDepth 100000 in
theorem lifted (os : Os) (started : os.Started) (H : Type) (enc : TypeId × Value → H) :
    ReturnsInHanded {} Tryz.checked os 10 .any (Rows.zoneMergesSpec.pre6 enc Tryz.prog Tryz.f10 Rows.zoneMergesRow.domain false) (Rows.zoneMergesSpec.post enc Tryz.prog Tryz.f10 false true false false) := by
  refine returnsInHanded_of_change (C := Tryz.checked) own started (by kernel_rfl) Tryz.func10
    (ChangeSpec.witness6 (enc := enc) (C := Tryz.checked) false ⟨#[], #[.int .i64 0, .int .i64 0, .slice none 0 0, .slice none 0 0, .slice none 0 0], []⟩ 8 (by kernel_rfl) (by kernel_rfl) (by kernel_rfl) (by kernel_rfl)) ?_
  intro W base args ds gs before hval0 hW hcnd _
  have hval : ∀ (j : Nat) t v, Tryz.f10.params[j]? = some t → args[j]? = some v → Value.okWide Tryz.prog W .any base t v := hval0
  have hW' := hW
  obtain ⟨p, q, hA0, hV, rfl, hfz, hnd⟩ := hW
  have hA : DataW.TrodAll enc Tryz.prog W 0 (fun _ => true) true Tryz.f10.params.toList args.toList ds p := hA0
  rw [Tryz.params10] at hA hval
  obtain ⟨v0, vs0, d0, ds0, p0, q0, hargs, rfl, rfl, h0, r0⟩ := trodAll_cons hA
  obtain ⟨v1, vs1, d1, ds1, p1, q1, rfl, rfl, rfl, h1, r1⟩ := trodAll_cons r0
  obtain ⟨v2, vs2, d2, ds2, p2, q2, rfl, rfl, rfl, h2, r2⟩ := trodAll_cons r1
  obtain ⟨v3, vs3, d3, ds3, p3, q3, rfl, rfl, rfl, h3, r3⟩ := trodAll_cons r2
  obtain ⟨v4, vs4, d4, ds4, p4, q4, rfl, rfl, rfl, h4, r4⟩ := trodAll_cons r3
  obtain ⟨rfl, rfl, rfl⟩ := trodAll_nil r4
  obtain rfl : args = #[v0, v1, v2, v3, v4] := by cases args; simp_all
  obtain ⟨rfl, rfl⟩ := trodVars_none hV
  obtain ⟨a0, rfl, rfl, rfl, w0⟩ := open_int Tryz.underlying3 (hval 0 3 v0 rfl rfl) h0
  obtain ⟨a1, rfl, rfl, rfl, w1⟩ := open_int Tryz.underlying3 (hval 1 3 v1 rfl rfl) h1
  have k2 := h2
  have lt2 : ∀ x ∈ p2, x.block < W.heap.size := by obtain ⟨m, hm⟩ := k2; exact DataW.trod_lt m _ _ _ hm
  obtain ⟨m2, w2, b2⟩ : ∃ m, Sh.Reads W ((.sl (.st (.cons .bool (.cons (.int .u64) (.cons (.sl (.int .u8)) .nil))))) : Sh) v2.cells.toList m ∧ Sh.Dat ((.sl (.st (.cons .bool (.cons (.int .u64) (.cons (.sl (.int .u8)) .nil))))) : Sh) m [d2] := by
    obtain ⟨fuel, hf⟩ := h2
    exact (Sh.reads_of_trod ((.sl (.st (.cons .bool (.cons (.int .u64) (.cons (.sl (.int .u8)) .nil))))) : Sh)).1 46 fuel _ _ ⟨45, Tryz.underlying46, by kernel_rfl, by decide, rfl, ⟨_, Tryz.underlying45, by kernel_rfl, rfl, ⟨_, _, rfl, rfl, by kernel_rfl, rfl, rfl, Tryz.underlying4, ⟨_, _, rfl, rfl, by kernel_rfl, rfl, rfl, Tryz.underlying42, ⟨_, _, rfl, rfl, by kernel_rfl, rfl, rfl, ⟨5, Tryz.underlying43, by kernel_rfl, by decide, rfl, Tryz.underlying5⟩, rfl⟩⟩⟩⟩⟩ rfl hf
  obtain ⟨a2, len2, cap2, rfl⟩ := okWide_slice Tryz.underlying46 (hval 2 46 v2 rfl rfl)
  have k3 := h3
  have lt3 : ∀ x ∈ p3, x.block < W.heap.size := by obtain ⟨m, hm⟩ := k3; exact DataW.trod_lt m _ _ _ hm
  obtain ⟨m3, w3, b3⟩ : ∃ m, Sh.Reads W ((.sl (.st (.cons .bool (.cons (.int .u64) (.cons (.sl (.int .u8)) .nil))))) : Sh) v3.cells.toList m ∧ Sh.Dat ((.sl (.st (.cons .bool (.cons (.int .u64) (.cons (.sl (.int .u8)) .nil))))) : Sh) m [d3] := by
    obtain ⟨fuel, hf⟩ := h3
    exact (Sh.reads_of_trod ((.sl (.st (.cons .bool (.cons (.int .u64) (.cons (.sl (.int .u8)) .nil))))) : Sh)).1 46 fuel _ _ ⟨45, Tryz.underlying46, by kernel_rfl, by decide, rfl, ⟨_, Tryz.underlying45, by kernel_rfl, rfl, ⟨_, _, rfl, rfl, by kernel_rfl, rfl, rfl, Tryz.underlying4, ⟨_, _, rfl, rfl, by kernel_rfl, rfl, rfl, Tryz.underlying42, ⟨_, _, rfl, rfl, by kernel_rfl, rfl, rfl, ⟨5, Tryz.underlying43, by kernel_rfl, by decide, rfl, Tryz.underlying5⟩, rfl⟩⟩⟩⟩⟩ rfl hf
  obtain ⟨a3, len3, cap3, rfl⟩ := okWide_slice Tryz.underlying46 (hval 3 46 v3 rfl rfl)
  have k4 := h4
  have lt4 : ∀ x ∈ p4, x.block < W.heap.size := by obtain ⟨m, hm⟩ := k4; exact DataW.trod_lt m _ _ _ hm
  obtain ⟨m4, w4, b4⟩ : ∃ m, Sh.Reads W ((.sl (.st (.cons .bool (.cons (.int .u64) (.cons (.sl (.int .u8)) .nil))))) : Sh) v4.cells.toList m ∧ Sh.Dat ((.sl (.st (.cons .bool (.cons (.int .u64) (.cons (.sl (.int .u8)) .nil))))) : Sh) m [d4] := by
    obtain ⟨fuel, hf⟩ := h4
    exact (Sh.reads_of_trod ((.sl (.st (.cons .bool (.cons (.int .u64) (.cons (.sl (.int .u8)) .nil))))) : Sh)).1 46 fuel _ _ ⟨45, Tryz.underlying46, by kernel_rfl, by decide, rfl, ⟨_, Tryz.underlying45, by kernel_rfl, rfl, ⟨_, _, rfl, rfl, by kernel_rfl, rfl, rfl, Tryz.underlying4, ⟨_, _, rfl, rfl, by kernel_rfl, rfl, rfl, Tryz.underlying42, ⟨_, _, rfl, rfl, by kernel_rfl, rfl, rfl, ⟨5, Tryz.underlying43, by kernel_rfl, by decide, rfl, Tryz.underlying5⟩, rfl⟩⟩⟩⟩⟩ rfl hf
  obtain ⟨a4, len4, cap4, rfl⟩ := okWide_slice Tryz.underlying46 (hval 4 46 v4 rfl rfl)
  clear hA0 hval0
  refine (zoneMerges_row W a0 w0 a1 w1 a2 len2 cap2 m2 w2 a3 len3 cap3 m3 w3 a4 len4 cap4 m4 w4).mono fun e W' ⟨he, bel⟩ => ?_
  subst he
  exact ⟨_, rfl, _, _, _, [], _, [], hW', trodAll_mk1 (shut_bool Tryz.underlying4 _), (trodAll_cons_mk (shut_int Tryz.underlying3 w0) (trodAll_cons_mk (shut_int Tryz.underlying3 w1) (trodAll_cons_mk (Below.trod laidOut (by kernel_rfl) (of_decide_eq_true (by kernel_rfl)) k2 bel lt2) (trodAll_cons_mk (Below.trod laidOut (by kernel_rfl) (of_decide_eq_true (by kernel_rfl)) k3 bel lt3) (trodAll_cons_mk (Below.trod laidOut (by kernel_rfl) (of_decide_eq_true (by kernel_rfl)) k4 bel lt4) trodAll_mk0))))), rfl, bel.frame _, fun h => by cases h⟩

theorem over : Rows.zoneMergesRow.holds Tryz.pinned (OpenSpec.ofChange Rows.zoneMergesSpec) :=
  OpenClaim.holds_of_wide 10 Tryz.f10 rfl rfl rfl rfl rfl rfl rfl ⟨rfl, rfl, rfl, rfl, rfl⟩ rfl rfl rfl rfl rfl (by kernel_rfl) Tryz.func10 (by kernel_rfl)
    (of_decide_eq_true (by kernel_rfl)) (by unfold Func.isWrapper; first | (rw [if_pos (by decide +kernel)]; kernel_rfl) | (rw [if_neg (by decide +kernel)]; exact ⟨rfl, rfl⟩))
    (fun os started H enc _ => lifted os started H enc)

theorem proved : Rows.ZoneMergesSaid := over
#print axioms proved
end Go.Proofs.YtmhjjhaipcgbiaaGreat.zoneMerges

