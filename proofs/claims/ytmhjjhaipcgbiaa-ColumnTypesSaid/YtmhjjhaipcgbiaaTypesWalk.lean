/- ColumnTypes walked. -/
import Derived.Test.YtmhjjhaipcgbiaaWakes
import Derived.Test.YtmhjjhaipcgbiaaKind2
import Derived.Test.YtmhjjhaipcgbiaaArgs
namespace Go.Proofs.Ytmhjjhaipcgbiaa
open Go.RowKit
set_option linter.unusedVariables false
set_option linter.unusedSimpArgs false
set_option maxRecDepth 100000
set_option maxHeartbeats 8000000

theorem lawS_next {w1 w2 : World} {a b : Nat} {k s k2 s2 : Int} (h : w1.cell? ⟨a, 0, none⟩ = some (.int .i64 k) ∧ w1.cell? ⟨a, 1, none⟩ = some (.int .i64 s) ∧ w1.cell? ⟨b, 0, none⟩ = some (.int .i64 k2) ∧ w1.cell? ⟨b, 1, none⟩ = some (.int .i64 s2)) (hb : Below w1.heap.size w1 w2) :
    w2.cell? ⟨a, 0, none⟩ = some (.int .i64 k) ∧ w2.cell? ⟨a, 1, none⟩ = some (.int .i64 s) ∧ w2.cell? ⟨b, 0, none⟩ = some (.int .i64 k2) ∧ w2.cell? ⟨b, 1, none⟩ = some (.int .i64 s2) := by
  obtain ⟨h0, h1, h2, h3⟩ := h
  have hl := World.block_lt_of_cell? _ _ h0
  have hl2 := World.block_lt_of_cell? _ _ h2
  exact ⟨(hb.cell (p := ⟨a, 0, none⟩) hl).trans h0, (hb.cell (p := ⟨a, 1, none⟩) hl).trans h1, (hb.cell (p := ⟨b, 0, none⟩) hl2).trans h2, (hb.cell (p := ⟨b, 1, none⟩) hl2).trans h3⟩

def ctOf (k s : Int) : Int := if okType k s then 0 else 170
theorem check_f (k s : Int) (w : World) : Calls Try.prog 10 #[.agg #[.int .i64 k, .int .i64 s]] w fun e w' => e = .returned (.int .i64 (ctOf k s)) ∧ Below w.heap.size w w' := checkType_any k s w
theorem r18check_f (k s : Int) (w : World) : Calls Try.prog 11 #[.agg #[.int .i64 k, .int .i64 s]] w fun e w' => e = .returned (.int .i64 (ctOf k s)) ∧ Below w.heap.size w w' := r18check_any k s w

theorem types_walk (w : World) (k s b n : Int) (h0 : 0 ≤ b) (h1 : b ≤ 18446744073709551615) : Calls Try.prog 3 #[.agg #[.int .i64 k, .int .i64 s], .int .u64 b, .int .i64 n] w fun e w' => e = .returned (.bool true) ∧ Below w.heap.size w w' := by
  have HK := Aside.mk (kind_ok n)
  go_enter Try.func3, Try.ntmps3
  go_wp2_with (go_at_call 8; refine (kind_any _ _).mono ?_; rintro e w1 ⟨rfl, hb1⟩; have HB1 := Aside.mk hb1; clear hb1)
  have hlt : w.heap.size < w1.heap.size := by have := HB1.out.size; simp at this; omega
  have HS := Aside.mk (show (w1.alloc (.cells #[.int .i64 (kindI n), .int .i64 (scaleI n)] 23)).cell? ⟨w.heap.size, 0, none⟩ = some (.int .i64 k) ∧ (w1.alloc (.cells #[.int .i64 (kindI n), .int .i64 (scaleI n)] 23)).cell? ⟨w.heap.size, 1, none⟩ = some (.int .i64 s) ∧ (w1.alloc (.cells #[.int .i64 (kindI n), .int .i64 (scaleI n)] 23)).cell? ⟨w1.heap.size, 0, none⟩ = some (.int .i64 (kindI n)) ∧ (w1.alloc (.cells #[.int .i64 (kindI n), .int .i64 (scaleI n)] 23)).cell? ⟨w1.heap.size, 1, none⟩ = some (.int .i64 (scaleI n)) from by
    refine ⟨?_, ?_, cell_blk (heap_alloc_new w1 _), cell_blk (heap_alloc_new w1 _)⟩
    · exact ((below_new w1 _).cell (p := ⟨w.heap.size, 0, none⟩) hlt).trans (cell_kept HB1.out 0)
    · exact ((below_new w1 _).cell (p := ⟨w.heap.size, 1, none⟩) hlt).trans (cell_kept HB1.out 1))
  have B1 : Below w.heap.size w (w1.alloc (.cells #[.int .i64 (kindI n), .int .i64 (scaleI n)] 23)) := ((below_new w _).trans (HB1.out.mono (by simp))).alloc (by omega) _
  have B1 := Aside.mk B1
  generalize hW : w1.alloc (.cells #[.int .i64 (kindI n), .int .i64 (scaleI n)] 23) = W1 at *
  clear hW
  generalize w1.heap.size = g at *
  generalize hkk : kindI n = kk at *
  generalize hss : scaleI n = ss at *
  clear hkk hss HB1
  obtain ⟨p0, p1, p2, p3⟩ := HS.out
  have hct : ctOf kk ss = 0 := by unfold ctOf; rw [if_pos HK.out]
  go_region_held3 (fun w' => w'.cell? ⟨w.heap.size, 0, none⟩ = some (.int .i64 k) ∧ w'.cell? ⟨w.heap.size, 1, none⟩ = some (.int .i64 s) ∧ w'.cell? ⟨g, 0, none⟩ = some (.int .i64 kk) ∧ w'.cell? ⟨g, 1, none⟩ = some (.int .i64 ss))
    (first | go_keep | (refine ⟨?_, ?_, ?_, ?_⟩ <;> assumption))
    (first
      | (go_at_call 10; refine (check_f _ _ _).mono ?_; rintro e wa ⟨rfl, hba⟩; (first | (replace hba := undrew hba) | skip); obtain ⟨q0, q1, q2, q3⟩ := lawS_next (w2 := wa) HS.out (by repeat (first | exact Below.refl _ _ | exact below_drew1 _ | (refine below_chain ?_ (by assumption)))))
      | (go_at_call 11; refine (r18check_f _ _ _).mono ?_; rintro e wb ⟨rfl, hbb⟩; (first | (replace hbb := undrew hbb) | skip); obtain ⟨q0, q1, q2, q3⟩ := lawS_next (w2 := wb) HS.out (by repeat (first | exact Below.refl _ _ | exact below_drew1 _ | (refine below_chain ?_ (by assumption)))))
      | (go_at_call 9; refine (num_any _ _).mono ?_; rintro e wn ⟨rfl, rfl⟩)
      | (go_at_call 12; refine (width_any _ _).mono ?_; rintro e wn ⟨rfl, rfl⟩)
      | (go_at_call 13; refine (r18width_any _ _).mono ?_; rintro e wn ⟨rfl, rfl⟩)
      | (go_at_call 14; refine (fits_any _ _ _ h0 h1 _).mono ?_; rintro e wc ⟨rfl, hbc⟩; (first | (replace hbc := undrew hbc) | skip); obtain ⟨q0, q1, q2, q3⟩ := lawS_next (w2 := wc) HS.out (by repeat (first | exact Below.refl _ _ | exact below_drew1 _ | (refine below_chain ?_ (by assumption)))))
      | (go_at_call 15; refine (r18fits_any _ _ _ h0 h1 _).mono ?_; rintro e wd ⟨rfl, hbd⟩; (first | (replace hbd := undrew hbd) | skip); obtain ⟨q0, q1, q2, q3⟩ := lawS_next (w2 := wd) HS.out (by repeat (first | exact Below.refl _ _ | exact below_drew1 _ | (refine below_chain ?_ (by assumption)))))
      | (go_at_call 16; refine (wakes_any _).mono ?_; rintro e we ⟨rfl, hbe⟩; (first | (replace hbe := undrew hbe) | skip); obtain ⟨q0, q1, q2, q3⟩ := lawS_next (w2 := we) HS.out (by repeat (first | exact Below.refl _ _ | exact below_drew1 _ | (refine below_chain ?_ (by assumption))))))
  go_wp2
  go_ret
  exact ⟨rfl, below_chain B1.out (by repeat (first | exact Below.refl _ _ | exact below_drew1 _ | (refine below_chain ?_ (by assumption))))⟩
end Go.Proofs.Ytmhjjhaipcgbiaa
