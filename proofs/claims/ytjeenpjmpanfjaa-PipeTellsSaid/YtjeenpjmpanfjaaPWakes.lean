/- num and wakes of package mintagelaw26: wakes returns true. -/
import Derived.Test.YtjeenpjmpanfjaaPInt
namespace Go.Proofs.Ytjeenpjmpanfjaa
open Go.RowKit

theorem num_any (x : Int) (w : World) : Calls Try.prog 7 #[.int .i64 x] w fun e w' => e = .returned (.int .i64 x) ∧ w = w' := by
  go_enter Try.func7, Try.ntmps7
  go_wp2
  go_ret
  exact ⟨rfl, rfl⟩

set_option maxHeartbeats 400000 in
theorem wakes_any (w : World) : Calls Try.prog 8 #[] w fun e w' => e = .returned (.bool true) ∧ Below w.heap.size w w' := by
  go_enter Try.func8, Try.ntmps8
  go_wp2_with fail
  refine (PInt.new_ok 1 _ (by decide) (by decide)).mono ?_
  rintro e w1 ⟨rfl, rfl⟩
  have H0 := Aside.mk (PInt.Is.new w 1)
  have B0 := Aside.mk ((Below.refl w.heap.size w).alloc (Nat.le_refl _) (.cells #[.int .i64 1, .slice none 0 0, .bool false] 52))
  generalize w.alloc (.cells #[.int .i64 1, .slice none 0 0, .bool false] 52) = w1 at *
  generalize hb : w.heap.size = b at *
  have HB := Aside.mk hb
  clear hb
  go_wp2_with (go_at_call 7; refine (num_any _ _).mono ?_; rintro e w' ⟨rfl, rfl⟩)
  refine (PInt.send_room 7 H0.out (by simp) (by simp)).mono ?_
  rintro e w2 ⟨rfl, sv2, h2, hm2⟩
  have H2 := Aside.mk h2
  have B2 := Aside.mk (B0.out.trans (hm2.below H0.out))
  clear h2 hm2
  go_wp2_with fail
  refine (PInt.send_full 8 H2.out (by simp)).mono ?_
  rintro e w3 ⟨rfl, n3, rfl⟩
  go_wp2_with fail
  refine (PInt.recv_some (xs := []) 7 (H2.out.drewN n3) (by simp)).mono ?_
  rintro e w4 ⟨rfl, sv4, h4, hm4⟩
  have B4 := Aside.mk ((B2.out.trans (below_drewN _ _ _)).trans (hm4.below (H2.out.drewN n3)))
  clear h4 hm4
  go_wp2_with (go_at_call 7; refine (num_any _ _).mono ?_; rintro e w' ⟨rfl, rfl⟩)
  go_ret
  exact ⟨rfl, by rw [HB.out]; exact B4.out⟩
end Go.Proofs.Ytjeenpjmpanfjaa
