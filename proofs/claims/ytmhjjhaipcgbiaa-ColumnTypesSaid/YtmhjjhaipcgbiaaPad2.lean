/- date.pad, PrintDay, PrintMoment. -/
import Derived.Test.YtmhjjhaipcgbiaaPad
namespace Go.Proofs.Ytmhjjhaipcgbiaa
open Go.RowKit
set_option linter.unusedVariables false
set_option linter.unusedSimpArgs false
set_option maxRecDepth 100000
set_option maxHeartbeats 2000000

theorem one_digs (X w : Nat) : ∀ u ∈ digs X w, u.oneCell' = true := by
  intro x hx
  simp only [digs, List.mem_map] at hx
  obtain ⟨j, _, rfl⟩ := hx
  rfl

def RowP (w : World) (e : Ending) (w' : World) : Prop := ∃ a n c xs, e = .returned (.slice a n c) ∧ Own w' w.heap.size 5 1 (.slice a n c) n xs ∧ n ≤ 40 ∧ Below w.heap.size w w'

theorem pad3 (y m d : Nat) (hy : y < 10000) (hm : m < 100) (hd : d < 100) (g : Nat) (T : TypeId) (w : World) (hr : w.heap[g]? = some (.cells #[.int .i64 (y : Int), .int .i64 (m : Int), .int .i64 (d : Int)] T (0, 0))) : Calls Try.prog 93 #[.string ⟨#[32, 45, 45]⟩, .slice (some ⟨g, 0, none⟩) 3 3] w (RowP w) := by
  have HR := Aside.mk hr
  clear hr
  go_enter Try.func93, Try.ntmps93
  go_wp2
  go_loopw [5, 13] (fun vo ii wr => ∃ i : Nat, i ≤ 3 ∧ ii = .int .i64 (i : Int) ∧ Aside (Below w.heap.size w wr) ∧ Aside (∃ k xs, k ≤ 5 * i ∧ Own wr w.heap.size 5 1 vo k xs)) (fun _ ii _ => 3 - (intOf ii).toNat)
  case atStart => exact ⟨0, by omega, rfl, ⟨Below.refl _ _⟩, ⟨0, [], by omega, Own.nil _ _ _ _⟩⟩
  case round =>
    obtain ⟨i, hi, rfl, hb, hp⟩ := hrel
    obtain ⟨k, xs, hk, hp⟩ := hp.out
    obtain ⟨a1, c1, rfl⟩ := hp.form
    have HP := Aside.mk hp
    clear hp
    have hg : wr.heap[g]? = some (.cells #[.int .i64 (y : Int), .int .i64 (m : Int), .int .i64 (d : Int)] T (0, 0)) := (hb.out.block g (lt_of_blk HR.out)).trans HR.out
    have hcs : i = 0 ∨ i = 1 ∨ i = 2 ∨ i = 3 := by omega
    rcases hcs with rfl | rfl | rfl | rfl
    · have hc : wr.cell? ⟨g, 0, none⟩ = some (.int .i64 (y : Int)) := (cell_blk hg).trans rfl
      have hbw := Aside.mk (World.block_lt_of_cell? _ _ hc)
      clear hg
      go_wp2_with (first | (go_at_call 94; refine (pad_ok y 4 (by omega) (by omega) (by omega) (by omega) _).mono ?_; rintro e w6 ⟨da, dc, rfl, hd1, hd2⟩; have HD := Aside.mk (And.intro hd1 hd2); clear hd1 hd2) | (at_builtin; refine wpList_app _ rfl _ _ 37 37 rfl w.heap.size 5 (.int .u8 0) 1 1 Try.underlying37 u8info rfl _ _ _ rfl (HP.out.below HD.out.2) _ 4 (digs y 4) rfl (HD.out.1.rd.src Try.underlying37 (one_digs _ _)) (by unfold maxLen; omega) (by omega) (by have := hb.out.size; have := HD.out.2.size; omega) ?_))
      intro v' w7 hown' hgrow _ hat
      obtain ⟨a7, c7, rfl⟩ := hown'.form
      have HP7 := Aside.mk hown'
      have hb7 := Aside.mk ((hb.out.trans (HD.out.2.mono hb.out.size)).trans (below_of_grown hgrow (by have := hb.out.size; have := HD.out.2.size; omega) (fun k e => (HP.out.lt k e).1)))
      clear hown' hgrow hat
      go_wp2
      go_roundw
      case rel => exact ⟨1, by omega, by go_num, hb7, ⟨_, _, by omega, HP7.out⟩⟩
      case measure => simp [intOf]
    · have hc : wr.cell? ⟨g, 1, none⟩ = some (.int .i64 (m : Int)) := (cell_blk hg).trans rfl
      have hbw := Aside.mk (World.block_lt_of_cell? _ _ hc)
      clear hg
      go_wp2_with (at_builtin; refine wpList_app _ rfl _ _ 37 37 rfl w.heap.size 5 (.int .u8 0) 1 1 Try.underlying37 u8info rfl _ _ _ rfl (HP.out.alloc _) _ 1 [.int .u8 45] rfl (src_one Try.underlying37 _ _ _ rfl rfl) (by unfold maxLen; omega) (by omega) (by have := hb.out.size; simp; omega) ?_)
      intro v' w5 hown' hgrow _ hat
      obtain ⟨a5, c5, rfl⟩ := hown'.form
      have HP5 := Aside.mk hown'
      have hb5 := Aside.mk ((hb.out.alloc hb.out.size (.cells #[.int .u8 45] 5)).trans (below_of_grown hgrow (by have := hb.out.size; simp; omega) (fun k e => (HP.out.lt k e).1)))
      clear hown' hgrow hat
      go_wp2_with (first | (go_at_call 94; refine (pad_ok m 2 (by omega) (by omega) (by omega) (by omega) _).mono ?_; rintro e w6 ⟨da, dc, rfl, hd1, hd2⟩; have HD := Aside.mk (And.intro hd1 hd2); clear hd1 hd2) | (at_builtin; refine wpList_app _ rfl _ _ 37 37 rfl w.heap.size 5 (.int .u8 0) 1 1 Try.underlying37 u8info rfl _ _ _ rfl (HP5.out.below HD.out.2) _ 2 (digs m 2) rfl (HD.out.1.rd.src Try.underlying37 (one_digs _ _)) (by unfold maxLen; omega) (by omega) (by have := hb5.out.size; have := HD.out.2.size; omega) ?_))
      intro v' w7 hown' hgrow _ hat
      obtain ⟨a7, c7, rfl⟩ := hown'.form
      have HP7 := Aside.mk hown'
      have hb7 := Aside.mk ((hb5.out.trans (HD.out.2.mono hb5.out.size)).trans (below_of_grown hgrow (by have := hb5.out.size; have := HD.out.2.size; omega) (fun k e => (HP5.out.lt k e).1)))
      clear hown' hgrow hat
      go_wp2
      go_roundw
      case rel => exact ⟨2, by omega, by go_num, hb7, ⟨_, _, by omega, HP7.out⟩⟩
      case measure => simp [intOf]
    · have hc : wr.cell? ⟨g, 2, none⟩ = some (.int .i64 (d : Int)) := (cell_blk hg).trans rfl
      have hbw := Aside.mk (World.block_lt_of_cell? _ _ hc)
      clear hg
      go_wp2_with (at_builtin; refine wpList_app _ rfl _ _ 37 37 rfl w.heap.size 5 (.int .u8 0) 1 1 Try.underlying37 u8info rfl _ _ _ rfl (HP.out.alloc _) _ 1 [.int .u8 45] rfl (src_one Try.underlying37 _ _ _ rfl rfl) (by unfold maxLen; omega) (by omega) (by have := hb.out.size; simp; omega) ?_)
      intro v' w5 hown' hgrow _ hat
      obtain ⟨a5, c5, rfl⟩ := hown'.form
      have HP5 := Aside.mk hown'
      have hb5 := Aside.mk ((hb.out.alloc hb.out.size (.cells #[.int .u8 45] 5)).trans (below_of_grown hgrow (by have := hb.out.size; simp; omega) (fun k e => (HP.out.lt k e).1)))
      clear hown' hgrow hat
      go_wp2_with (first | (go_at_call 94; refine (pad_ok d 2 (by omega) (by omega) (by omega) (by omega) _).mono ?_; rintro e w6 ⟨da, dc, rfl, hd1, hd2⟩; have HD := Aside.mk (And.intro hd1 hd2); clear hd1 hd2) | (at_builtin; refine wpList_app _ rfl _ _ 37 37 rfl w.heap.size 5 (.int .u8 0) 1 1 Try.underlying37 u8info rfl _ _ _ rfl (HP5.out.below HD.out.2) _ 2 (digs d 2) rfl (HD.out.1.rd.src Try.underlying37 (one_digs _ _)) (by unfold maxLen; omega) (by omega) (by have := hb5.out.size; have := HD.out.2.size; omega) ?_))
      intro v' w7 hown' hgrow _ hat
      obtain ⟨a7, c7, rfl⟩ := hown'.form
      have HP7 := Aside.mk hown'
      have hb7 := Aside.mk ((hb5.out.trans (HD.out.2.mono hb5.out.size)).trans (below_of_grown hgrow (by have := hb5.out.size; have := HD.out.2.size; omega) (fun k e => (HP5.out.lt k e).1)))
      clear hown' hgrow hat
      go_wp2
      go_roundw
      case rel => exact ⟨3, by omega, by go_num, hb7, ⟨_, _, by omega, HP7.out⟩⟩
      case measure => simp [intOf]
    · go_wp2
      go_ret
      exact ⟨a1, k, c1, xs, rfl, HP.out, by omega, hb.out⟩

theorem pad6 (y m d p q r : Nat) (hy : y < 10000) (hm : m < 100) (hd : d < 100) (hp : p < 100) (hq : q < 100) (hr : r < 100) (g : Nat) (T : TypeId) (w : World) (hr : w.heap[g]? = some (.cells #[.int .i64 (y : Int), .int .i64 (m : Int), .int .i64 (d : Int), .int .i64 (p : Int), .int .i64 (q : Int), .int .i64 (r : Int)] T (0, 0))) : Calls Try.prog 93 #[.string ⟨#[32, 45, 45, 84, 58, 58]⟩, .slice (some ⟨g, 0, none⟩) 6 6] w (RowP w) := by
  have HR := Aside.mk hr
  clear hr
  go_enter Try.func93, Try.ntmps93
  go_wp2
  go_loopw [5, 13] (fun vo ii wr => ∃ i : Nat, i ≤ 6 ∧ ii = .int .i64 (i : Int) ∧ Aside (Below w.heap.size w wr) ∧ Aside (∃ k xs, k ≤ 5 * i ∧ Own wr w.heap.size 5 1 vo k xs)) (fun _ ii _ => 6 - (intOf ii).toNat)
  case atStart => exact ⟨0, by omega, rfl, ⟨Below.refl _ _⟩, ⟨0, [], by omega, Own.nil _ _ _ _⟩⟩
  case round =>
    obtain ⟨i, hi, rfl, hb, hp⟩ := hrel
    obtain ⟨k, xs, hk, hp⟩ := hp.out
    obtain ⟨a1, c1, rfl⟩ := hp.form
    have HP := Aside.mk hp
    clear hp
    have hg : wr.heap[g]? = some (.cells #[.int .i64 (y : Int), .int .i64 (m : Int), .int .i64 (d : Int), .int .i64 (p : Int), .int .i64 (q : Int), .int .i64 (r : Int)] T (0, 0)) := (hb.out.block g (lt_of_blk HR.out)).trans HR.out
    have hcs : i = 0 ∨ i = 1 ∨ i = 2 ∨ i = 3 ∨ i = 4 ∨ i = 5 ∨ i = 6 := by omega
    rcases hcs with rfl | rfl | rfl | rfl | rfl | rfl | rfl
    · have hc : wr.cell? ⟨g, 0, none⟩ = some (.int .i64 (y : Int)) := (cell_blk hg).trans rfl
      have hbw := Aside.mk (World.block_lt_of_cell? _ _ hc)
      clear hg
      go_wp2_with (first | (go_at_call 94; refine (pad_ok y 4 (by omega) (by omega) (by omega) (by omega) _).mono ?_; rintro e w6 ⟨da, dc, rfl, hd1, hd2⟩; have HD := Aside.mk (And.intro hd1 hd2); clear hd1 hd2) | (at_builtin; refine wpList_app _ rfl _ _ 37 37 rfl w.heap.size 5 (.int .u8 0) 1 1 Try.underlying37 u8info rfl _ _ _ rfl (HP.out.below HD.out.2) _ 4 (digs y 4) rfl (HD.out.1.rd.src Try.underlying37 (one_digs _ _)) (by unfold maxLen; omega) (by omega) (by have := hb.out.size; have := HD.out.2.size; omega) ?_))
      intro v' w7 hown' hgrow _ hat
      obtain ⟨a7, c7, rfl⟩ := hown'.form
      have HP7 := Aside.mk hown'
      have hb7 := Aside.mk ((hb.out.trans (HD.out.2.mono hb.out.size)).trans (below_of_grown hgrow (by have := hb.out.size; have := HD.out.2.size; omega) (fun k e => (HP.out.lt k e).1)))
      clear hown' hgrow hat
      go_wp2
      go_roundw
      case rel => exact ⟨1, by omega, by go_num, hb7, ⟨_, _, by omega, HP7.out⟩⟩
      case measure => simp [intOf]
    · have hc : wr.cell? ⟨g, 1, none⟩ = some (.int .i64 (m : Int)) := (cell_blk hg).trans rfl
      have hbw := Aside.mk (World.block_lt_of_cell? _ _ hc)
      clear hg
      go_wp2_with (at_builtin; refine wpList_app _ rfl _ _ 37 37 rfl w.heap.size 5 (.int .u8 0) 1 1 Try.underlying37 u8info rfl _ _ _ rfl (HP.out.alloc _) _ 1 [.int .u8 45] rfl (src_one Try.underlying37 _ _ _ rfl rfl) (by unfold maxLen; omega) (by omega) (by have := hb.out.size; simp; omega) ?_)
      intro v' w5 hown' hgrow _ hat
      obtain ⟨a5, c5, rfl⟩ := hown'.form
      have HP5 := Aside.mk hown'
      have hb5 := Aside.mk ((hb.out.alloc hb.out.size (.cells #[.int .u8 45] 5)).trans (below_of_grown hgrow (by have := hb.out.size; simp; omega) (fun k e => (HP.out.lt k e).1)))
      clear hown' hgrow hat
      go_wp2_with (first | (go_at_call 94; refine (pad_ok m 2 (by omega) (by omega) (by omega) (by omega) _).mono ?_; rintro e w6 ⟨da, dc, rfl, hd1, hd2⟩; have HD := Aside.mk (And.intro hd1 hd2); clear hd1 hd2) | (at_builtin; refine wpList_app _ rfl _ _ 37 37 rfl w.heap.size 5 (.int .u8 0) 1 1 Try.underlying37 u8info rfl _ _ _ rfl (HP5.out.below HD.out.2) _ 2 (digs m 2) rfl (HD.out.1.rd.src Try.underlying37 (one_digs _ _)) (by unfold maxLen; omega) (by omega) (by have := hb5.out.size; have := HD.out.2.size; omega) ?_))
      intro v' w7 hown' hgrow _ hat
      obtain ⟨a7, c7, rfl⟩ := hown'.form
      have HP7 := Aside.mk hown'
      have hb7 := Aside.mk ((hb5.out.trans (HD.out.2.mono hb5.out.size)).trans (below_of_grown hgrow (by have := hb5.out.size; have := HD.out.2.size; omega) (fun k e => (HP5.out.lt k e).1)))
      clear hown' hgrow hat
      go_wp2
      go_roundw
      case rel => exact ⟨2, by omega, by go_num, hb7, ⟨_, _, by omega, HP7.out⟩⟩
      case measure => simp [intOf]
    · have hc : wr.cell? ⟨g, 2, none⟩ = some (.int .i64 (d : Int)) := (cell_blk hg).trans rfl
      have hbw := Aside.mk (World.block_lt_of_cell? _ _ hc)
      clear hg
      go_wp2_with (at_builtin; refine wpList_app _ rfl _ _ 37 37 rfl w.heap.size 5 (.int .u8 0) 1 1 Try.underlying37 u8info rfl _ _ _ rfl (HP.out.alloc _) _ 1 [.int .u8 45] rfl (src_one Try.underlying37 _ _ _ rfl rfl) (by unfold maxLen; omega) (by omega) (by have := hb.out.size; simp; omega) ?_)
      intro v' w5 hown' hgrow _ hat
      obtain ⟨a5, c5, rfl⟩ := hown'.form
      have HP5 := Aside.mk hown'
      have hb5 := Aside.mk ((hb.out.alloc hb.out.size (.cells #[.int .u8 45] 5)).trans (below_of_grown hgrow (by have := hb.out.size; simp; omega) (fun k e => (HP.out.lt k e).1)))
      clear hown' hgrow hat
      go_wp2_with (first | (go_at_call 94; refine (pad_ok d 2 (by omega) (by omega) (by omega) (by omega) _).mono ?_; rintro e w6 ⟨da, dc, rfl, hd1, hd2⟩; have HD := Aside.mk (And.intro hd1 hd2); clear hd1 hd2) | (at_builtin; refine wpList_app _ rfl _ _ 37 37 rfl w.heap.size 5 (.int .u8 0) 1 1 Try.underlying37 u8info rfl _ _ _ rfl (HP5.out.below HD.out.2) _ 2 (digs d 2) rfl (HD.out.1.rd.src Try.underlying37 (one_digs _ _)) (by unfold maxLen; omega) (by omega) (by have := hb5.out.size; have := HD.out.2.size; omega) ?_))
      intro v' w7 hown' hgrow _ hat
      obtain ⟨a7, c7, rfl⟩ := hown'.form
      have HP7 := Aside.mk hown'
      have hb7 := Aside.mk ((hb5.out.trans (HD.out.2.mono hb5.out.size)).trans (below_of_grown hgrow (by have := hb5.out.size; have := HD.out.2.size; omega) (fun k e => (HP5.out.lt k e).1)))
      clear hown' hgrow hat
      go_wp2
      go_roundw
      case rel => exact ⟨3, by omega, by go_num, hb7, ⟨_, _, by omega, HP7.out⟩⟩
      case measure => simp [intOf]
    · have hc : wr.cell? ⟨g, 3, none⟩ = some (.int .i64 (p : Int)) := (cell_blk hg).trans rfl
      have hbw := Aside.mk (World.block_lt_of_cell? _ _ hc)
      clear hg
      go_wp2_with (at_builtin; refine wpList_app _ rfl _ _ 37 37 rfl w.heap.size 5 (.int .u8 0) 1 1 Try.underlying37 u8info rfl _ _ _ rfl (HP.out.alloc _) _ 1 [.int .u8 84] rfl (src_one Try.underlying37 _ _ _ rfl rfl) (by unfold maxLen; omega) (by omega) (by have := hb.out.size; simp; omega) ?_)
      intro v' w5 hown' hgrow _ hat
      obtain ⟨a5, c5, rfl⟩ := hown'.form
      have HP5 := Aside.mk hown'
      have hb5 := Aside.mk ((hb.out.alloc hb.out.size (.cells #[.int .u8 84] 5)).trans (below_of_grown hgrow (by have := hb.out.size; simp; omega) (fun k e => (HP.out.lt k e).1)))
      clear hown' hgrow hat
      go_wp2_with (first | (go_at_call 94; refine (pad_ok p 2 (by omega) (by omega) (by omega) (by omega) _).mono ?_; rintro e w6 ⟨da, dc, rfl, hd1, hd2⟩; have HD := Aside.mk (And.intro hd1 hd2); clear hd1 hd2) | (at_builtin; refine wpList_app _ rfl _ _ 37 37 rfl w.heap.size 5 (.int .u8 0) 1 1 Try.underlying37 u8info rfl _ _ _ rfl (HP5.out.below HD.out.2) _ 2 (digs p 2) rfl (HD.out.1.rd.src Try.underlying37 (one_digs _ _)) (by unfold maxLen; omega) (by omega) (by have := hb5.out.size; have := HD.out.2.size; omega) ?_))
      intro v' w7 hown' hgrow _ hat
      obtain ⟨a7, c7, rfl⟩ := hown'.form
      have HP7 := Aside.mk hown'
      have hb7 := Aside.mk ((hb5.out.trans (HD.out.2.mono hb5.out.size)).trans (below_of_grown hgrow (by have := hb5.out.size; have := HD.out.2.size; omega) (fun k e => (HP5.out.lt k e).1)))
      clear hown' hgrow hat
      go_wp2
      go_roundw
      case rel => exact ⟨4, by omega, by go_num, hb7, ⟨_, _, by omega, HP7.out⟩⟩
      case measure => simp [intOf]
    · have hc : wr.cell? ⟨g, 4, none⟩ = some (.int .i64 (q : Int)) := (cell_blk hg).trans rfl
      have hbw := Aside.mk (World.block_lt_of_cell? _ _ hc)
      clear hg
      go_wp2_with (at_builtin; refine wpList_app _ rfl _ _ 37 37 rfl w.heap.size 5 (.int .u8 0) 1 1 Try.underlying37 u8info rfl _ _ _ rfl (HP.out.alloc _) _ 1 [.int .u8 58] rfl (src_one Try.underlying37 _ _ _ rfl rfl) (by unfold maxLen; omega) (by omega) (by have := hb.out.size; simp; omega) ?_)
      intro v' w5 hown' hgrow _ hat
      obtain ⟨a5, c5, rfl⟩ := hown'.form
      have HP5 := Aside.mk hown'
      have hb5 := Aside.mk ((hb.out.alloc hb.out.size (.cells #[.int .u8 58] 5)).trans (below_of_grown hgrow (by have := hb.out.size; simp; omega) (fun k e => (HP.out.lt k e).1)))
      clear hown' hgrow hat
      go_wp2_with (first | (go_at_call 94; refine (pad_ok q 2 (by omega) (by omega) (by omega) (by omega) _).mono ?_; rintro e w6 ⟨da, dc, rfl, hd1, hd2⟩; have HD := Aside.mk (And.intro hd1 hd2); clear hd1 hd2) | (at_builtin; refine wpList_app _ rfl _ _ 37 37 rfl w.heap.size 5 (.int .u8 0) 1 1 Try.underlying37 u8info rfl _ _ _ rfl (HP5.out.below HD.out.2) _ 2 (digs q 2) rfl (HD.out.1.rd.src Try.underlying37 (one_digs _ _)) (by unfold maxLen; omega) (by omega) (by have := hb5.out.size; have := HD.out.2.size; omega) ?_))
      intro v' w7 hown' hgrow _ hat
      obtain ⟨a7, c7, rfl⟩ := hown'.form
      have HP7 := Aside.mk hown'
      have hb7 := Aside.mk ((hb5.out.trans (HD.out.2.mono hb5.out.size)).trans (below_of_grown hgrow (by have := hb5.out.size; have := HD.out.2.size; omega) (fun k e => (HP5.out.lt k e).1)))
      clear hown' hgrow hat
      go_wp2
      go_roundw
      case rel => exact ⟨5, by omega, by go_num, hb7, ⟨_, _, by omega, HP7.out⟩⟩
      case measure => simp [intOf]
    · have hc : wr.cell? ⟨g, 5, none⟩ = some (.int .i64 (r : Int)) := (cell_blk hg).trans rfl
      have hbw := Aside.mk (World.block_lt_of_cell? _ _ hc)
      clear hg
      go_wp2_with (at_builtin; refine wpList_app _ rfl _ _ 37 37 rfl w.heap.size 5 (.int .u8 0) 1 1 Try.underlying37 u8info rfl _ _ _ rfl (HP.out.alloc _) _ 1 [.int .u8 58] rfl (src_one Try.underlying37 _ _ _ rfl rfl) (by unfold maxLen; omega) (by omega) (by have := hb.out.size; simp; omega) ?_)
      intro v' w5 hown' hgrow _ hat
      obtain ⟨a5, c5, rfl⟩ := hown'.form
      have HP5 := Aside.mk hown'
      have hb5 := Aside.mk ((hb.out.alloc hb.out.size (.cells #[.int .u8 58] 5)).trans (below_of_grown hgrow (by have := hb.out.size; simp; omega) (fun k e => (HP.out.lt k e).1)))
      clear hown' hgrow hat
      go_wp2_with (first | (go_at_call 94; refine (pad_ok r 2 (by omega) (by omega) (by omega) (by omega) _).mono ?_; rintro e w6 ⟨da, dc, rfl, hd1, hd2⟩; have HD := Aside.mk (And.intro hd1 hd2); clear hd1 hd2) | (at_builtin; refine wpList_app _ rfl _ _ 37 37 rfl w.heap.size 5 (.int .u8 0) 1 1 Try.underlying37 u8info rfl _ _ _ rfl (HP5.out.below HD.out.2) _ 2 (digs r 2) rfl (HD.out.1.rd.src Try.underlying37 (one_digs _ _)) (by unfold maxLen; omega) (by omega) (by have := hb5.out.size; have := HD.out.2.size; omega) ?_))
      intro v' w7 hown' hgrow _ hat
      obtain ⟨a7, c7, rfl⟩ := hown'.form
      have HP7 := Aside.mk hown'
      have hb7 := Aside.mk ((hb5.out.trans (HD.out.2.mono hb5.out.size)).trans (below_of_grown hgrow (by have := hb5.out.size; have := HD.out.2.size; omega) (fun k e => (HP5.out.lt k e).1)))
      clear hown' hgrow hat
      go_wp2
      go_roundw
      case rel => exact ⟨6, by omega, by go_num, hb7, ⟨_, _, by omega, HP7.out⟩⟩
      case measure => simp [intOf]
    · go_wp2
      go_ret
      exact ⟨a1, k, c1, xs, rfl, HP.out, by omega, hb.out⟩
end Go.Proofs.Ytmhjjhaipcgbiaa
