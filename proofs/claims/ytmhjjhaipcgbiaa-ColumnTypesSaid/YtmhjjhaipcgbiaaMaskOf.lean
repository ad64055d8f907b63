/- mask.Of. -/
import Derived.Test.YtmhjjhaipcgbiaaMask
namespace Go.Proofs.Ytmhjjhaipcgbiaa
open Go.RowKit
set_option linter.unusedVariables false
set_option linter.unusedSimpArgs false
set_option maxRecDepth 100000
set_option maxHeartbeats 1000000

/-- A mask's bytes. -/
def mofR : List Bool → List Int
  | [] => []
  | b :: r => mput (mofR r) r.length b
def mof (l : List Bool) : List Int := mofR l.reverse
theorem mof_snoc (l : List Bool) (b : Bool) : mof (l ++ [b]) = mput (mof l) l.length b := by simp [mof, mofR]
theorem mofR_len (l : List Bool) : (mofR l).length = (l.length + 7) / 8 := by
  induction l with
  | nil => rfl
  | cons b r ih =>
    rw [mofR, mput_len _ _ _ ih, List.length_cons]
    omega
theorem mof_len (l : List Bool) : (mof l).length = (l.length + 7) / 8 := by rw [mof, mofR_len, List.length_reverse]

def MofIn (l : List Bool) (i : Nat) (w wr : World) : Prop :=
  ∃ v', wr.heap[w.heap.size + 1]? = some (.cells #[.int .i64 (i : Int), v'] 39 (0, 0)) ∧ wr.heap[w.heap.size]? = some (.cells #[.int .i64 0, .slice none 0 0] 39 (0, 0)) ∧
    Own wr w.heap.size 5 1 v' (mof (l.take i)).length ((mof (l.take i)).map (.int .u8)) ∧ Below w.heap.size w wr
def MofP (l : List Bool) (w : World) (e : Ending) (w' : World) : Prop :=
  ∃ v', e = .returned (.agg #[.int .i64 (l.length : Int), v']) ∧ Own w' w.heap.size 5 1 v' (mof l).length ((mof l).map (.int .u8)) ∧ Below w.heap.size w w'

theorem mof_put {wr w3 : World} {base b m : Nat} {v' : Value} {xs cs : List Value} (hB : wr.heap[b]? = some (.cells cs.toArray 39 (0, 0))) (ho : Own wr base 5 1 v' m xs) (hk : Kept (fun b => v'.ownBlock = some b) wr w3) : w3.heap[b]? = some (.cells cs.toArray 39 (0, 0)) :=
  (hk.block b (lt_of_blk hB) (ho.blk_ne hB (by decide))).trans hB

theorem mof_step {l : List Bool} {i : Nat} {w wr w3 : World} {v' v3 : Value} (hi : i < l.length) (b1 : w3.heap[w.heap.size + 1]? = some (.cells #[.int .i64 (i : Int), v'] 39 (0, 0))) (b0 : w3.heap[w.heap.size]? = some (.cells #[.int .i64 0, .slice none 0 0] 39 (0, 0)))
    (ho : ∀ k, v'.ownBlock = some k → w.heap.size ≤ k) (hb : Below w.heap.size w wr) (hk : Kept (fun b => v'.ownBlock = some b) wr w3) (h3 : Own w3 w.heap.size 5 1 v3 (mput (mof (l.take i)) i l[i]).length ((mput (mof (l.take i)) i l[i]).map (.int .u8))) :
    MofIn l (i + 1) w ((w3.setCell ⟨w.heap.size + 1, 0, none⟩ (.int .i64 ((i : Int) + 1))).setCell ⟨w.heap.size + 1, 1, none⟩ v3) := by
  have e : mof (l.take (i + 1)) = mput (mof (l.take i)) i l[i] := by
    rw [List.take_succ_eq_append_getElem hi, mof_snoc, List.length_take, Nat.min_eq_left (by omega)]
  have n1 : v3.ownBlock ≠ some (w.heap.size + 1) := h3.blk_ne b1 (by decide)
  refine ⟨v3, ?_, ?_, ?_, ?_⟩
  · have := heap_setCell_at (k := 1) (heap_setCell_at (k := 0) b1 (.int .i64 ((i : Int) + 1))) v3
    simpa using this
  · rw [Below.heap_setCell _ _ _ _ (by simp), Below.heap_setCell _ _ _ _ (by simp)]; exact b0
  · rw [e]; exact (h3.set_other n1 _).set_other n1 _
  · exact ((hb.trans (hk.to_below hb.size ho)).setCell (by simp) _).setCell (by simp) _

theorem mof_any (l : List Bool) (v : Value) (w : World) (hl : l.length ≤ 100000000) (h : Rd w 1 v l.length (l.map .bool)) : Calls Try.prog 65 #[v] w (MofP l w) := by
  obtain ⟨a, cap, rfl⟩ := h.form
  have HR := Aside.mk h
  clear h
  generalize hn : l.length = n at *
  have HN := Aside.mk hn
  clear hn
  go_enter Try.func65, Try.ntmps65
  go_wp2
  go_loopw [5, 9] (fun bv iv wr => ∃ i : Nat, i ≤ n ∧ iv = .int .i64 (i : Int) ∧ Aside (MofIn l i w wr)) (fun _ iv _ => n - (intOf iv).toNat)
  case atStart =>
    refine ⟨0, by omega, rfl, ⟨.slice none 0 0, ?_, ?_, Own.nil _ _ _ _, ((Below.refl _ _).alloc (Nat.le_refl _) _).alloc (by simp) _⟩⟩
    · have := heap_alloc_new (w.alloc (.cells #[.int .i64 0, .slice none 0 0] 39)) (.cells #[.int .i64 0, .slice none 0 0] 39)
      simpa using this
    · rw [Below.heap_alloc _ _ _ (by simp)]; exact heap_alloc_new _ _
  case round =>
    obtain ⟨i, hi, rfl, hp⟩ := hrel
    obtain ⟨v', hB1, hB0, ho, hb⟩ := hp.out
    have hs := hb.size
    have c10 := cell_blk (k := 0) hB1
    have c11 := cell_blk (k := 1) hB1
    have f10 := frozen_blk (k := 0) hB1
    have f11 := frozen_blk (k := 1) hB1
    have c00 := cell_blk (k := 0) hB0
    have c01 := cell_blk (k := 1) hB0
    have f00 := frozen_blk (k := 0) hB0
    have f01 := frozen_blk (k := 1) hB0
    simp at c10 c11 c00 c01
    by_cases hlt : i < n
    · have hil : i < l.length := by rw [HN.out]; exact hlt
      obtain ⟨_, a', cap', hsl, _, _, _, hcells⟩ := HR.out
      simp only [Value.slice.injEq, true_and] at hsl
      obtain ⟨rfl, rfl⟩ := hsl
      obtain ⟨g, off, rfl, hc⟩ := hcells i (.bool l[i]) (by simp [List.getElem?_eq_getElem hil])
      have hc2 := (hb.cell (p := ⟨g, off + i, none⟩) (World.block_lt_of_cell? _ _ hc)).trans hc
      obtain ⟨a1, c1, rfl⟩ := ho.form
      have HO := Aside.mk (And.intro hB1 (And.intro hB0 (And.intro ho hb)))
      have HCC := Aside.mk hcells
      clear hcells hc ho hB1 hB0 hb
      generalize hbb : l[i] = bit at *
      have HBIT := Aside.mk hbb
      clear hbb
      go_wp2_with (go_at_call 107; refine (mput_any w.heap.size i (mof (l.take i)) bit _ _ (by omega) (by rw [mof_len, List.length_take]; omega) HO.out.2.2.1 hs).mono ?_; rintro e w3 ⟨v3, rfl, ho3, hk3, hat3⟩; obtain ⟨a3, c3, rfl⟩ := ho3.form; have H3 := Aside.mk (And.intro ho3 (And.intro hk3 hat3)); have b1 := mof_put HO.out.1 HO.out.2.2.1 hk3; have b0 := mof_put HO.out.2.1 HO.out.2.2.1 hk3; have d10 := cell_blk (k := 0) b1; have d11 := cell_blk (k := 1) b1; have e10 := frozen_blk (k := 0) b1; have e11 := frozen_blk (k := 1) b1; simp at d10 d11; have BB := Aside.mk (And.intro b1 b0); clear ho3 hk3 hat3 b1 b0)
      go_roundw
      case rel =>
        exact ⟨i + 1, by omega, by go_num, ⟨mof_step hil BB.out.1 BB.out.2 (fun k e => (HO.out.2.2.1.lt k e).1) HO.out.2.2.2 H3.out.2.1 (by rw [HBIT.out]; exact H3.out.1)⟩⟩
      case measure => simp [intOf]; omega
    · obtain rfl : i = n := by omega
      have HO := Aside.mk (And.intro hB1 (And.intro hB0 (And.intro ho hb)))
      obtain ⟨a1, c1, rfl⟩ := ho.form
      clear hB1 hB0 ho hb
      go_wp2_with (fail)
      refine bodyPost_ret (v := .agg #[.int .i64 (i : Int), .slice a1 (mof (l.take i)).length c1]) (by simp [results, Try.results65, go_sem, c00, c01]) rfl ?_
      have e1 : l.take i = l := by rw [← HN.out]; simp
      refine ⟨_, by rw [HN.out], ?_, ?_⟩
      · have h0 := HO.out.2.2.1.blk_ne HO.out.2.1 (by decide)
        have := (HO.out.2.2.1.set_other (a := ⟨w.heap.size, 0, none⟩) h0 (.int .i64 (i : Int))).set_other (a := ⟨w.heap.size, 1, none⟩) h0 (.slice a1 (mof (l.take i)).length c1)
        rw [e1] at this ⊢
        exact this
      · exact (HO.out.2.2.2.setCell (Nat.le_refl _) _).setCell (Nat.le_refl _) _
end Go.Proofs.Ytmhjjhaipcgbiaa
