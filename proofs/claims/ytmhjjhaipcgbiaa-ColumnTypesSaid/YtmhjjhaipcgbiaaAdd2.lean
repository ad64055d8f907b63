/- add at the kinds of fixed width. -/
import Derived.Test.YtmhjjhaipcgbiaaAdd
import Derived.Test.YtmhjjhaipcgbiaaStep
namespace Go.Proofs.Ytmhjjhaipcgbiaa
open Go.RowKit
set_option linter.unusedVariables false
set_option linter.unusedSimpArgs false
set_option maxRecDepth 100000
set_option maxHeartbeats 1000000

theorem assert_running (v : Value) (w : World) : (Instr.typeAssert (.iface 128 v) 104 125 true).run Try.prog w = .ok (.tuple #[.agg #[], .bool false]) w := by kernel_rfl
theorem assert_coded (v : Value) (w : World) : (Instr.typeAssert (.iface 128 v) 104 130 true).run Try.prog w = .ok (.tuple #[.agg #[.int .i64 0], .bool false]) w := by kernel_rfl
theorem assert_fixed (v : Value) (w : World) : (Instr.typeAssert (.iface 128 v) 104 128 true).run Try.prog w = .ok (.tuple #[v, .bool true]) w := by kernel_rfl

theorem boolinfo : (Try.prog.info? 4).map (fun i => (i.zero, i.size, i.bytes)) = some (some (.bool false), 1, 1) := by kernel_rfl

theorem own_in {w4 : World} {bl lw base : Nat} {k s : Int} {nulls : List Bool} {data ends : List Int} {nv dv ev : Value} {m : Nat} (h : IsB w4 bl lw base k s nulls data ends nv dv ev) (hm : nulls.length = m) {o : Obj} : Own (w4.alloc o).drew base 4 1 nv m (nulls.map .bool) := by
  rw [← hm]
  exact h.nulls.alloc o

theorem isB_ad {w4 : World} {bl lw base : Nat} {k s : Int} {nulls : List Bool} {data ends : List Int} {nv dv ev : Value} (h : IsB w4 bl lw base k s nulls data ends nv dv ev) (o : Obj) : IsB (w4.alloc o).drew bl lw base k s nulls data ends nv dv ev := (h.below (below_new w4 o)).drewN 1
theorem blk_grown {w4 w5 : World} {bl lw base : Nat} {k s : Int} {nulls : List Bool} {data ends : List Int} {nv dv ev : Value} (h : IsB w4 bl lw base k s nulls data ends nv dv ev) {o : Obj} (hg : (w4.alloc o).drew.grownBy w5 nv.ownBlock) : w5.heap[bl]? = some (.cells #[.int .i64 k, .int .i64 s, nv, dv, ev, .pointer (some ⟨lw, 0, none⟩)] 115 (0, 0)) :=
  (hg.block bl (lt_of_blk (isB_ad h o).blk) (fun e => h.nulls.blk_ne h.blk (by decide) e.symm)).trans (isB_ad h o).blk
theorem isB_grown {w4 w5 : World} {bl lw base : Nat} {k s : Int} {nulls : List Bool} {data ends : List Int} {nv nv' dv ev : Value} {m : Nat} {nl : Bool} (h : IsB w4 bl lw base k s nulls data ends nv dv ev) (hm : nulls.length = m) {o : Obj} (hg : (w4.alloc o).drew.grownBy w5 nv.ownBlock) (hown : Own w5 base 4 1 nv' (m + 1) (nulls.map .bool ++ [.bool nl])) :
    IsB (w5.setCell ⟨bl, 2, none⟩ nv') bl lw base k s (nulls ++ [nl]) data ends nv' dv ev ∧ Kept (fun b => b = bl ∨ nv.ownBlock = some b) w4 (w5.setCell ⟨bl, 2, none⟩ nv') := by
  have := (isB_ad h o).app_nulls (nulls' := nulls ++ [nl]) hg (by rw [List.length_append, hm, List.map_append]; exact hown)
  exact ⟨this.1, ((Kept.of_below ((below_new w4 o).trans (below_drewN (w4.alloc o) _ 1))).trans this.2 (fun _ e _ => e))⟩

def AddP (bl lw base : Nat) (k s : Int) (nulls : List Bool) (data : List Int) (ends : List Int) (nv dv ev : Value) (X : Nat) (nl : Bool) (w : World) (e : Ending) (w' : World) : Prop :=
  e = .returned (.tuple #[]) ∧ ∃ nv' dv', IsB w' bl lw base k s (nulls ++ [nl]) (data ++ lows X (widthOf k).toNat) ends nv' dv' ev ∧ Kept (fun b => b = bl ∨ dv.ownBlock = some b ∨ nv.ownBlock = some b) w w' ∧
    (dv'.ownBlock = dv.ownBlock ∨ ∃ b, dv'.ownBlock = some b ∧ w.heap.size ≤ b) ∧ (nv'.ownBlock = nv.ownBlock ∨ ∃ b, nv'.ownBlock = some b ∧ w.heap.size ≤ b)

theorem add_fixed (bl lw base : Nat) (k s : Int) (hk1 : (k == 15) = false) (hk2 : (k == 16) = false) (nulls : List Bool) (data : List Int) (ends : List Int) (nv dv ev : Value) (X : Nat) (tv : Value) (nl : Bool) (hX : X < 18446744073709551616) (hl : data.length ≤ 100000000) (hl2 : nulls.length ≤ 100000000) (w : World) (h : IsB w bl lw base k s nulls data ends nv dv ev) (hb : base ≤ w.heap.size) :
    Calls Try.prog 64 #[.pointer (some ⟨bl, 0, none⟩), .agg #[.int .u64 (X : Int), tv, .bool nl]] w (AddP bl lw base k s nulls data ends nv dv ev X nl w) := by
  have hbs := lt_of_blk h.blk
  have hc0 := cell_blk (k := 0) h.blk
  have hc1 := cell_blk (k := 1) h.blk
  simp at hc0 hc1
  have H0 := Aside.mk h
  clear h
  obtain ⟨n, hn⟩ : ∃ n : Nat, widthOf k = (n : Int) ∧ n ≤ 8 := by
    refine ⟨(widthOf k).toNat, ?_⟩
    unfold widthOf
    split
    · decide
    split
    · decide
    split
    · decide
    split <;> decide
  obtain ⟨hn, hn8⟩ := hn
  have ta1 := assert_running
  have ta2 := assert_coded
  have ta3 := assert_fixed
  go_enter Try.func64, Try.ntmps64
  go_wp2_with (first | (go_at_call 57; refine (of_fixed k s hk1 hk2 _).mono ?_; rintro e w1 ⟨rfl, rfl⟩; rw [hn]))
  have B3 : Below w.heap.size w (((w.alloc (.cells #[.int .u64 (X : Int), tv, .bool nl] 102)).alloc (.cells #[.int .i64 k, .int .i64 s] 23)).alloc (.cells #[.int .i64 (n : Int)] 128)) := (((Below.refl _ _).alloc (Nat.le_refl _) _).alloc (by simp) _).alloc (by simp; omega) _
  have hv3 : (((w.alloc (.cells #[.int .u64 (X : Int), tv, .bool nl] 102)).alloc (.cells #[.int .i64 k, .int .i64 s] 23)).alloc (.cells #[.int .i64 (n : Int)] 128)).heap[w.heap.size]? = some (.cells #[.int .u64 (X : Int), tv, .bool nl] 102 (0, 0)) := by
    rw [Below.heap_alloc _ _ _ (by simp; omega), Below.heap_alloc _ _ _ (by simp)]
    exact heap_alloc_new _ _
  generalize hw3 : (((w.alloc (.cells #[.int .u64 (X : Int), tv, .bool nl] 102)).alloc (.cells #[.int .i64 k, .int .i64 s] 23)).alloc (.cells #[.int .i64 (n : Int)] 128)) = w3 at *
  clear hw3
  have hs3 := B3.size
  refine (word_any bl lw base k s nulls data ends nv dv ev X n hn8 hX hl w3 (H0.out.below B3) (by omega)).mono ?_
  rintro e w4 ⟨rfl, dv', h4, k4, o4⟩
  have hdlt := H0.out.data.lt
  have hvb := lt_of_blk hv3
  have hv4 := (k4.block w.heap.size hvb (by
    rintro (e | e)
    · omega
    · have := (hdlt _ e).2; omega)).trans hv3
  have hcv := cell_blk (k := 2) hv4
  have hcn := cell_blk (k := 2) h4.blk
  have hfn := frozen_blk (k := 2) h4.blk
  simp at hcv hcn
  obtain ⟨a1, c1, rfl⟩ := h4.nulls.form
  have hbs4 := lt_of_blk h4.blk
  have H4 := Aside.mk h4
  have K4 := Aside.mk k4
  have O4 := Aside.mk o4
  have B3 := Aside.mk B3
  have HV4 := Aside.mk hv4
  have HN := Aside.mk hn
  clear h4 k4 o4 hdlt hv3 hv4 H0 hc0 hc1 ta1 ta2 ta3 hn
  generalize hm : nulls.length = m at *
  have HM := Aside.mk hm
  clear hm
  go_wp2_with (fail)
  have hown := Aside.mk (own_in (o := .cells #[.bool nl] 4) H4.out HM.out)
  have hsrc := Aside.mk (src_one_drew (P := Try.prog) (w := w4) Try.underlying113 w4.heap.size (.bool nl) 4 rfl rfl)
  have hbase : base ≤ ((w4.alloc (.cells #[.bool nl] 4)).drew).heap.size := by have := K4.out.size; show base ≤ (w4.alloc _).heap.size; simp; omega
  have hbase := Aside.mk hbase
  have h63 : m + 1 ≤ maxLen := by unfold maxLen; omega
  have h63 := Aside.mk h63
  have hby : (m + 1) * 1 ≤ 140737488355328 := by omega
  have hby := Aside.mk hby
  go_region_law ((refine step_app (P := Try.prog) ((w4.alloc (.cells #[.bool nl] 4)).drew) (by rfl) (.tmp 74) (.tmp 77) 113 113 (by rfl) base 4 (.bool false) 1 1 Try.underlying113 boolinfo (by rfl) (.slice a1 m c1) m (nulls.map .bool) (by rfl) hown.out (.slice (some ⟨w4.heap.size, 0, none⟩) 1 1) 1 [.bool nl] (by rfl) hsrc.out h63.out hby.out hbase.out ?_; intro v' w5 hown' hgrow _ hat; obtain ⟨a5, c5, rfl⟩ := hown'.form; have hc5 := cell_blk (k := 2) (blk_grown H4.out hgrow); have hf5 := frozen_blk (k := 2) (blk_grown H4.out hgrow); simp at hc5; have HH := Aside.mk (isB_grown H4.out HM.out hgrow hown'); have HAT := Aside.mk hat; clear hown' hgrow hat))
  all_goals
    go_wp2
    refine bodyPost_ret (v := .tuple #[]) (by simp [results, Try.results64, go_sem]) rfl ?_
    have en : (widthOf k).toNat = n := by rw [HN.out]; simp
    refine ⟨rfl, _, dv', by rw [en]; exact HH.out.1, ?_, ?_, ?_⟩
    · refine ((Kept.of_below B3.out).trans K4.out ?_).trans HH.out.2 ?_
      · rintro b (e | e) _
        · exact .inl e
        · exact .inr (.inl e)
      · rintro b (e | e) _
        · exact .inl e
        · exact .inr (.inr e)
    · rcases O4.out with e | ⟨b, e, h⟩
      · exact .inl e
      · exact .inr ⟨b, e, by omega⟩
    · rcases HAT.out with e | ⟨b, e, h⟩
      · exact .inl e
      · refine .inr ⟨b, e, ?_⟩
        have h2 : w4.heap.size + 1 ≤ b := by simpa using h
        have := K4.out.size
        omega
end Go.Proofs.Ytmhjjhaipcgbiaa
