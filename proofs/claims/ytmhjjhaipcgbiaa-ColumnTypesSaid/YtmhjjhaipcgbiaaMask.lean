/- mask.put, mask.Of. -/
import Derived.Test.YtmhjjhaipcgbiaaNew
import Derived.Test.YtmhjjhaipcgbiaaStep
namespace Go.Proofs.Ytmhjjhaipcgbiaa
open Go.RowKit
set_option linter.unusedVariables false
set_option linter.unusedSimpArgs false
set_option maxRecDepth 100000
set_option maxHeartbeats 1000000

/-- A mask's bytes with one bit more. -/
def mrow (bs : List Int) (n : Nat) : List Int := if n % 8 = 0 then bs ++ [0] else bs
def morb (x : Int) (k : Nat) : Int := bits .or .u8 x (2 ^ k % 256)
def mput (bs : List Int) (n : Nat) (bit : Bool) : List Int := if bit then (mrow bs n).set (n / 8) (morb ((mrow bs n).getD (n / 8) 0) (n % 8)) else mrow bs n

def MidP (base n : Nat) (bs : List Int) (v : Value) (w wx : World) : Prop :=
  ∃ v1, wx.heap[w.heap.size]? = some (.cells #[.int .i64 (n : Int), v1] 39 (0, 0)) ∧ wx.heap[w.heap.size + 1]? = some (.cells #[.int .i64 0, .slice none 0 0] 39 (0, 0)) ∧
    Own wx base 5 1 v1 (mrow bs n).length ((mrow bs n).map (.int .u8)) ∧ Kept (fun b => v.ownBlock = some b) w wx ∧ (v1.ownBlock = v.ownBlock ∨ ∃ b, v1.ownBlock = some b ∧ w.heap.size ≤ b)

def MputP (base n : Nat) (bs : List Int) (bit : Bool) (v : Value) (w : World) (e : Ending) (w' : World) : Prop :=
  ∃ v', e = .returned (.agg #[.int .i64 ((n : Int) + 1), v']) ∧ Own w' base 5 1 v' (mput bs n bit).length ((mput bs n bit).map (.int .u8)) ∧ Kept (fun b => v.ownBlock = some b) w w' ∧ (v'.ownBlock = v.ownBlock ∨ ∃ b, v'.ownBlock = some b ∧ w.heap.size ≤ b)

theorem kept_set {S : Nat → Prop} {w w1 : World} (h : Kept S w w1) {a : Addr} (ha : w.heap.size ≤ a.block) (v : Value) : Kept S w (w1.setCell a v) :=
  h.trans (Kept.setCell w1 a v) (fun k e hk => by subst e; omega)

theorem mrow_len (bs : List Int) (n : Nat) (h : bs.length = (n + 7) / 8) : (mrow bs n).length = n / 8 + 1 := by
  unfold mrow
  split
  · rw [List.length_append, h]; simp; omega
  · rw [h]; omega
theorem mput_len (bs : List Int) (n : Nat) (bit : Bool) (h : bs.length = (n + 7) / 8) : (mput bs n bit).length = n / 8 + 1 := by
  unfold mput
  split
  · rw [List.length_set]; exact mrow_len bs n h
  · exact mrow_len bs n h

theorem mid_grown {w w2 w5 : World} {base n m : Nat} {bs : List Int} {v v' : Value} {o : Obj} (hb : Below w.heap.size w w2) (hB0 : w2.heap[w.heap.size]? = some (.cells #[.int .i64 (n : Int), v] 39 (0, 0))) (hB1 : w2.heap[w.heap.size + 1]? = some (.cells #[.int .i64 0, .slice none 0 0] 39 (0, 0)))
    (hlt : ∀ k, v.ownBlock = some k → base ≤ k ∧ k < w.heap.size) (hg : (w2.alloc o).grownBy w5 v.ownBlock) (hm : bs.length = m) (hr : mrow bs n = bs ++ [0]) (hown : Own w5 base 5 1 v' (m + 1) (bs.map (.int .u8) ++ [.int .u8 0])) (hat : v'.ownBlock = v.ownBlock ∨ ∃ b, v'.ownBlock = some b ∧ (w2.alloc o).heap.size ≤ b) :
    w5.heap[w.heap.size]? = some (.cells #[.int .i64 (n : Int), v] 39 (0, 0)) ∧ MidP base n bs v w (w5.setCell ⟨w.heap.size, 1, none⟩ v') := by
  have k0 := lt_of_blk hB0
  have k1 := lt_of_blk hB1
  have n0 : v.ownBlock ≠ some w.heap.size := fun e => by have := (hlt _ e).2; omega
  have n1 : v.ownBlock ≠ some (w.heap.size + 1) := fun e => by have := (hlt _ e).2; omega
  have hsz : w2.heap.size ≤ (w2.alloc o).heap.size := by simp
  have h0 := (hg.block w.heap.size (by omega) (fun e => n0 e.symm)).trans ((Below.heap_alloc w2 o _ k0).trans hB0)
  have h1 := (hg.block (w.heap.size + 1) (by omega) (fun e => n1 e.symm)).trans ((Below.heap_alloc w2 o _ k1).trans hB1)
  refine ⟨h0, v', ?_, ?_, ?_, ?_, ?_⟩
  · have := heap_setCell_at (k := 1) h0 v'
    simpa using this
  · rw [Below.heap_setCell _ _ _ _ (by simp)]; exact h1
  · rw [hr, List.length_append, hm, List.map_append]
    exact hown.set_other (hown.blk_ne h0 (by decide)) _
  · exact kept_set (((Kept.of_below hb).trans (Kept.of_below (below_new w2 o)) (fun _ e _ => e)).trans (Kept.of_grown hg) (fun k e _ => e.symm)) (Nat.le_refl _) _
  · rcases hat with e | ⟨b, e, h⟩
    · exact .inl e
    · exact .inr ⟨b, e, by have := hb.size; omega⟩

theorem mput_any (base n : Nat) (bs : List Int) (bit : Bool) (v : Value) (w : World) (hn : n ≤ 100000000) (hlen : bs.length = (n + 7) / 8) (h : Own w base 5 1 v bs.length (bs.map (.int .u8))) (hb : base ≤ w.heap.size) :
    Calls Try.prog 107 #[.agg #[.int .i64 (n : Int), v], .bool bit] w (MputP base n bs bit v w) := by
  obtain ⟨a0, c0, rfl⟩ := h.form
  have H := Aside.mk h
  have hlt := Aside.mk h.lt
  clear h
  generalize hm : bs.length = m at *
  have HM := Aside.mk hm
  have HLEN := Aside.mk hlen
  have hm8 : m ≤ 100000000 := by omega
  clear hm hlen
  go_enter Try.func107, Try.ntmps107
  go_upto_if 8 with fail
  go_cut [4] from 8 to 13 (fun s4 wx => s4 = .pointer (some ⟨w.heap.size + 1, 0, none⟩) ∧ MidP base n bs (.slice a0 m c0) w wx)
  case first =>
    have hB0 : ((w.alloc (.cells #[.int .i64 (n : Int), .slice a0 m c0] 39)).alloc (.cells #[.int .i64 0, .slice none 0 0] 39)).heap[w.heap.size]? = some (.cells #[.int .i64 (n : Int), .slice a0 m c0] 39 (0, 0)) := by
      rw [Below.heap_alloc _ _ _ (by simp)]; exact heap_alloc_new _ _
    have hB1 : ((w.alloc (.cells #[.int .i64 (n : Int), .slice a0 m c0] 39)).alloc (.cells #[.int .i64 0, .slice none 0 0] 39)).heap[w.heap.size + 1]? = some (.cells #[.int .i64 0, .slice none 0 0] 39 (0, 0)) := by
      have := heap_alloc_new (w.alloc (.cells #[.int .i64 (n : Int), .slice a0 m c0] 39)) (.cells #[.int .i64 0, .slice none 0 0] 39)
      simpa using this
    have hB : Below w.heap.size w ((w.alloc (.cells #[.int .i64 (n : Int), .slice a0 m c0] 39)).alloc (.cells #[.int .i64 0, .slice none 0 0] 39)) := ((Below.refl _ _).alloc (Nat.le_refl _) _).alloc (by simp) _
    have HB := Aside.mk (And.intro hB (And.intro hB0 hB1))
    clear hB hB0 hB1
    by_cases h8 : n % 8 = 0
    · have hb8 : ((n : Int) % 8 == 0) = true := by simp; omega
      have HR : Aside (mrow bs n = bs ++ [0]) := ⟨by simp [mrow, h8]⟩
      clear h8
      go_wp2_with (at_builtin; refine wpList_app _ rfl _ _ 37 37 rfl base 5 (.int .u8 0) 1 1 Try.underlying37 u8info rfl _ _ _ rfl ((H.out.below HB.out.1).alloc _) _ 1 [.int .u8 0] rfl (src_one Try.underlying37 _ _ _ rfl (by simp)) (by unfold maxLen; omega) (by omega) (by simp; omega) ?_)
      intro v' w5 hown' hgrow _ hat
      obtain ⟨a5, c5, rfl⟩ := hown'.form
      have hh := mid_grown HB.out.1 HB.out.2.1 HB.out.2.2 hlt.out hgrow HM.out HR.out hown' (by simpa using hat)
      have hc5 := cell_blk (k := 1) hh.1
      have hf5 := frozen_blk (k := 1) hh.1
      simp at hc5
      have HH := Aside.mk hh.2
      clear hh hown' hgrow hat
      go_wp2_with (fail)
      go_meet
      exact ⟨rfl, HH.out⟩
    · have hb8 : ((n : Int) % 8 == 0) = false := by simp; omega
      have HR : Aside (mrow bs n = bs) := ⟨by simp [mrow, h8]⟩
      clear h8
      go_wp2_with (fail)
      go_meet
      refine ⟨rfl, _, HB.out.2.1, HB.out.2.2, ?_, Kept.of_below HB.out.1, .inl rfl⟩
      rw [HR.out, HM.out]
      exact H.out.below HB.out.1
  case rest =>
    obtain ⟨rfl, v1, hB0, hB1, ho, hk, hat⟩ := hcut
    have nb0 : v1.ownBlock ≠ some w.heap.size := ho.blk_ne hB0 (by decide)
    have nb1 : v1.ownBlock ≠ some (w.heap.size + 1) := ho.blk_ne hB1 (by decide)
    have hml := mrow_len bs n (by rw [HM.out, HLEN.out])
    have c00 := cell_blk (k := 0) hB0
    have c01 := cell_blk (k := 1) hB0
    have f00 := frozen_blk (k := 0) hB0
    have f01 := frozen_blk (k := 1) hB0
    have c10 := cell_blk (k := 0) hB1
    have c11 := cell_blk (k := 1) hB1
    have f10 := frozen_blk (k := 0) hB1
    have f11 := frozen_blk (k := 1) hB1
    simp at c00 c01 c10 c11
    have HO := Aside.mk ho
    have HK := Aside.mk hk
    have HAT := Aside.mk hat
    have NB := Aside.mk (And.intro nb0 nb1)
    have HML := Aside.mk hml
    clear hB0 hB1 hk hat nb0 nb1 hml
    cases bit
    · obtain ⟨a1, c1, rfl⟩ := ho.form
      clear ho
      go_wp2
      refine bodyPost_ret (v := .agg #[.int .i64 ((n : Int) + 1), .slice a1 (mrow bs n).length c1]) (by simp [results, Try.results107, go_sem, c10, c11]) rfl ?_
      have e1 : mput bs n false = mrow bs n := rfl
      refine ⟨_, rfl, ?_, ?_, HAT.out⟩
      · rw [e1]
        exact (((HO.out.set_other NB.out.1 _).set_other NB.out.2 _).set_other NB.out.2 _)
      · exact kept_set (kept_set (kept_set HK.out (Nat.le_refl _) _) (by simp) _) (by simp) _
    · obtain ⟨g, off, cap, rfl, hg1, hg2, hcap, hcap2, hcells, hfz⟩ := ho.some_ (by rw [HML.out]; omega)
      have hx := hcells (n / 8) (.int .u8 ((mrow bs n).getD (n / 8) 0)) (by
        have : n / 8 < (mrow bs n).length := by rw [HML.out]; omega
        simp [List.getElem?_eq_getElem this])
      have hfx := hfz (off + n / 8)
      have hnl : n / 8 < (mrow bs n).length := by rw [HML.out]; omega
      generalize hl : (mrow bs n).length = len at *
      generalize hxx : (mrow bs n).getD (n / 8) 0 = x at *
      have HX := Aside.mk (And.intro hl hxx)
      clear hcells hfz hl hxx ho
      go_wp2
      have hg0 : g ≠ w.heap.size := fun e => NB.out.1 (by subst e; rfl)
      have hg1' : g ≠ w.heap.size + 1 := fun e => NB.out.2 (by rw [← e]; rfl)
      go_region
      go_wp2
      refine bodyPost_ret (v := .agg #[.int .i64 ((n : Int) + 1), .slice (some ⟨g, off, none⟩) len cap]) (by simp [results, Try.results107, go_sem, c10, c11]) rfl ?_
      have e1 : mput bs n true = (mrow bs n).set (n / 8) (morb x (n % 8)) := by unfold mput; rw [if_pos rfl, HX.out.2]
      refine ⟨_, rfl, ?_, ?_, HAT.out⟩
      · rw [e1, List.length_set, HX.out.1, List.map_set]
        have h1 := HO.out.stored (n / 8) (.int .u8 (morb x (n % 8)))
        exact Own.drewN (((h1.set_other NB.out.1 _).set_other NB.out.2 _).set_other NB.out.2 _) 1
      · have h1 : Kept (fun b => (Value.slice a0 m c0).ownBlock = some b) w (wc.setCell ⟨g, off + n / 8, none⟩ (.int .u8 (morb x (n % 8)))) := HK.out.trans (Kept.setCell _ _ _) (fun k e hk => by
          simp only at e
          subst e
          rcases HAT.out with h | ⟨b, h, h2⟩
          · rw [← h]; rfl
          · have h3 : (⟨k, off, none⟩ : Addr).block = b := by simpa [Value.ownBlock] using h
            have h4 : (⟨k, off, none⟩ : Addr).block = k := rfl
            omega)
        exact (kept_set (kept_set (kept_set h1 (Nat.le_refl _) _) (by simp) _) (by simp) _).trans (Kept.of_below (below_drewN _ _ 1)) (fun _ e _ => e)
end Go.Proofs.Ytmhjjhaipcgbiaa
