/- Texts of this claim, one behind the other: New, Mask, MaskOf, MofLaw, Add, Ref18, Plain, Plain2, Lay0, Lay1, Box, Fword, FitsR, MayF, Clone, Add2, Put, Col. -/
import Derived.Test.YtmhjjhaipcgbiaaGreatAsqP1
import Derived.Laws.BitsAllLaws
import Derived.BigQuiet

namespace Go.Proofs.YtmhjjhaipcgbiaaGreat
open Go.RowKit
set_option linter.unusedVariables false
set_option linter.unusedSimpArgs false
set_option maxRecDepth 100000
set_option maxHeartbeats 1000000
theorem dictNew_any (w : World) : Calls Tryz.prog 71 #[] w fun e w' => e = .returned (.pointer (some ⟨w.heap.size + 1, 0, none⟩)) ∧ w' = (w.alloc (.map #[] 0)).alloc (.cells #[.slice none 0 0, .map (some w.heap.size)] 212) := by
  have hmm := @run_makeMap Tryz.prog
  go_enter Tryz.func71, Tryz.ntmps71
  go_wp2
  go_ret
  exact ⟨rfl, rfl⟩
structure IsB (w : World) (bl lw base : Nat) (k s : Int) (nulls : List Bool) (data : List Int) (ends : List Int) (nv dv ev : Value) : Prop where
  blk : w.heap[bl]? = some (.cells #[.int .i64 k, .int .i64 s, nv, dv, ev, .pointer (some ⟨lw, 0, none⟩)] 142 (0, 0))
  lst : ∃ mv : Value × Value, w.heap[lw]? = some (.cells #[mv.1, mv.2] 212 (0, 0))
  bbl : base ≤ bl
  blw : base ≤ lw
  nulls : Own w base 4 1 nv nulls.length (nulls.map .bool)
  data : Own w base 5 1 dv data.length (data.map (.int .u8))
  ends : Own w base 3 1 ev ends.length (ends.map (.int .i64))
theorem IsB.drewN {w : World} {bl lw base : Nat} {k s : Int} {nulls : List Bool} {data ends : List Int} {nv dv ev : Value} (h : IsB w bl lw base k s nulls data ends nv dv ev) (m : Nat) : IsB (w.drewN m) bl lw base k s nulls data ends nv dv ev :=
  ⟨h.blk, h.lst, h.bbl, h.blw, h.nulls, h.data, h.ends⟩
theorem own_ne_own {w : World} {b1 b2 : Nat} {E1 E2 : TypeId} {s1 s2 n1 n2 : Nat} {v1 v2 : Value} {x1 x2 : List Value} (h1 : Own w b1 E1 s1 v1 n1 x1) (h2 : Own w b2 E2 s2 v2 n2 x2) (hE : E1 ≠ E2) : ∀ k, v1.ownBlock = some k → v2.ownBlock ≠ some k := by
  intro k hk
  rcases h1.2 with ⟨rfl, _⟩ | ⟨g, off, cap, cur, rfl, _, hg, _⟩
  · cases hk
  · cases hk
    exact h2.blk_ne hg hE
theorem IsB.app_data {wr w5 : World} {bl lw base : Nat} {k s : Int} {nulls : List Bool} {data data' ends : List Int} {nv dv dv' ev : Value} (h : IsB wr bl lw base k s nulls data ends nv dv ev) (o : Obj) (hg : (wr.alloc o).grownBy w5 dv.ownBlock) (hown : Own w5 base 5 1 dv' data'.length (data'.map (.int .u8))) :
    IsB (w5.setCell ⟨bl, 3, none⟩ dv') bl lw base k s nulls data' ends nv dv' ev ∧ Kept (fun b => b = bl ∨ dv.ownBlock = some b) wr (w5.setCell ⟨bl, 3, none⟩ dv') := by
  have K1 : Kept (fun b => some b = dv.ownBlock) wr w5 := (Kept.of_below (below_new wr o)).trans (Kept.of_grown hg) (fun _ e _ => e)
  have hbl := lt_of_blk h.blk
  have nb : dv.ownBlock ≠ some bl := h.data.blk_ne h.blk (by decide)
  have hb5 := (K1.block bl hbl (fun e => nb e.symm)).trans h.blk
  obtain ⟨mv, hl⟩ := h.lst
  have nl : dv.ownBlock ≠ some lw := h.data.blk_ne hl (by decide)
  have hl5 := (K1.block lw (lt_of_blk hl) (fun e => nl e.symm)).trans hl
  have hne : bl ≠ lw := blk_ne h.blk hl (by decide)
  have hn5 : Own w5 base 4 1 nv nulls.length (nulls.map .bool) := h.nulls.kept K1 (fun k hk e => own_ne_own h.nulls h.data (by decide) k hk e.symm)
  have he5 : Own w5 base 3 1 ev ends.length (ends.map (.int .i64)) := h.ends.kept K1 (fun k hk e => own_ne_own h.ends h.data (by decide) k hk e.symm)
  refine ⟨⟨?_, ⟨mv, ?_⟩, h.bbl, h.blw, ?_, ?_, ?_⟩, ?_⟩
  · have := heap_setCell_at (k := 3) hb5 dv'
    simpa using this
  · rw [Below.heap_setCell _ _ _ _ (fun e => hne e.symm)]; exact hl5
  · exact hn5.set_other (hn5.blk_ne hb5 (by decide)) _
  · exact hown.set_other (hown.blk_ne hb5 (by decide)) _
  · exact he5.set_other (he5.blk_ne hb5 (by decide)) _
  · exact (K1.mono (fun k e _ => .inr e.symm)).trans (Kept.setCell _ _ _) (fun k e _ => .inl e)
theorem IsB.below {w w' : World} {bl lw base : Nat} {k s : Int} {nulls : List Bool} {data ends : List Int} {nv dv ev : Value} (h : IsB w bl lw base k s nulls data ends nv dv ev) (hb : Below w.heap.size w w') : IsB w' bl lw base k s nulls data ends nv dv ev :=
  ⟨(hb.block _ (lt_of_blk h.blk)).trans h.blk, (let ⟨mv, hl⟩ := h.lst; ⟨mv, (hb.block _ (lt_of_blk hl)).trans hl⟩), h.bbl, h.blw, h.nulls.below hb, h.data.below hb, h.ends.below hb⟩
theorem IsB.app_nulls {wr w5 : World} {bl lw base : Nat} {k s : Int} {nulls nulls' : List Bool} {data ends : List Int} {nv nv' dv ev : Value} (h : IsB wr bl lw base k s nulls data ends nv dv ev) (hg : wr.grownBy w5 nv.ownBlock) (hown : Own w5 base 4 1 nv' nulls'.length (nulls'.map .bool)) :
    IsB (w5.setCell ⟨bl, 2, none⟩ nv') bl lw base k s nulls' data ends nv' dv ev ∧ Kept (fun b => b = bl ∨ nv.ownBlock = some b) wr (w5.setCell ⟨bl, 2, none⟩ nv') := by
  have K1 : Kept (fun b => some b = nv.ownBlock) wr w5 := Kept.of_grown hg
  have hbl := lt_of_blk h.blk
  have nb : nv.ownBlock ≠ some bl := h.nulls.blk_ne h.blk (by decide)
  have hb5 := (K1.block bl hbl (fun e => nb e.symm)).trans h.blk
  obtain ⟨mv, hl⟩ := h.lst
  have nl : nv.ownBlock ≠ some lw := h.nulls.blk_ne hl (by decide)
  have hl5 := (K1.block lw (lt_of_blk hl) (fun e => nl e.symm)).trans hl
  have hne : bl ≠ lw := blk_ne h.blk hl (by decide)
  have hd5 : Own w5 base 5 1 dv data.length (data.map (.int .u8)) := h.data.kept K1 (fun k hk e => own_ne_own h.data h.nulls (by decide) k hk e.symm)
  have he5 : Own w5 base 3 1 ev ends.length (ends.map (.int .i64)) := h.ends.kept K1 (fun k hk e => own_ne_own h.ends h.nulls (by decide) k hk e.symm)
  refine ⟨⟨?_, ⟨mv, ?_⟩, h.bbl, h.blw, ?_, ?_, ?_⟩, ?_⟩
  · have := heap_setCell_at (k := 2) hb5 nv'
    simpa using this
  · rw [Below.heap_setCell _ _ _ _ (fun e => hne e.symm)]; exact hl5
  · exact hown.set_other (hown.blk_ne hb5 (by decide)) _
  · exact hd5.set_other (hd5.blk_ne hb5 (by decide)) _
  · exact he5.set_other (he5.blk_ne hb5 (by decide)) _
  · exact (K1.mono (fun k e _ => .inr e.symm)).trans (Kept.setCell _ _ _) (fun k e _ => .inl e)
def NewP (k s : Int) (w : World) (e : Ending) (w' : World) : Prop := ∃ bl lw, e = .returned (.tuple #[.pointer (some ⟨bl, 0, none⟩), .int .i64 0]) ∧ IsB w' bl lw w.heap.size k s [] [] [] (.slice none 0 0) (.slice none 0 0) (.slice none 0 0) ∧ Below w.heap.size w w' ∧
  WL w' (fun b => w.heap.size ≤ b ∧ b ≠ bl) lw [] ∧ ∃ mv, w'.heap[lw]? = some (.cells #[.slice none 0 0, mv] 212 (0, 0))
theorem isB_new (w : World) (k s : Int) (base : Nat) (hb : base ≤ w.heap.size) : IsB (((w.alloc (.map #[] 0)).alloc (.cells #[.slice none 0 0, .map (some w.heap.size)] 212)).alloc (.cells #[.int .i64 k, .int .i64 s, .slice none 0 0, .slice none 0 0, .slice none 0 0, .pointer (some ⟨w.heap.size + 1, 0, none⟩)] 142)) (w.heap.size + 2) (w.heap.size + 1) base k s [] [] [] (.slice none 0 0) (.slice none 0 0) (.slice none 0 0) := by
  refine ⟨?_, ⟨(.slice none 0 0, .map (some w.heap.size)), ?_⟩, by omega, by omega, Own.nil _ _ _ _, Own.nil _ _ _ _, Own.nil _ _ _ _⟩
  · have := heap_alloc_new ((w.alloc (.map #[] 0)).alloc (.cells #[.slice none 0 0, .map (some w.heap.size)] 212)) (.cells #[.int .i64 k, .int .i64 s, .slice none 0 0, .slice none 0 0, .slice none 0 0, .pointer (some ⟨w.heap.size + 1, 0, none⟩)] 142)
    simpa using this
  · have := heap_alloc_new (w.alloc (.map #[] 0)) (.cells #[.slice none 0 0, .map (some w.heap.size)] 212)
    rw [Below.heap_alloc _ _ _ (by simp)]
    simpa using this
theorem new_yes (k s : Int) (w : World) (h : okType k s = true) : Calls Tryz.prog 11 #[.agg #[.int .i64 k, .int .i64 s]] w (NewP k s w) := by
  have HOK := Aside.mk h
  clear h
  go_enter Tryz.func11, Tryz.ntmps11
  go_wp2_with (go_at_call 70; refine (checkType_yes _ _ _ HOK.out).mono ?_; rintro e w1 ⟨rfl, hb1⟩; have hB1 := Aside.mk ((below_new w _).trans (hb1.mono (by simp))); have hz := hb1.size; simp only [World.size_alloc] at hz; have hlt : w.heap.size < w1.heap.size := (by omega); have c10 := cell_kept hb1 0; have c11 := cell_kept hb1 1; have f10 := frozen_kept hb1 0; have f11 := frozen_kept hb1 1; simp at c10 c11; clear hb1)
  go_region_with (go_at_call 71; refine (dictNew_any _).mono ?_; rintro e w2 ⟨rfl, rfl⟩)
  all_goals
    go_wp2
    go_ret2
    have hL := ((wl_new w1).mono (T' := fun b => w.heap.size ≤ b ∧ b ≠ w1.heap.size + 2) (fun b h hb => ⟨by omega, by simp at hb; omega⟩)).below ((below_new _ (.cells #[.int .i64 k, .int .i64 s, .slice none 0 0, .slice none 0 0, .slice none 0 0, .pointer (some ⟨w1.heap.size + 1, 0, none⟩)] 142)).trans (below_drewN _ _ 1))
    refine ⟨_, _, rfl, (isB_new w1 k s w.heap.size (by omega)).drewN 1, Below.trans (hB1.out.trans ?_) (below_drewN _ _ 1), hL, .map (some w1.heap.size), ?_⟩
    · exact (((Below.refl _ _).alloc (by omega) _).alloc (by simp; omega) _).alloc (by simp; omega) _
    · have := heap_alloc_new (w1.alloc (.map #[] 0)) (.cells #[.slice none 0 0, .map (some w1.heap.size)] 212)
      show (((w1.alloc (.map #[] 0)).alloc (.cells #[.slice none 0 0, .map (some w1.heap.size)] 212)).alloc _).heap[w1.heap.size + 1]? = _
      rw [Below.heap_alloc _ _ _ (by simp)]
      simpa using this
theorem IsB.lw_kept {w w' : World} {bl lw base : Nat} {k s : Int} {nulls : List Bool} {data ends : List Int} {nv dv ev : Value} (h : IsB w bl lw base k s nulls data ends nv dv ev) {cs : Array Value} (hl : w.heap[lw]? = some (.cells cs 212 (0, 0))) (hk : Kept (fun b => b = bl ∨ dv.ownBlock = some b ∨ nv.ownBlock = some b) w w') : w'.heap[lw]? = some (.cells cs 212 (0, 0)) := by
  refine (hk.block lw (lt_of_blk hl) ?_).trans hl
  rintro (e | e | e)
  · exact blk_ne h.blk hl (by decide) e.symm
  · exact h.data.blk_ne hl (by decide) e
  · exact h.nulls.blk_ne hl (by decide) e
end Go.Proofs.YtmhjjhaipcgbiaaGreat


namespace Go.Proofs.YtmhjjhaipcgbiaaGreat
open Go.RowKit
set_option linter.unusedVariables false
set_option linter.unusedSimpArgs false
set_option maxRecDepth 100000
set_option maxHeartbeats 1000000
def mrow (bs : List Int) (n : Nat) : List Int := if n % 8 = 0 then bs ++ [0] else bs
def morb (x : Int) (k : Nat) : Int := bits .or .u8 x (2 ^ k % 256)
def mput (bs : List Int) (n : Nat) (bit : Bool) : List Int := if bit then (mrow bs n).set (n / 8) (morb ((mrow bs n).getD (n / 8) 0) (n % 8)) else mrow bs n
def MidP (base n : Nat) (bs : List Int) (v : Value) (w wx : World) : Prop :=
  ∃ v1, wx.heap[w.heap.size]? = some (.cells #[.int .i64 (n : Int), v1] 60 (0, 0)) ∧ wx.heap[w.heap.size + 1]? = some (.cells #[.int .i64 0, .slice none 0 0] 60 (0, 0)) ∧
    Own wx base 5 1 v1 (mrow bs n).length ((mrow bs n).map (.int .u8)) ∧ Kept (fun b => v.ownBlock = some b) w wx ∧ (v1.ownBlock = v.ownBlock ∨ ∃ b, v1.ownBlock = some b ∧ w.heap.size ≤ b)
def MputP (base n : Nat) (bs : List Int) (bit : Bool) (v : Value) (w : World) (e : Ending) (w' : World) : Prop :=
  ∃ v', e = .returned (.agg #[.int .i64 ((n : Int) + 1), v']) ∧ Own w' base 5 1 v' (mput bs n bit).length ((mput bs n bit).map (.int .u8)) ∧ Kept (fun b => v.ownBlock = some b) w w' ∧ (v'.ownBlock = v.ownBlock ∨ ∃ b, v'.ownBlock = some b ∧ w.heap.size ≤ b)
theorem kept_set {S : Nat → Prop} {w w1 : World} (h : Kept S w w1) {a : Addr} (ha : w.heap.size ≤ a.block) (v : Value) : Kept S w (w1.setCell a v) :=
  h.trans (Kept.setCell w1 a v) (fun k e hk => by subst e; omega)
theorem mrow_len (bs : List Int) (n : Nat) (h : bs.length = (n + 7) / 8) : (mrow bs n).length = n / 8 + 1 := by
  unfold mrow
  split
  · rw [List.length_append, h]; simp; omega
  · rw [h]; omega
theorem mput_len (bs : List Int) (n : Nat) (bit : Bool) (h : bs.length = (n + 7) / 8) : (mput bs n bit).length = n / 8 + 1 := by
  unfold mput
  split
  · rw [List.length_set]; exact mrow_len bs n h
  · exact mrow_len bs n h
theorem mid_grown {w w2 w5 : World} {base n m : Nat} {bs : List Int} {v v' : Value} {o : Obj} (hb : Below w.heap.size w w2) (hB0 : w2.heap[w.heap.size]? = some (.cells #[.int .i64 (n : Int), v] 60 (0, 0))) (hB1 : w2.heap[w.heap.size + 1]? = some (.cells #[.int .i64 0, .slice none 0 0] 60 (0, 0)))
    (hlt : ∀ k, v.ownBlock = some k → base ≤ k ∧ k < w.heap.size) (hg : (w2.alloc o).grownBy w5 v.ownBlock) (hm : bs.length = m) (hr : mrow bs n = bs ++ [0]) (hown : Own w5 base 5 1 v' (m + 1) (bs.map (.int .u8) ++ [.int .u8 0])) (hat : v'.ownBlock = v.ownBlock ∨ ∃ b, v'.ownBlock = some b ∧ (w2.alloc o).heap.size ≤ b) :
    w5.heap[w.heap.size]? = some (.cells #[.int .i64 (n : Int), v] 60 (0, 0)) ∧ MidP base n bs v w (w5.setCell ⟨w.heap.size, 1, none⟩ v') := by
  have k0 := lt_of_blk hB0
  have k1 := lt_of_blk hB1
  have n0 : v.ownBlock ≠ some w.heap.size := fun e => by have := (hlt _ e).2; omega
  have n1 : v.ownBlock ≠ some (w.heap.size + 1) := fun e => by have := (hlt _ e).2; omega
  have hsz : w2.heap.size ≤ (w2.alloc o).heap.size := by simp
  have h0 := (hg.block w.heap.size (by omega) (fun e => n0 e.symm)).trans ((Below.heap_alloc w2 o _ k0).trans hB0)
  have h1 := (hg.block (w.heap.size + 1) (by omega) (fun e => n1 e.symm)).trans ((Below.heap_alloc w2 o _ k1).trans hB1)
  refine ⟨h0, v', ?_, ?_, ?_, ?_, ?_⟩
  · have := heap_setCell_at (k := 1) h0 v'
    simpa using this
  · rw [Below.heap_setCell _ _ _ _ (by simp)]; exact h1
  · rw [hr, List.length_append, hm, List.map_append]
    exact hown.set_other (hown.blk_ne h0 (by decide)) _
  · exact kept_set (((Kept.of_below hb).trans (Kept.of_below (below_new w2 o)) (fun _ e _ => e)).trans (Kept.of_grown hg) (fun k e _ => e.symm)) (Nat.le_refl _) _
  · rcases hat with e | ⟨b, e, h⟩
    · exact .inl e
    · exact .inr ⟨b, e, by have := hb.size; omega⟩
theorem mput_any (base n : Nat) (bs : List Int) (bit : Bool) (v : Value) (w : World) (hn : n ≤ 100000000) (hlen : bs.length = (n + 7) / 8) (h : Own w base 5 1 v bs.length (bs.map (.int .u8))) (hb : base ≤ w.heap.size) :
    Calls Tryz.prog 154 #[.agg #[.int .i64 (n : Int), v], .bool bit] w (MputP base n bs bit v w) := by
  obtain ⟨a0, c0, rfl⟩ := h.form
  have H := Aside.mk h
  have hlt := Aside.mk h.lt
  clear h
  generalize hm : bs.length = m at *
  have HM := Aside.mk hm
  have HLEN := Aside.mk hlen
  have hm8 : m ≤ 100000000 := by omega
  clear hm hlen
  go_enter Tryz.func154, Tryz.ntmps154
  go_upto_if 8 with fail
  go_cut [4] from 8 to 13 (fun s4 wx => s4 = .pointer (some ⟨w.heap.size + 1, 0, none⟩) ∧ MidP base n bs (.slice a0 m c0) w wx)
  case first =>
    have hB0 : ((w.alloc (.cells #[.int .i64 (n : Int), .slice a0 m c0] 60)).alloc (.cells #[.int .i64 0, .slice none 0 0] 60)).heap[w.heap.size]? = some (.cells #[.int .i64 (n : Int), .slice a0 m c0] 60 (0, 0)) := by
      rw [Below.heap_alloc _ _ _ (by simp)]; exact heap_alloc_new _ _
    have hB1 : ((w.alloc (.cells #[.int .i64 (n : Int), .slice a0 m c0] 60)).alloc (.cells #[.int .i64 0, .slice none 0 0] 60)).heap[w.heap.size + 1]? = some (.cells #[.int .i64 0, .slice none 0 0] 60 (0, 0)) := by
      have := heap_alloc_new (w.alloc (.cells #[.int .i64 (n : Int), .slice a0 m c0] 60)) (.cells #[.int .i64 0, .slice none 0 0] 60)
      simpa using this
    have hB : Below w.heap.size w ((w.alloc (.cells #[.int .i64 (n : Int), .slice a0 m c0] 60)).alloc (.cells #[.int .i64 0, .slice none 0 0] 60)) := ((Below.refl _ _).alloc (Nat.le_refl _) _).alloc (by simp) _
    have HB := Aside.mk (And.intro hB (And.intro hB0 hB1))
    clear hB hB0 hB1
    by_cases h8 : n % 8 = 0
    · have hb8 : ((n : Int) % 8 == 0) = true := by simp; omega
      have HR : Aside (mrow bs n = bs ++ [0]) := ⟨by simp [mrow, h8]⟩
      clear h8
      go_wp2_with (at_builtin; refine wpList_app _ rfl _ _ 43 43 rfl base 5 (.int .u8 0) 1 1 Tryz.underlying43 u8info rfl _ _ _ rfl ((H.out.below HB.out.1).alloc _) _ 1 [.int .u8 0] rfl (src_one Tryz.underlying43 _ _ _ rfl (by simp)) (by unfold maxLen; omega) (by omega) (by simp; omega) ?_)
      intro v' w5 hown' hgrow _ hat
      obtain ⟨a5, c5, rfl⟩ := hown'.form
      have hh := mid_grown HB.out.1 HB.out.2.1 HB.out.2.2 hlt.out hgrow HM.out HR.out hown' (by simpa using hat)
      have hc5 := cell_blk (k := 1) hh.1
      have hf5 := frozen_blk (k := 1) hh.1
      simp at hc5
      have HH := Aside.mk hh.2
      clear hh hown' hgrow hat
      go_wp2_with (fail)
      go_meet
      exact ⟨rfl, HH.out⟩
    · have hb8 : ((n : Int) % 8 == 0) = false := by simp; omega
      have HR : Aside (mrow bs n = bs) := ⟨by simp [mrow, h8]⟩
      clear h8
      go_wp2_with (fail)
      go_meet
      refine ⟨rfl, _, HB.out.2.1, HB.out.2.2, ?_, Kept.of_below HB.out.1, .inl rfl⟩
      rw [HR.out, HM.out]
      exact H.out.below HB.out.1
  case rest =>
    obtain ⟨rfl, v1, hB0, hB1, ho, hk, hat⟩ := hcut
    have nb0 : v1.ownBlock ≠ some w.heap.size := ho.blk_ne hB0 (by decide)
    have nb1 : v1.ownBlock ≠ some (w.heap.size + 1) := ho.blk_ne hB1 (by decide)
    have hml := mrow_len bs n (by rw [HM.out, HLEN.out])
    have c00 := cell_blk (k := 0) hB0
    have c01 := cell_blk (k := 1) hB0
    have f00 := frozen_blk (k := 0) hB0
    have f01 := frozen_blk (k := 1) hB0
    have c10 := cell_blk (k := 0) hB1
    have c11 := cell_blk (k := 1) hB1
    have f10 := frozen_blk (k := 0) hB1
    have f11 := frozen_blk (k := 1) hB1
    simp at c00 c01 c10 c11
    have HO := Aside.mk ho
    have HK := Aside.mk hk
    have HAT := Aside.mk hat
    have NB := Aside.mk (And.intro nb0 nb1)
    have HML := Aside.mk hml
    clear hB0 hB1 hk hat nb0 nb1 hml
    cases bit
    · obtain ⟨a1, c1, rfl⟩ := ho.form
      clear ho
      go_wp2
      refine bodyPost_ret (v := .agg #[.int .i64 ((n : Int) + 1), .slice a1 (mrow bs n).length c1]) (by simp [results, Tryz.results154, go_sem, c10, c11]) rfl ?_
      have e1 : mput bs n false = mrow bs n := rfl
      refine ⟨_, rfl, ?_, ?_, HAT.out⟩
      · rw [e1]
        exact (((HO.out.set_other NB.out.1 _).set_other NB.out.2 _).set_other NB.out.2 _)
      · exact kept_set (kept_set (kept_set HK.out (Nat.le_refl _) _) (by simp) _) (by simp) _
    · obtain ⟨g, off, cap, rfl, hg1, hg2, hcap, hcap2, hcells, hfz⟩ := ho.some_ (by rw [HML.out]; omega)
      have hx := hcells (n / 8) (.int .u8 ((mrow bs n).getD (n / 8) 0)) (by
        have : n / 8 < (mrow bs n).length := by rw [HML.out]; omega
        simp [List.getElem?_eq_getElem this])
      have hfx := hfz (off + n / 8)
      have hnl : n / 8 < (mrow bs n).length := by rw [HML.out]; omega
      generalize hl : (mrow bs n).length = len at *
      generalize hxx : (mrow bs n).getD (n / 8) 0 = x at *
      have HX := Aside.mk (And.intro hl hxx)
      clear hcells hfz hl hxx ho
      go_wp2
      have hg0 : g ≠ w.heap.size := fun e => NB.out.1 (by subst e; rfl)
      have hg1' : g ≠ w.heap.size + 1 := fun e => NB.out.2 (by rw [← e]; rfl)
      go_region
      go_wp2
      refine bodyPost_ret (v := .agg #[.int .i64 ((n : Int) + 1), .slice (some ⟨g, off, none⟩) len cap]) (by simp [results, Tryz.results154, go_sem, c10, c11]) rfl ?_
      have e1 : mput bs n true = (mrow bs n).set (n / 8) (morb x (n % 8)) := by unfold mput; rw [if_pos rfl, HX.out.2]
      refine ⟨_, rfl, ?_, ?_, HAT.out⟩
      · rw [e1, List.length_set, HX.out.1, List.map_set]
        have h1 := HO.out.stored (n / 8) (.int .u8 (morb x (n % 8)))
        exact Own.drewN (((h1.set_other NB.out.1 _).set_other NB.out.2 _).set_other NB.out.2 _) 1
      · have h1 : Kept (fun b => (Value.slice a0 m c0).ownBlock = some b) w (wc.setCell ⟨g, off + n / 8, none⟩ (.int .u8 (morb x (n % 8)))) := HK.out.trans (Kept.setCell _ _ _) (fun k e hk => by
          simp only at e
          subst e
          rcases HAT.out with h | ⟨b, h, h2⟩
          · rw [← h]; rfl
          · have h3 : (⟨k, off, none⟩ : Addr).block = b := by simpa [Value.ownBlock] using h
            have h4 : (⟨k, off, none⟩ : Addr).block = k := rfl
            omega)
        exact (kept_set (kept_set (kept_set h1 (Nat.le_refl _) _) (by simp) _) (by simp) _).trans (Kept.of_below (below_drewN _ _ 1)) (fun _ e _ => e)
end Go.Proofs.YtmhjjhaipcgbiaaGreat


namespace Go.Proofs.YtmhjjhaipcgbiaaGreat
open Go.RowKit
set_option linter.unusedVariables false
set_option linter.unusedSimpArgs false
set_option maxRecDepth 100000
set_option maxHeartbeats 1000000
def mofR : List Bool → List Int
  | [] => []
  | b :: r => mput (mofR r) r.length b
def mof (l : List Bool) : List Int := mofR l.reverse
theorem mof_snoc (l : List Bool) (b : Bool) : mof (l ++ [b]) = mput (mof l) l.length b := by simp [mof, mofR]
theorem mofR_len (l : List Bool) : (mofR l).length = (l.length + 7) / 8 := by
  induction l with
  | nil => rfl
  | cons b r ih =>
    rw [mofR, mput_len _ _ _ ih, List.length_cons]
    omega
theorem mof_len (l : List Bool) : (mof l).length = (l.length + 7) / 8 := by rw [mof, mofR_len, List.length_reverse]
def MofIn (l : List Bool) (i : Nat) (w wr : World) : Prop :=
  ∃ v', wr.heap[w.heap.size + 1]? = some (.cells #[.int .i64 (i : Int), v'] 60 (0, 0)) ∧ wr.heap[w.heap.size]? = some (.cells #[.int .i64 0, .slice none 0 0] 60 (0, 0)) ∧
    Own wr w.heap.size 5 1 v' (mof (l.take i)).length ((mof (l.take i)).map (.int .u8)) ∧ Below w.heap.size w wr
def MofP (l : List Bool) (w : World) (e : Ending) (w' : World) : Prop :=
  ∃ v', e = .returned (.agg #[.int .i64 (l.length : Int), v']) ∧ Own w' w.heap.size 5 1 v' (mof l).length ((mof l).map (.int .u8)) ∧ Below w.heap.size w w'
theorem mof_put {wr w3 : World} {base b m : Nat} {v' : Value} {xs cs : List Value} (hB : wr.heap[b]? = some (.cells cs.toArray 60 (0, 0))) (ho : Own wr base 5 1 v' m xs) (hk : Kept (fun b => v'.ownBlock = some b) wr w3) : w3.heap[b]? = some (.cells cs.toArray 60 (0, 0)) :=
  (hk.block b (lt_of_blk hB) (ho.blk_ne hB (by decide))).trans hB
theorem mof_step {l : List Bool} {i : Nat} {w wr w3 : World} {v' v3 : Value} (hi : i < l.length) (b1 : w3.heap[w.heap.size + 1]? = some (.cells #[.int .i64 (i : Int), v'] 60 (0, 0))) (b0 : w3.heap[w.heap.size]? = some (.cells #[.int .i64 0, .slice none 0 0] 60 (0, 0)))
    (ho : ∀ k, v'.ownBlock = some k → w.heap.size ≤ k) (hb : Below w.heap.size w wr) (hk : Kept (fun b => v'.ownBlock = some b) wr w3) (h3 : Own w3 w.heap.size 5 1 v3 (mput (mof (l.take i)) i l[i]).length ((mput (mof (l.take i)) i l[i]).map (.int .u8))) :
    MofIn l (i + 1) w ((w3.setCell ⟨w.heap.size + 1, 0, none⟩ (.int .i64 ((i : Int) + 1))).setCell ⟨w.heap.size + 1, 1, none⟩ v3) := by
  have e : mof (l.take (i + 1)) = mput (mof (l.take i)) i l[i] := by
    rw [List.take_succ_eq_append_getElem hi, mof_snoc, List.length_take, Nat.min_eq_left (by omega)]
  have n1 : v3.ownBlock ≠ some (w.heap.size + 1) := h3.blk_ne b1 (by decide)
  refine ⟨v3, ?_, ?_, ?_, ?_⟩
  · have := heap_setCell_at (k := 1) (heap_setCell_at (k := 0) b1 (.int .i64 ((i : Int) + 1))) v3
    simpa using this
  · rw [Below.heap_setCell _ _ _ _ (by simp), Below.heap_setCell _ _ _ _ (by simp)]; exact b0
  · rw [e]; exact (h3.set_other n1 _).set_other n1 _
  · exact ((hb.trans (hk.to_below hb.size ho)).setCell (by simp) _).setCell (by simp) _
theorem mof_any (l : List Bool) (v : Value) (w : World) (hl : l.length ≤ 100000000) (h : Rd w 1 v l.length (l.map .bool)) : Calls Tryz.prog 90 #[v] w (MofP l w) := by
  obtain ⟨a, cap, rfl⟩ := h.form
  have HR := Aside.mk h
  clear h
  generalize hn : l.length = n at *
  have HN := Aside.mk hn
  clear hn
  go_enter Tryz.func90, Tryz.ntmps90
  go_wp2
  go_loopw [5, 9] (fun bv iv wr => ∃ i : Nat, i ≤ n ∧ iv = .int .i64 (i : Int) ∧ Aside (MofIn l i w wr)) (fun _ iv _ => n - (intOf iv).toNat)
  case atStart =>
    refine ⟨0, by omega, rfl, ⟨.slice none 0 0, ?_, ?_, Own.nil _ _ _ _, ((Below.refl _ _).alloc (Nat.le_refl _) _).alloc (by simp) _⟩⟩
    · have := heap_alloc_new (w.alloc (.cells #[.int .i64 0, .slice none 0 0] 60)) (.cells #[.int .i64 0, .slice none 0 0] 60)
      simpa using this
    · rw [Below.heap_alloc _ _ _ (by simp)]; exact heap_alloc_new _ _
  case round =>
    obtain ⟨i, hi, rfl, hp⟩ := hrel
    obtain ⟨v', hB1, hB0, ho, hb⟩ := hp.out
    have hs := hb.size
    have c10 := cell_blk (k := 0) hB1
    have c11 := cell_blk (k := 1) hB1
    have f10 := frozen_blk (k := 0) hB1
    have f11 := frozen_blk (k := 1) hB1
    have c00 := cell_blk (k := 0) hB0
    have c01 := cell_blk (k := 1) hB0
    have f00 := frozen_blk (k := 0) hB0
    have f01 := frozen_blk (k := 1) hB0
    simp at c10 c11 c00 c01
    by_cases hlt : i < n
    · have hil : i < l.length := by rw [HN.out]; exact hlt
      obtain ⟨_, a', cap', hsl, _, _, _, hcells⟩ := HR.out
      simp only [Value.slice.injEq, true_and] at hsl
      obtain ⟨rfl, rfl⟩ := hsl
      obtain ⟨g, off, rfl, hc⟩ := hcells i (.bool l[i]) (by simp [List.getElem?_eq_getElem hil])
      have hc2 := (hb.cell (p := ⟨g, off + i, none⟩) (World.block_lt_of_cell? _ _ hc)).trans hc
      obtain ⟨a1, c1, rfl⟩ := ho.form
      have HO := Aside.mk (And.intro hB1 (And.intro hB0 (And.intro ho hb)))
      have HCC := Aside.mk hcells
      clear hcells hc ho hB1 hB0 hb
      generalize hbb : l[i] = bit at *
      have HBIT := Aside.mk hbb
      clear hbb
      go_wp2_with (go_at_call 154; refine (mput_any w.heap.size i (mof (l.take i)) bit _ _ (by omega) (by rw [mof_len, List.length_take]; omega) HO.out.2.2.1 hs).mono ?_; rintro e w3 ⟨v3, rfl, ho3, hk3, hat3⟩; obtain ⟨a3, c3, rfl⟩ := ho3.form; have H3 := Aside.mk (And.intro ho3 (And.intro hk3 hat3)); have b1 := mof_put HO.out.1 HO.out.2.2.1 hk3; have b0 := mof_put HO.out.2.1 HO.out.2.2.1 hk3; have d10 := cell_blk (k := 0) b1; have d11 := cell_blk (k := 1) b1; have e10 := frozen_blk (k := 0) b1; have e11 := frozen_blk (k := 1) b1; simp at d10 d11; have BB := Aside.mk (And.intro b1 b0); clear ho3 hk3 hat3 b1 b0)
      go_roundw
      case rel =>
        exact ⟨i + 1, by omega, by go_num, ⟨mof_step hil BB.out.1 BB.out.2 (fun k e => (HO.out.2.2.1.lt k e).1) HO.out.2.2.2 H3.out.2.1 (by rw [HBIT.out]; exact H3.out.1)⟩⟩
      case measure => simp [intOf]; omega
    · obtain rfl : i = n := by omega
      have HO := Aside.mk (And.intro hB1 (And.intro hB0 (And.intro ho hb)))
      obtain ⟨a1, c1, rfl⟩ := ho.form
      clear hB1 hB0 ho hb
      go_wp2_with (fail)
      refine bodyPost_ret (v := .agg #[.int .i64 (i : Int), .slice a1 (mof (l.take i)).length c1]) (by simp [results, Tryz.results90, go_sem, c00, c01]) rfl ?_
      have e1 : l.take i = l := by rw [← HN.out]; simp
      refine ⟨_, by rw [HN.out], ?_, ?_⟩
      · have h0 := HO.out.2.2.1.blk_ne HO.out.2.1 (by decide)
        have := (HO.out.2.2.1.set_other (a := ⟨w.heap.size, 0, none⟩) h0 (.int .i64 (i : Int))).set_other (a := ⟨w.heap.size, 1, none⟩) h0 (.slice a1 (mof (l.take i)).length c1)
        rw [e1] at this ⊢
        exact this
      · exact (HO.out.2.2.2.setCell (Nat.le_refl _) _).setCell (Nat.le_refl _) _
end Go.Proofs.YtmhjjhaipcgbiaaGreat


namespace Go.Proofs.YtmhjjhaipcgbiaaGreat
open Go.RowKit
set_option linter.unusedVariables false
set_option linter.unusedSimpArgs false
set_option maxRecDepth 100000
set_option maxHeartbeats 1000000
def nullB (bs : List Int) (i : Nat) : Bool := ((bs.getD (i / 8) 0).toNat).testBit (i % 8)
theorem getD_byte {bs : List Int} (h : IsBytes bs) (i : Nat) : 0 ≤ bs.getD i 0 ∧ bs.getD i 0 < 256 := by
  rw [List.getD_eq_getElem?_getD]
  rcases Nat.lt_or_ge i bs.length with hl | hl
  · rw [List.getElem?_eq_getElem hl]; exact h _ (List.getElem_mem _)
  · rw [List.getElem?_eq_none hl]; decide
theorem morb_nat (x : Int) (h0 : 0 ≤ x) (h1 : x < 256) (k : Nat) (hk : k < 8) : morb x k = ((x.toNat ||| 2 ^ k : Nat) : Int) ∧ (x.toNat ||| 2 ^ k) < 256 := by
  have h2 : 2 ^ k < 256 := Nat.pow_lt_pow_right (a := 2) (by decide) (n := 8) hk
  obtain ⟨n, rfl⟩ := Int.eq_ofNat_of_zero_le h0
  have e : ((2 : Int) ^ k % 256) = ((2 ^ k : Nat) : Int) := by
    have : ((2 : Int) ^ k) = ((2 ^ k : Nat) : Int) := by simp
    rw [this]
    generalize 2 ^ k = z at *
    omega
  refine ⟨?_, Nat.or_lt_two_pow (n := 8) (by simp; omega) h2⟩
  unfold morb
  rw [e]
  exact u8_or_nat n (2 ^ k) (by omega) h2
theorem isBytes_append {a b : List Int} (ha : IsBytes a) (hb : IsBytes b) : IsBytes (a ++ b) := fun x hx => (List.mem_append.1 hx).elim (ha x) (hb x)
theorem isBytes_nil : IsBytes [] := fun x hx => by cases hx
theorem isBytes_set {a : List Int} (ha : IsBytes a) (i : Nat) {x : Int} (h0 : 0 ≤ x) (h1 : x < 256) : IsBytes (a.set i x) := fun y hy => by
  rcases List.mem_or_eq_of_mem_set hy with h | rfl
  · exact ha y h
  · exact ⟨h0, h1⟩
theorem mrow_bytes {bs : List Int} (h : IsBytes bs) (n : Nat) : IsBytes (mrow bs n) := by
  unfold mrow
  split
  · exact isBytes_append h (fun x hx => by simp at hx; subst hx; decide)
  · exact h
theorem mrow_bit (bs : List Int) (n i : Nat) : nullB (mrow bs n) i = nullB bs i := by
  unfold mrow
  split
  · unfold nullB
    congr 2
    simp only [List.getD_eq_getElem?_getD]
    rcases Nat.lt_or_ge (i / 8) bs.length with hl | hl
    · rw [List.getElem?_append_left hl]
    · rw [List.getElem?_append_right hl, List.getElem?_eq_none hl]
      rcases Nat.eq_zero_or_pos (i / 8 - bs.length) with e | e
      · rw [e]; rfl
      · rw [List.getElem?_eq_none (by simp; omega)]
  · rfl
theorem mput_law {bs : List Int} {n : Nat} (hb : IsBytes bs) (hl : bs.length = (n + 7) / 8) (bit : Bool) (h0 : nullB bs n = false) :
    IsBytes (mput bs n bit) ∧ ∀ i, nullB (mput bs n bit) i = if i = n then bit else nullB bs i := by
  have hr := mrow_bytes hb n
  have hg := getD_byte hr (n / 8)
  obtain ⟨e, hlt⟩ := morb_nat _ hg.1 hg.2 (n % 8) (Nat.mod_lt _ (by decide))
  unfold mput
  cases bit with
  | false =>
    simp only [Bool.false_eq_true, if_false]
    refine ⟨hr, fun i => ?_⟩
    rw [mrow_bit]
    split
    · rename_i e2; subst e2; exact h0
    · rfl
  | true =>
    simp only [if_true]
    rw [e]
    refine ⟨isBytes_set hr _ (by omega) (by omega), fun i => ?_⟩
    have hlr : n / 8 < (mrow bs n).length := by rw [mrow_len bs n hl]; omega
    rw [← mrow_bit bs n i]
    unfold nullB
    simp only [List.getD_eq_getElem?_getD, List.getElem?_set]
    by_cases e8 : n / 8 = i / 8
    · rw [if_pos e8, if_pos (by omega)]
      simp only [Option.getD_some, Int.toNat_natCast, Nat.testBit_or, Nat.testBit_two_pow]
      by_cases e2 : i = n
      · subst e2; simp
      · rw [if_neg e2]
        have : ¬ (n % 8 = i % 8) := by omega
        simp only [this, decide_false, Bool.or_false]
        rw [e8]
    · rw [if_neg e8, if_neg (by rintro rfl; exact e8 rfl)]
theorem mofR_law : ∀ l : List Bool, IsBytes (mofR l) ∧ ∀ i, nullB (mofR l) i = (l.reverse[i]?).getD false
  | [] => ⟨isBytes_nil, fun i => by simp [mofR, nullB]⟩
  | b :: r => by
    obtain ⟨h1, h2⟩ := mofR_law r
    have h0 : nullB (mofR r) r.length = false := by rw [h2]; rw [List.getElem?_eq_none (by simp)]; rfl
    obtain ⟨h3, h4⟩ := mput_law h1 (mofR_len r) b h0
    refine ⟨h3, fun i => ?_⟩
    rw [mofR, h4, List.reverse_cons]
    split
    · rename_i e; subst e
      rw [List.getElem?_append_right (by simp)]; simp
    · rename_i e
      rw [h2]
      rcases Nat.lt_or_ge i r.length with hl | hl
      · rw [List.getElem?_append_left (by simpa using hl)]
      · rw [List.getElem?_append_right (by simpa using hl), List.getElem?_eq_none (by simpa using hl), List.getElem?_eq_none (by simp; omega)]
theorem mof_bytes (l : List Bool) : IsBytes (mof l) := (mofR_law _).1
theorem mof_bit (l : List Bool) (i : Nat) : nullB (mof l) i = (l[i]?).getD false := by
  have := (mofR_law l.reverse).2 i
  rw [List.reverse_reverse] at this
  exact this
theorem mof_inj {a b : List Bool} (hl : a.length = b.length) (h : mof a = mof b) : a = b := by
  refine List.ext_getElem hl fun i h1 h2 => ?_
  have e := (mof_bit a i).symm.trans ((congrArg (fun x => nullB x i) h).trans (mof_bit b i))
  rw [List.getElem?_eq_getElem h1, List.getElem?_eq_getElem h2] at e
  exact e
def maskOK (m : Int) (bs : List Int) : Bool :=
  decide (0 ≤ m ∧ m ≤ 8 * (bs.length : Int) ∧ 8 * ((bs.length : Int) - 1) < m ∧ (0 < m % 8 → (bs.getD (bs.length - 1) 0).toNat / 2 ^ (m % 8).toNat = 0))
theorem mof_ok (l : List Bool) : maskOK (l.length : Int) (mof l) = true := by
  unfold maskOK
  rw [decide_eq_true_eq]
  have hl := mof_len l
  refine ⟨by omega, by omega, by omega, fun h => ?_⟩
  have e : ((l.length : Int) % 8).toNat = l.length % 8 := by omega
  rw [e, hl]
  refine Nat.div_eq_of_lt (Nat.lt_pow_two_of_testBit _ fun i hi => ?_)
  rcases Nat.lt_or_ge i 8 with h8 | h8
  · have := mof_bit l (((l.length + 7) / 8 - 1) * 8 + i)
    rw [List.getElem?_eq_none (by omega)] at this
    unfold nullB at this
    rw [show (((l.length + 7) / 8 - 1) * 8 + i) / 8 = (l.length + 7) / 8 - 1 by omega, show (((l.length + 7) / 8 - 1) * 8 + i) % 8 = i by omega] at this
    exact this
  · refine Nat.testBit_lt_two_pow (Nat.lt_of_lt_of_le ?_ (Nat.pow_le_pow_right (by decide) h8))
    have := getD_byte (mof_bytes l) ((l.length + 7) / 8 - 1)
    omega
end Go.Proofs.YtmhjjhaipcgbiaaGreat


namespace Go.Proofs.YtmhjjhaipcgbiaaGreat
open Go.RowKit
set_option linter.unusedVariables false
set_option linter.unusedSimpArgs false
set_option maxRecDepth 100000
set_option maxHeartbeats 1000000
theorem of_fixed (k s : Int) (h1 : (k == 15) = false) (h2 : (k == 16) = false) (w : World) : Calls Tryz.prog 86 #[.agg #[.int .i64 k, .int .i64 s]] w fun e w' => e = .returned (.iface 165 (.agg #[.int .i64 (widthOf k)])) ∧ w' = w.alloc (.cells #[.int .i64 k, .int .i64 s] 23) := by
  go_enter Tryz.func86, Tryz.ntmps86
  go_wp2_with (go_at_call 153; refine (width_any _ _).mono ?_; rintro e w1 ⟨rfl, rfl⟩)
  go_ret
  exact ⟨rfl, rfl⟩
def lows (X n : Nat) : List Int := (List.range n).map fun i => ((X / 256 ^ i % 256 : Nat) : Int)
theorem lows_succ (X n : Nat) : lows X (n + 1) = lows X n ++ [((X / 256 ^ n % 256 : Nat) : Int)] := by simp [lows, List.range_succ]
theorem len_lows (X n : Nat) : (lows X n).length = n := by simp [lows]
def WordP (bl lw base : Nat) (k s : Int) (nulls : List Bool) (data : List Int) (ends : List Int) (nv dv ev : Value) (X n : Nat) (w : World) (e : Ending) (w' : World) : Prop :=
  e = .returned (.tuple #[]) ∧ ∃ dv', IsB w' bl lw base k s nulls (data ++ lows X n) ends nv dv' ev ∧ Kept (fun b => b = bl ∨ dv.ownBlock = some b) w w' ∧ (dv'.ownBlock = dv.ownBlock ∨ ∃ b, dv'.ownBlock = some b ∧ w.heap.size ≤ b)
theorem word_any (bl lw base : Nat) (k s : Int) (nulls : List Bool) (data : List Int) (ends : List Int) (nv dv ev : Value) (X n : Nat) (hn : n ≤ 8) (hX : X < 18446744073709551616) (hl : data.length ≤ 100000000) (w : World) (h : IsB w bl lw base k s nulls data ends nv dv ev) (hb : base ≤ w.heap.size) :
    Calls Tryz.prog 135 #[.pointer (some ⟨bl, 0, none⟩), .int .u64 (X : Int), .int .i64 (n : Int)] w (WordP bl lw base k s nulls data ends nv dv ev X n w) := by
  have H0 := Aside.mk h
  clear h
  go_enter Tryz.func135, Tryz.ntmps135
  go_wp2
  go_loopw [1, 7] (fun xv iv wr => ∃ j : Nat, j ≤ n ∧ xv = .int .u64 ((X / 256 ^ j : Nat) : Int) ∧ iv = .int .i64 (j : Int) ∧ Aside (∃ dv', IsB wr bl lw base k s nulls (data ++ lows X j) ends nv dv' ev ∧ Kept (fun b => b = bl ∨ dv.ownBlock = some b) w wr ∧ (dv'.ownBlock = dv.ownBlock ∨ ∃ b, dv'.ownBlock = some b ∧ w.heap.size ≤ b))) (fun _ iv _ => n - (intOf iv).toNat)
  case atStart => exact ⟨0, by omega, by simp, rfl, ⟨dv, by simpa [lows] using H0.out, Kept.refl _ _, .inl rfl⟩⟩
  case round =>
    obtain ⟨j, hj, rfl, rfl, hp⟩ := hrel
    obtain ⟨dv', hp, hk, ho⟩ := hp.out
    clear H0
    by_cases hlt : j < n
    · have hX3 : X / 256 ^ j < 18446744073709551616 := Nat.lt_of_le_of_lt (Nat.div_le_self _ _) hX
      have hc3 := cell_blk (k := 3) hp.blk
      have hf3 := frozen_blk (k := 3) hp.blk
      simp at hc3
      obtain ⟨a1, c1, rfl⟩ := hp.data.form
      have hlen := len_lows X j
      have hdl : (data ++ lows X j).length ≤ 100000008 := by rw [List.length_append, hlen]; omega
      have hd := hp.data
      generalize hm : (data ++ lows X j).length = m at hd hc3 hdl hp ho
      have HP := Aside.mk hp
      have HD := Aside.mk hd
      have HM := Aside.mk hm
      have HK := Aside.mk hk
      have HO := Aside.mk ho
      clear hp hk ho hd hm hlen
      generalize hq : X / 256 ^ j = q at *
      have HQ := Aside.mk hq
      clear hq
      have hbs := lt_of_blk HP.out.blk
      go_wp2_with (at_builtin; refine wpList_app _ rfl _ _ 43 43 rfl base 5 (.int .u8 0) 1 1 Tryz.underlying43 u8info rfl _ _ _ rfl (HD.out.alloc _) _ 1 [.int .u8 ((q : Int) % 256)] rfl (src_one Tryz.underlying43 _ _ _ rfl rfl) (by unfold maxLen; omega) (by omega) (by have := HK.out.size; simp; omega) ?_)
      intro v' w5 hown' hgrow _ hat
      have e1 : data.map (Value.int .u8) ++ ((lows X j).map (Value.int .u8) ++ [.int .u8 ((q : Int) % 256)]) = (data ++ lows X (j + 1)).map (.int .u8) := by
        rw [lows_succ, HQ.out]; simp
      have e2 : m + 1 = (data ++ lows X (j + 1)).length := by rw [lows_succ, ← HM.out]; simp; omega
      rw [e1] at hown'
      obtain ⟨a5, c5, rfl⟩ := hown'.form
      have hown2 : Own w5 base 5 1 (.slice a5 (m + 1) c5) (data ++ lows X (j + 1)).length ((data ++ lows X (j + 1)).map (.int .u8)) := by rw [← e2]; exact hown'
      have hh := HP.out.app_data (.cells #[.int .u8 ((q : Int) % 256)] 5) hgrow hown2
      have hb5 := (hgrow.block bl (by simp; omega) (fun e => HP.out.data.blk_ne HP.out.blk (by decide) e.symm)).trans ((Below.heap_alloc _ _ _ hbs).trans HP.out.blk)
      have hc5 := cell_blk (k := 3) hb5
      have hf5 := frozen_blk (k := 3) hb5
      simp at hc5
      have HH := Aside.mk hh
      have HAT := Aside.mk hat
      clear hh hown2 e1 e2 hown' hgrow hat hb5
      go_wp2
      go_roundw
      case rel =>
        refine ⟨j + 1, by omega, ?_, by go_num, ⟨_, HH.out.1, (HK.out.trans HH.out.2 ?_), ?_⟩⟩
        · rw [Nat.pow_succ, ← Nat.div_div_eq_div_mul, HQ.out]; go_num
        · intro b hb1 hb2
          rcases hb1 with rfl | hb1
          · exact .inl rfl
          · rcases HO.out with h | ⟨b2, h, h2⟩
            · exact .inr (h ▸ hb1)
            · rw [h] at hb1; cases hb1; omega
        · rcases HAT.out with h | ⟨b2, h, h2⟩
          · rw [h]; exact HO.out
          · exact .inr ⟨b2, h, by have := HK.out.size; omega⟩
      case measure => simp [intOf]; omega
    · obtain rfl : j = n := by omega
      have HP := Aside.mk (And.intro hp (And.intro hk ho))
      clear hp hk ho
      go_wp2
      refine bodyPost_ret (v := .tuple #[]) (by simp [results, Tryz.results135, go_sem]) rfl ?_
      exact ⟨rfl, _, HP.out.1, HP.out.2.1, HP.out.2.2⟩
end Go.Proofs.YtmhjjhaipcgbiaaGreat


namespace Go.Proofs.YtmhjjhaipcgbiaaGreat
open Go.RowKit
set_option linter.unusedVariables false
set_option linter.unusedSimpArgs false
set_option maxRecDepth 100000
set_option maxHeartbeats 1000000
def wordedB (k : Int) : Bool := k == 15 || k == 16
theorem worded_any (k s : Int) (w : World) : Calls Tryz.prog 62 #[.agg #[.int .i64 k, .int .i64 s]] w (FitsP (wordedB k) w) := by
  by_cases h1 : k = 15
  · subst h1
    have hb := Aside.mk (below_new w (.cells #[.int .i64 15, .int .i64 s] 23))
    go_enter Tryz.func62, Tryz.ntmps62
    go_wp2
    go_ret
    exact ⟨rfl, hb.out⟩
  · have h2 : (k == 15) = false := by simpa using h1
    have HW : Aside (wordedB k = (k == 16)) := ⟨by simp [wordedB, h2]⟩
    have hb := Aside.mk (below_new w (.cells #[.int .i64 k, .int .i64 s] 23))
    clear h1
    go_enter Tryz.func62, Tryz.ntmps62
    go_wp2
    go_ret
    exact ⟨by rw [HW.out]; rfl, hb.out⟩
theorem r18check_yes (k s : Int) (w : World) (h : okType k s = true) :
    Calls Tryz.prog 13 #[.agg #[.int .i64 k, .int .i64 s]] w fun e w' => e = .returned (.int .i64 0) ∧ Below w.heap.size w w' := by
  unfold okType at h
  simp only [decide_eq_true_eq] at h
  obtain ⟨h1, h2, h3, h4, h5⟩ := h
  have hb := Aside.mk (below_new w (.cells #[.int .i64 k, .int .i64 s] 23))
  rcases h5 with h5 | h5
  · subst h5
    go_enter Tryz.func13, Tryz.ntmps13
    go_wp2
    go_ret
    exact ⟨rfl, hb.out⟩
  · subst h5
    by_cases h6 : k = 12
    · subst h6
      go_enter Tryz.func13, Tryz.ntmps13
      go_wp2
      go_ret
      exact ⟨rfl, hb.out⟩
    · have h7 : (k != 12) = true := by simpa using h6
      clear h6
      go_enter Tryz.func13, Tryz.ntmps13
      go_wp2
      go_ret
      exact ⟨rfl, hb.out⟩
theorem r18check_no (k s : Int) (w : World) (h : okType k s = false) :
    Calls Tryz.prog 13 #[.agg #[.int .i64 k, .int .i64 s]] w fun e w' => e = .returned (.int .i64 170) ∧ Below w.heap.size w w' := by
  unfold okType at h
  simp only [decide_eq_false_iff_not] at h
  have hb := Aside.mk (below_new w (.cells #[.int .i64 k, .int .i64 s] 23))
  have go : k < 1 ∨ (1 ≤ k ∧ 16 < k) ∨ (1 ≤ k ∧ k ≤ 16 ∧ s < 0) ∨ (1 ≤ k ∧ k ≤ 16 ∧ 0 ≤ s ∧ 18 < s) ∨ (1 ≤ k ∧ k ≤ 16 ∧ 0 < s ∧ s ≤ 18 ∧ k ≠ 12) := by omega
  clear h
  rcases go with h | ⟨h1, h⟩ | ⟨h1, h2, h⟩ | ⟨h1, h2, h0, h⟩ | ⟨h1, h2, h, h3, h4⟩
  · go_enter Tryz.func13, Tryz.ntmps13
    go_wp2
    go_ret
    exact ⟨rfl, hb.out⟩
  · go_enter Tryz.func13, Tryz.ntmps13
    go_wp2
    go_ret
    exact ⟨rfl, hb.out⟩
  · go_enter Tryz.func13, Tryz.ntmps13
    go_wp2
    go_ret
    exact ⟨rfl, hb.out⟩
  · go_enter Tryz.func13, Tryz.ntmps13
    go_wp2
    go_ret
    exact ⟨rfl, hb.out⟩
  · have h7 : (k != 12) = true := by simpa using h4
    have h8 : (s != 0) = true := by simp; omega
    have h9 : ¬ s < 0 := by omega
    clear h4
    go_enter Tryz.func13, Tryz.ntmps13
    go_wp2
    go_ret
    exact ⟨rfl, hb.out⟩
theorem r18check_any (k s : Int) (w : World) :
    Calls Tryz.prog 13 #[.agg #[.int .i64 k, .int .i64 s]] w fun e w' => e = .returned (.int .i64 (if okType k s then 0 else 170)) ∧ Below w.heap.size w w' := by
  cases h : okType k s
  · exact r18check_no k s w h
  · exact r18check_yes k s w h
theorem r18width_any (k : Int) (w : World) : Calls Tryz.prog 78 #[.int .i64 k] w fun e w' => e = .returned (.int .i64 (widthOf k)) ∧ w = w' := by
  by_cases h : 1 ≤ k ∧ k ≤ 16
  · obtain ⟨h1, h2⟩ := h
    have hk : k = 1 ∨ k = 2 ∨ k = 3 ∨ k = 4 ∨ k = 5 ∨ k = 6 ∨ k = 7 ∨ k = 8 ∨ k = 9 ∨ k = 10 ∨ k = 11 ∨ k = 12 ∨ k = 13 ∨ k = 14 ∨ k = 15 ∨ k = 16 := by omega
    clear h1 h2
    rcases hk with rfl | rfl | rfl | rfl | rfl | rfl | rfl | rfl | rfl | rfl | rfl | rfl | rfl | rfl | rfl | rfl
    all_goals
      go_enter Tryz.func78, Tryz.ntmps78
      go_wp2_with (go_at_call 148; refine (r5width_any _ _).mono ?_; rintro e w1 ⟨rfl, rfl⟩; simp only [wbits, reduceCtorEq, Int.reduceEq, or_self, or_true, true_or, or_false, false_or, if_true, if_false, ↓reduceIte])
      go_ret
      exact ⟨rfl, rfl⟩
  · have hw : Aside (widthOf k = 0) := ⟨by unfold widthOf; rw [if_neg (by omega), if_neg (by omega), if_neg (by omega), if_neg (by omega)]⟩
    have hw5 : wbits k = 0 := by unfold wbits; rw [if_neg (by omega), if_neg (by omega), if_neg (by omega), if_neg (by omega)]
    have hw5 := Aside.mk hw5
    have h' : k < 1 ∨ 16 < k := by omega
    clear h
    rcases h' with h | h
    all_goals
      go_enter Tryz.func78, Tryz.ntmps78
      go_wp2_with (go_at_call 148; refine (r5width_any _ _).mono ?_; rintro e w1 ⟨rfl, rfl⟩; simp only [hw5.out])
      go_ret
      exact ⟨by rw [hw.out]; rfl, rfl⟩
end Go.Proofs.YtmhjjhaipcgbiaaGreat


namespace Go.Proofs.YtmhjjhaipcgbiaaGreat
open Go.RowKit
set_option linter.unusedVariables false
set_option linter.unusedSimpArgs false
set_option maxRecDepth 100000
set_option maxHeartbeats 1000000
structure V where
  null : Bool
  bits : Nat
  text : List Int
structure CS where
  nulls : List Bool
  data : List Int
  ends : List Int
  words : List (List Int)
def CS.zero : CS := ⟨[], [], [], []⟩
def CS.add (k : Int) (c : CS) (v : V) : CS :=
  if k = 15 then ⟨c.nulls ++ [v.null], c.data ++ v.text, c.ends ++ [((c.data ++ v.text).length : Int)], c.words⟩
  else if k = 16 then ⟨c.nulls ++ [v.null], c.data ++ lows (if v.null then 0 else codeOf c.words v.text) 4, c.ends, if v.null then c.words else addWord c.words v.text⟩
  else ⟨c.nulls ++ [v.null], c.data ++ lows v.bits (widthOf k).toNat, c.ends, c.words⟩
def CS.of (k : Int) (l : List V) : CS := l.foldl (CS.add k) CS.zero
theorem CS.of_snoc (k : Int) (l : List V) (v : V) : CS.of k (l ++ [v]) = (CS.of k l).add k v := by simp [CS.of, List.foldl_append]
structure Col where
  k : Int
  s : Int
  n : Int
  m : Int
  bits : List Int
  data : List Int
  ends : List Int
  words : List (List Int)
def CS.col (c : CS) (k s : Int) : Col := ⟨k, s, c.nulls.length, c.nulls.length, mof c.nulls, c.data, c.ends, c.words⟩
def wordAt (data : List Int) (o : Nat) : Nat → Nat
  | 0 => 0
  | n + 1 => wordAt data o n + (data.getD (o + n) 0).toNat * 256 ^ n
theorem wordAt_lows (data : List Int) (o X : Nat) : ∀ n, (∀ j, j < n → data.getD (o + j) 0 = ((X / 256 ^ j % 256 : Nat) : Int)) → wordAt data o n = X % 256 ^ n
  | 0, _ => by simp [wordAt, Nat.mod_one]
  | n + 1, h => by
    rw [wordAt, wordAt_lows data o X n (fun j hj => h j (by omega)), h n (by omega), Int.toNat_natCast, Nat.mod_pow_succ, Nat.mul_comm]
theorem wordAt_lt {data : List Int} (h : IsBytes data) (o : Nat) : ∀ n, wordAt data o n < 256 ^ n
  | 0 => by simp [wordAt]
  | n + 1 => by
    have h1 := wordAt_lt h o n
    have h2 := getD_byte h (o + n)
    have h3 : (data.getD (o + n) 0).toNat * 256 ^ n ≤ 255 * 256 ^ n := Nat.mul_le_mul_right _ (by omega)
    rw [wordAt, Nat.pow_succ]
    omega
def sizedB (W : Nat) (c : Col) : Bool := c.data.length % W == 0 && (((c.data.length / W : Nat) : Int) == c.n) && c.ends.isEmpty
def aheadI (ends : List Int) (i : Nat) : Int := if i = 0 then 0 else ends.getD (i - 1) 0
def mayFixed (k s : Int) (W : Nat) (c : Col) : Bool := sizedB W c && c.words.isEmpty && (List.range c.n.toNat).all fun i => if nullB c.bits i then wordAt c.data (i * W) W == 0 else fitsB k s (wordAt c.data (i * W) W)
def mayRunning (c : Col) : Bool := ((c.ends.length : Int) == c.n) && c.words.isEmpty && ((List.range c.ends.length).all fun i => !(decide (c.ends.getD i 0 < aheadI c.ends i) || decide ((c.data.length : Int) < c.ends.getD i 0) || (nullB c.bits i && c.ends.getD i 0 != aheadI c.ends i))) && (aheadI c.ends c.ends.length == (c.data.length : Int))
def codedStep (c : Col) (i next : Nat) : Option Nat :=
  let code := wordAt c.data (i * 4) 4
  if (nullB c.bits i && code != 0) || decide (next < code) then none else if !nullB c.bits i && code == next then some (next + 1) else some next
def codedRun (c : Col) : Nat → Option Nat
  | 0 => some 0
  | i + 1 => (codedRun c i).bind (codedStep c i)
def mayCoded (c : Col) : Bool := sizedB 4 c && decide c.words.Nodup && (codedRun c c.n.toNat == some c.words.length)
def mayB (c : Col) : Bool := if c.k = 15 then mayRunning c else if c.k = 16 then mayCoded c else mayFixed c.k c.s (widthOf c.k).toNat c
def checkC (c : Col) : Int := if okType c.k c.s = false then 170 else if maskOK c.m c.bits && c.m == c.n && mayB c then 0 else 171
def vOK (k s : Int) (v : V) : Prop := IsBytes v.text ∧ v.bits < 18446744073709551616 ∧ (v.null = true → v.bits = 0 ∧ v.text = []) ∧ (v.null = false → if wordedB k then v.bits = 0 else fitsB k s v.bits = true ∧ v.text = [])
theorem flatMap_get {α β : Type} (f : α → List β) (W : Nat) (hW : ∀ x, (f x).length = W) : ∀ (l : List α) (i j : Nat) (h : i < l.length), j < W → (l.flatMap f)[i * W + j]? = (f l[i])[j]?
  | [], i, j, h, _ => by simp at h
  | x :: l, 0, j, h, hj => by
    rw [List.flatMap_cons, Nat.zero_mul, Nat.zero_add, List.getElem?_append_left (by rw [hW]; exact hj)]
    rfl
  | x :: l, i + 1, j, h, hj => by
    rw [List.flatMap_cons, List.getElem?_append_right (by rw [hW, Nat.add_mul]; omega), hW, show (i + 1) * W + j - W = i * W + j by rw [Nat.add_mul]; omega]
    exact flatMap_get f W hW l i j (by simpa using h) hj
theorem flatMap_len {α β : Type} (f : α → List β) (W : Nat) (hW : ∀ x, (f x).length = W) : ∀ l : List α, (l.flatMap f).length = l.length * W
  | [] => by simp
  | x :: l => by rw [List.flatMap_cons, List.length_append, hW, flatMap_len f W hW l, List.length_cons, Nat.add_mul]; omega
theorem lows_len (X n : Nat) : (lows X n).length = n := by simp [lows]
theorem lows_get (X n j : Nat) (h : j < n) : (lows X n)[j]? = some ((X / 256 ^ j % 256 : Nat) : Int) := by simp [lows, h]
theorem lows_bytes (X n : Nat) : IsBytes (lows X n) := fun x hx => by
  simp only [lows, List.mem_map] at hx
  obtain ⟨i, _, rfl⟩ := hx
  omega
theorem wordAt_flat (l : List Nat) (W i : Nat) (h : i < l.length) : wordAt (l.flatMap fun x => lows x W) (i * W) W = l[i] % 256 ^ W := by
  refine wordAt_lows _ _ _ W fun j hj => ?_
  rw [List.getD_eq_getElem?_getD, flatMap_get _ W (fun x => lows_len x W) l i j h hj, lows_get _ _ _ hj]
  rfl
theorem nulls_of (k : Int) (l : List V) : (CS.of k l).nulls = l.map (·.null) := by
  have : ∀ (l : List V) (c : CS), (l.foldl (CS.add k) c).nulls = c.nulls ++ l.map (·.null) := by
    intro l
    induction l with
    | nil => intro c; simp
    | cons v r ih =>
      intro c
      rw [List.foldl_cons, ih, List.map_cons]
      unfold CS.add
      split
      · simp
      split <;> simp
  simpa [CS.zero, CS.of] using this l CS.zero
theorem fixed_of {k : Int} (h1 : k ≠ 15) (h2 : k ≠ 16) (l : List V) : CS.of k l = ⟨l.map (·.null), (l.map (·.bits)).flatMap fun x => lows x (widthOf k).toNat, [], []⟩ := by
  have : ∀ (l : List V) (c : CS), l.foldl (CS.add k) c = ⟨c.nulls ++ l.map (·.null), c.data ++ (l.map (·.bits)).flatMap (fun x => lows x (widthOf k).toNat), c.ends, c.words⟩ := by
    intro l
    induction l with
    | nil => intro c; simp
    | cons v r ih =>
      intro c
      rw [List.foldl_cons, ih]
      simp [CS.add, h1, h2]
  simpa [CS.zero, CS.of] using this l CS.zero
theorem running_data (l : List V) : (CS.of 15 l).data = l.flatMap (·.text) ∧ (CS.of 15 l).words = [] := by
  have : ∀ (l : List V) (c : CS), (l.foldl (CS.add 15) c).data = c.data ++ l.flatMap (·.text) ∧ (l.foldl (CS.add 15) c).words = c.words := by
    intro l
    induction l with
    | nil => intro c; simp
    | cons v r ih =>
      intro c
      rw [List.foldl_cons, (ih _).1, (ih _).2]
      simp [CS.add]
  simpa [CS.zero, CS.of] using this l CS.zero
theorem snoc_ind {α : Type} {p : List α → Prop} (h0 : p []) (h1 : ∀ l v, p l → p (l ++ [v])) (l : List α) : p l := by
  have : ∀ r : List α, p r.reverse := by
    intro r
    induction r with
    | nil => exact h0
    | cons x r ih => rw [List.reverse_cons]; exact h1 _ _ ih
  have h := this l.reverse
  rwa [List.reverse_reverse] at h
theorem running_ends (l : List V) : (CS.of 15 l).ends.length = l.length ∧ ∀ i, i < l.length → (CS.of 15 l).ends.getD i 0 = (((l.take (i + 1)).flatMap (·.text)).length : Int) := by
  induction l using snoc_ind with
  | h0 => exact ⟨rfl, fun i h => by simp at h⟩
  | h1 l v ih =>
    have e : (CS.of 15 (l ++ [v])).ends = (CS.of 15 l).ends ++ [(((l ++ [v]).flatMap (·.text)).length : Int)] := by
      rw [CS.of_snoc]
      simp [CS.add, (running_data l).1]
    rw [e]
    refine ⟨by simp [ih.1], fun i h => ?_⟩
    rw [List.getD_eq_getElem?_getD]
    simp at h
    rcases Nat.lt_or_ge i l.length with hl | hl
    · rw [List.getElem?_append_left (by rw [ih.1]; exact hl), ← List.getD_eq_getElem?_getD, ih.2 i hl, List.take_append_of_le_length (by omega)]
    · rw [List.getElem?_append_right (by rw [ih.1]; exact hl), ih.1, show i - l.length = 0 by omega, List.take_of_length_le (by simp; omega)]
      rfl
theorem running_ahead (l : List V) (i : Nat) (h : i ≤ l.length) : aheadI (CS.of 15 l).ends i = (((l.take i).flatMap (·.text)).length : Int) := by
  unfold aheadI
  cases i with
  | zero => simp
  | succ i => rw [if_neg (by omega), show i + 1 - 1 = i from rfl, (running_ends l).2 i (by omega)]
theorem running_piece (l : List V) (i : Nat) (h : i < l.length) : ((l.flatMap (·.text)).drop ((l.take i).flatMap (·.text)).length).take (((l.take (i + 1)).flatMap (·.text)).length - ((l.take i).flatMap (·.text)).length) = l[i].text ∧
    ((l.take (i + 1)).flatMap (·.text)).length = ((l.take i).flatMap (·.text)).length + l[i].text.length ∧ ((l.take (i + 1)).flatMap (·.text)).length ≤ (l.flatMap (·.text)).length := by
  have e : (l.take (i + 1)).flatMap (·.text) = (l.take i).flatMap (·.text) ++ l[i].text := by
    rw [List.take_succ_eq_append_getElem h, List.flatMap_append]; simp
  have e2 : l.flatMap (·.text) = (l.take i).flatMap (·.text) ++ l[i].text ++ (l.drop (i + 1)).flatMap (·.text) := by
    rw [← e, ← List.flatMap_append, List.take_append_drop]
  refine ⟨?_, by rw [e, List.length_append], by rw [e2, e]; simp only [List.length_append]; omega⟩
  rw [e, List.length_append, e2, List.append_assoc, List.drop_left, Nat.add_sub_cancel_left, List.take_left]
def codesOf (ws : List (List Int)) : List V → List Nat
  | [] => []
  | v :: r => (if v.null then 0 else codeOf ws v.text) :: codesOf (if v.null then ws else addWord ws v.text) r
def wordsOf (ws : List (List Int)) : List V → List (List Int)
  | [] => ws
  | v :: r => wordsOf (if v.null then ws else addWord ws v.text) r
theorem coded_of (l : List V) : CS.of 16 l = ⟨l.map (·.null), (codesOf [] l).flatMap fun x => lows x 4, [], wordsOf [] l⟩ := by
  have : ∀ (l : List V) (c : CS), l.foldl (CS.add 16) c = ⟨c.nulls ++ l.map (·.null), c.data ++ (codesOf c.words l).flatMap (fun x => lows x 4), c.ends, wordsOf c.words l⟩ := by
    intro l
    induction l with
    | nil => intro c; simp [codesOf, wordsOf]
    | cons v r ih =>
      intro c
      rw [List.foldl_cons, ih]
      simp [CS.add, codesOf, wordsOf]
  simpa [CS.zero, CS.of] using this l CS.zero
theorem codes_len (l : List V) : ∀ ws, (codesOf ws l).length = l.length := by
  induction l with
  | nil => intro ws; rfl
  | cons v r ih => intro ws; simp [codesOf, ih]
theorem codes_get (l : List V) : ∀ (ws : List (List Int)) (i : Nat) (h : i < l.length), (codesOf ws l)[i]? = some (if l[i].null then 0 else codeOf (wordsOf ws (l.take i)) l[i].text) := by
  induction l with
  | nil => intro ws i h; simp at h
  | cons v r ih =>
    intro ws i h
    cases i with
    | zero => simp [codesOf, wordsOf]
    | succ i =>
      rw [codesOf, List.getElem?_cons_succ, ih _ i (by simpa using h)]
      simp [wordsOf]
theorem words_step (l : List V) : ∀ (ws : List (List Int)) (i : Nat) (h : i < l.length), wordsOf ws (l.take (i + 1)) = if l[i].null then wordsOf ws (l.take i) else addWord (wordsOf ws (l.take i)) l[i].text := by
  induction l with
  | nil => intro ws i h; simp at h
  | cons v r ih =>
    intro ws i h
    cases i with
    | zero => simp [wordsOf]
    | succ i =>
      rw [List.take_succ_cons, wordsOf, ih _ i (by simpa using h), List.take_succ_cons, wordsOf]
      simp
theorem addWord_pre (ws : List (List Int)) (t : List Int) : ws <+: addWord ws t := by
  unfold addWord
  split
  · exact List.prefix_refl _
  · exact List.prefix_append _ _
theorem words_pre (l : List V) : ∀ ws, ws <+: wordsOf ws l := by
  induction l with
  | nil => intro ws; exact List.prefix_refl _
  | cons v r ih =>
    intro ws
    rw [wordsOf]
    refine List.IsPrefix.trans ?_ (ih _)
    split
    · exact List.prefix_refl _
    · exact addWord_pre _ _
theorem words_app (l r : List V) : ∀ ws, wordsOf ws (l ++ r) = wordsOf (wordsOf ws l) r := by
  induction l with
  | nil => intro ws; rfl
  | cons v l ih => intro ws; rw [List.cons_append, wordsOf, wordsOf, ih]
theorem words_nodup (l : List V) : ∀ ws, ws.Nodup → (wordsOf ws l).Nodup := by
  induction l with
  | nil => intro ws h; exact h
  | cons v r ih =>
    intro ws h
    rw [wordsOf]
    refine ih _ ?_
    split
    · exact h
    · exact addWord_nodup h _
theorem words_len (l : List V) : ∀ ws, (wordsOf ws l).length ≤ ws.length + l.length := by
  induction l with
  | nil => intro ws; simp [wordsOf]
  | cons v r ih =>
    intro ws
    rw [wordsOf, List.length_cons]
    refine Nat.le_trans (ih _) ?_
    split
    · omega
    · have := addWord_len ws v.text; omega
theorem words_bytes (l : List V) (hl : ∀ v ∈ l, IsBytes v.text) : ∀ ws, (∀ t ∈ ws, IsBytes t) → ∀ t ∈ wordsOf ws l, IsBytes t := by
  induction l with
  | nil => intro ws h; exact h
  | cons v r ih =>
    intro ws h
    rw [wordsOf]
    refine ih (fun v hv => hl v (List.mem_cons_of_mem _ hv)) _ ?_
    split
    · exact h
    · exact addWord_bytes h (hl v (List.mem_cons_self ..))
theorem word_at_code (l : List V) (i : Nat) (h : i < l.length) (hn : l[i].null = false) : (wordsOf [] l)[codeOf (wordsOf [] (l.take i)) l[i].text]? = some l[i].text := by
  have e := words_step l [] i h
  rw [hn] at e
  simp only [Bool.false_eq_true, if_false] at e
  have p : wordsOf [] (l.take (i + 1)) <+: wordsOf [] l := by
    have := words_pre (l.drop (i + 1)) (wordsOf [] (l.take (i + 1)))
    rwa [← words_app, List.take_append_drop] at this
  rw [e] at p
  obtain ⟨r, hr⟩ := p
  have : (addWord (wordsOf [] (l.take i)) l[i].text)[codeOf (wordsOf [] (l.take i)) l[i].text]? = some l[i].text := by
    cases hc : (wordsOf [] (l.take i)).contains l[i].text with
    | true => rw [addWord_old hc]; exact codeOf_get hc
    | false => rw [addWord_new hc, codeOf_new hc]; simp
  rw [← hr, List.getElem?_append_left (List.getElem?_eq_some_iff.1 this).1]
  exact this
end Go.Proofs.YtmhjjhaipcgbiaaGreat


namespace Go.Proofs.YtmhjjhaipcgbiaaGreat
open Go.RowKit
set_option linter.unusedVariables false
set_option linter.unusedSimpArgs false
set_option maxRecDepth 100000
set_option maxHeartbeats 1000000
def valueC (c : Col) (i : Nat) : Nat × List Int :=
  if c.k = 15 then (0, (c.data.drop (aheadI c.ends i).toNat).take (c.ends.getD i 0 - aheadI c.ends i).toNat)
  else if c.k = 16 then (0, c.words.getD (wordAt c.data (i * 4) 4) [])
  else (wordAt c.data (i * (widthOf c.k).toNat) (widthOf c.k).toNat, [])
theorem built_null (k s : Int) (l : List V) (i : Nat) (h : i < l.length) : nullB ((CS.of k l).col k s).bits i = l[i].null := by
  show nullB (mof _) i = _
  rw [mof_bit, nulls_of, List.getElem?_map, List.getElem?_eq_getElem h]
  rfl
theorem all_range {n : Nat} {p : Nat → Bool} (h : ∀ i, i < n → p i = true) : (List.range n).all p = true := by
  rw [List.all_eq_true]
  intro i hi
  exact h i (List.mem_range.1 hi)
theorem running_may (s : Int) (l : List V) (hl : ∀ v ∈ l, vOK 15 s v) : mayRunning ((CS.of 15 l).col 15 s) = true := by
  have hE := (running_ends l).1
  have hn : (CS.of 15 l).nulls.length = l.length := by rw [nulls_of]; simp
  unfold mayRunning
  simp only [Bool.and_eq_true, beq_iff_eq]
  refine ⟨⟨⟨?_, ?_⟩, all_range fun i hi => ?_⟩, ?_⟩
  · show ((CS.of 15 l).ends.length : Int) = ((CS.of 15 l).nulls.length : Int)
    rw [hE, hn]
  · show (CS.of 15 l).words.isEmpty = true
    rw [(running_data l).2]; rfl
  · have hi : i < l.length := by rw [← hE]; exact hi
    rw [built_null 15 s l i hi]
    show (!(decide ((CS.of 15 l).ends.getD i 0 < aheadI (CS.of 15 l).ends i) || decide (((CS.of 15 l).data.length : Int) < (CS.of 15 l).ends.getD i 0) || (l[i].null && (CS.of 15 l).ends.getD i 0 != aheadI (CS.of 15 l).ends i))) = true
    rw [running_ahead l i (by omega), (running_ends l).2 i hi, (running_data l).1]
    obtain ⟨_, h2, h3⟩ := running_piece l i hi
    have hv := hl l[i] (List.getElem_mem _)
    simp only [Bool.not_eq_true', Bool.or_eq_false_iff, Bool.and_eq_false_iff, decide_eq_false_iff_not]
    refine ⟨⟨by omega, by omega⟩, ?_⟩
    cases hnl : l[i].null with
    | false => exact .inl rfl
    | true =>
      refine .inr ?_
      have := (hv.2.2.1 hnl).2
      rw [this] at h2
      simp at h2
      simp [h2]
  · show aheadI (CS.of 15 l).ends (CS.of 15 l).ends.length = ((CS.of 15 l).data.length : Int)
    rw [hE, running_ahead l _ (Nat.le_refl _), (running_data l).1, List.take_length]
theorem running_value (s : Int) (l : List V) (hl : ∀ v ∈ l, vOK 15 s v) (i : Nat) (h : i < l.length) : valueC ((CS.of 15 l).col 15 s) i = (l[i].bits, l[i].text) := by
  have hv := hl l[i] (List.getElem_mem _)
  have hb : l[i].bits = 0 := by
    cases hn : l[i].null with
    | true => exact (hv.2.2.1 hn).1
    | false => have := hv.2.2.2 hn; exact this
  rw [hb]
  unfold valueC
  rw [if_pos (show ((CS.of 15 l).col 15 s).k = 15 from rfl)]
  show (0, ((CS.of 15 l).data.drop (aheadI (CS.of 15 l).ends i).toNat).take ((CS.of 15 l).ends.getD i 0 - aheadI (CS.of 15 l).ends i).toNat) = _
  obtain ⟨h1, h2, h3⟩ := running_piece l i h
  rw [running_ahead l i (by omega), (running_ends l).2 i h, (running_data l).1, Int.toNat_natCast, show ((((l.take (i + 1)).flatMap (·.text)).length : Int) - (((l.take i).flatMap (·.text)).length : Int)).toNat = ((l.take (i + 1)).flatMap (·.text)).length - ((l.take i).flatMap (·.text)).length by omega, h1]
theorem coded_word (s : Int) (l : List V) (hm : l.length ≤ 100000000) (i : Nat) (h : i < l.length) : wordAt ((CS.of 16 l).col 16 s).data (i * 4) 4 = if l[i].null then 0 else codeOf (wordsOf [] (l.take i)) l[i].text := by
  show wordAt (CS.of 16 l).data (i * 4) 4 = _
  rw [coded_of]
  show wordAt ((codesOf [] l).flatMap fun x => lows x 4) (i * 4) 4 = _
  have hg := codes_get l [] i h
  have hi : i < (codesOf [] l).length := by rw [codes_len]; exact h
  rw [wordAt_flat _ 4 i hi]
  rw [List.getElem?_eq_getElem hi, Option.some.injEq] at hg
  rw [hg]
  refine Nat.mod_eq_of_lt ?_
  split
  · decide
  · have h1 := codeOf_le (wordsOf [] (l.take i)) l[i].text
    have h2 := words_len (l.take i) []
    simp only [List.length_nil, List.length_take] at h2
    omega
theorem coded_run (s : Int) (l : List V) (hm : l.length ≤ 100000000) : ∀ i, i ≤ l.length → codedRun ((CS.of 16 l).col 16 s) i = some (wordsOf [] (l.take i)).length
  | 0, _ => by simp [codedRun, wordsOf]
  | i + 1, h => by
    rw [codedRun, coded_run s l hm i (by omega), Option.bind_some]
    unfold codedStep
    rw [coded_word s l hm i (by omega), built_null 16 s l i (by omega), words_step l [] i (by omega)]
    cases hn : l[i].null with
    | true => simp
    | false =>
      simp only [Bool.false_eq_true, if_false, Bool.false_and, Bool.not_false, Bool.true_and, Bool.false_or]
      have hle := codeOf_le (wordsOf [] (l.take i)) l[i].text
      rw [if_neg (by simpa using hle)]
      cases hc : (wordsOf [] (l.take i)).contains l[i].text with
      | true =>
        have := (List.getElem?_eq_some_iff.1 (codeOf_get hc)).1
        rw [if_neg (by simp; omega), addWord_old hc]
      | false => rw [if_pos (by simp [codeOf_new hc]), addWord_new hc]; simp
theorem coded_may (s : Int) (l : List V) (hm : l.length ≤ 100000000) : mayCoded ((CS.of 16 l).col 16 s) = true := by
  have hn : (CS.of 16 l).nulls.length = l.length := by rw [nulls_of]; simp
  have hd : (CS.of 16 l).data.length = l.length * 4 := by rw [coded_of]; show ((codesOf [] l).flatMap fun x => lows x 4).length = _; rw [flatMap_len _ 4 (fun x => lows_len x 4), codes_len]
  unfold mayCoded sizedB
  simp only [Bool.and_eq_true, beq_iff_eq, decide_eq_true_eq]
  refine ⟨⟨⟨⟨?_, ?_⟩, ?_⟩, ?_⟩, ?_⟩
  · show (CS.of 16 l).data.length % 4 = 0
    omega
  · show (((CS.of 16 l).data.length / 4 : Nat) : Int) = ((CS.of 16 l).nulls.length : Int)
    omega
  · show (CS.of 16 l).ends.isEmpty = true
    rw [coded_of]; rfl
  · show (CS.of 16 l).words.Nodup
    rw [coded_of]; exact words_nodup l [] List.nodup_nil
  · show codedRun ((CS.of 16 l).col 16 s) (((CS.of 16 l).nulls.length : Int)).toNat = some (CS.of 16 l).words.length
    rw [hn, Int.toNat_natCast, coded_run s l hm _ (Nat.le_refl _), List.take_length, coded_of]
theorem coded_value (s : Int) (l : List V) (hm : l.length ≤ 100000000) (hl : ∀ v ∈ l, vOK 16 s v) (i : Nat) (h : i < l.length) (hn : l[i].null = false) : valueC ((CS.of 16 l).col 16 s) i = (l[i].bits, l[i].text) := by
  have hv := hl l[i] (List.getElem_mem _)
  have hb : l[i].bits = 0 := hv.2.2.2 hn
  rw [hb]
  unfold valueC
  rw [if_neg (show ¬ ((CS.of 16 l).col 16 s).k = 15 from (by decide : ¬ (16 : Int) = 15)), if_pos (show ((CS.of 16 l).col 16 s).k = 16 from rfl), coded_word s l hm i h, hn]
  show (0, (CS.of 16 l).words.getD (codeOf _ _) []) = _
  rw [coded_of]
  show (0, (wordsOf [] l).getD (codeOf _ _) []) = _
  rw [List.getD_eq_getElem?_getD, word_at_code l i h hn]
  rfl
theorem width_pos {k s : Int} (h : okType k s = true) (h1 : k ≠ 15) : ∃ W : Nat, widthOf k = (W : Int) ∧ 1 ≤ W ∧ W ≤ 8 := by
  unfold okType at h
  simp only [decide_eq_true_eq] at h
  unfold widthOf
  split
  · exact ⟨1, rfl, by omega⟩
  split
  · exact ⟨2, rfl, by omega⟩
  split
  · exact ⟨4, rfl, by omega⟩
  split
  · exact ⟨8, rfl, by omega⟩
  · omega
theorem f32_lt {b : Int} (h : f32OK b = true) : b < 4294967296 := by
  unfold f32OK at h
  simp only [Bool.and_eq_true, decide_eq_true_eq] at h
  exact h.1
theorem fits_width {k s : Int} {b W : Nat} (hf : fitsB k s (b : Int) = true) (hw : widthOf k = (W : Int)) (h1 : k ≠ 15) (h2 : k ≠ 16) (hb : b < 18446744073709551616) : b < 256 ^ W := by
  unfold fitsB at hf
  simp only [Bool.and_eq_true] at hf
  obtain ⟨ho, hf⟩ := hf
  unfold okType at ho
  simp only [decide_eq_true_eq] at ho
  have hk : k = 1 ∨ k = 2 ∨ k = 3 ∨ k = 4 ∨ k = 5 ∨ k = 6 ∨ k = 7 ∨ k = 8 ∨ k = 9 ∨ k = 10 ∨ k = 11 ∨ k = 12 ∨ k = 13 ∨ k = 14 := by omega
  clear ho h1 h2
  have e8 : ∀ W : Nat, (8 : Int) = (W : Int) → b < 256 ^ W := fun W e => (show W = 8 by omega) ▸ hb
  rcases hk with rfl | rfl | rfl | rfl | rfl | rfl | rfl | rfl | rfl | rfl | rfl | rfl | rfl | rfl
  case inr.inr.inr.inr.inr.inr.inr.inr.inl =>
    have e : (4 : Int) = (W : Int) := hw
    obtain rfl : W = 4 := by omega
    have := f32_lt (show f32OK b = true from hf)
    show b < 4294967296
    omega
  all_goals first
    | exact e8 W hw
    | (have e : (1 : Int) = (W : Int) := hw
       obtain rfl : W = 1 := by omega
       first
        | (have h3 : decide ((b : Int) ≤ 255) = true := hf
           rw [decide_eq_true_eq] at h3
           show b < 256; omega)
        | (have h3 : decide ((b : Int) ≤ 1) = true := hf
           rw [decide_eq_true_eq] at h3
           show b < 256; omega))
    | (have e : (2 : Int) = (W : Int) := hw
       obtain rfl : W = 2 := by omega
       have h3 : decide ((b : Int) ≤ 65535) = true := hf
       rw [decide_eq_true_eq] at h3
       show b < 65536; omega)
    | (have e : (4 : Int) = (W : Int) := hw
       obtain rfl : W = 4 := by omega
       have h3 : decide ((b : Int) ≤ 4294967295) = true := hf
       rw [decide_eq_true_eq] at h3
       show b < 4294967296; omega)
theorem fixed_word {k s : Int} (h1 : k ≠ 15) (h2 : k ≠ 16) {W : Nat} (hw : widthOf k = (W : Int)) (l : List V) (hl : ∀ v ∈ l, vOK k s v) (i : Nat) (h : i < l.length) : wordAt ((CS.of k l).col k s).data (i * W) W = l[i].bits := by
  show wordAt (CS.of k l).data (i * W) W = _
  rw [fixed_of h1 h2]
  show wordAt ((l.map (·.bits)).flatMap fun x => lows x (widthOf k).toNat) (i * W) W = _
  rw [hw, Int.toNat_natCast, wordAt_flat _ W i (by simpa using h), List.getElem_map]
  have hv := hl l[i] (List.getElem_mem _)
  refine Nat.mod_eq_of_lt ?_
  cases hn : l[i].null with
  | true => rw [(hv.2.2.1 hn).1]; exact Nat.pow_pos (by decide)
  | false =>
    have h3 := hv.2.2.2 hn
    rw [if_neg (by simp [wordedB, h1, h2])] at h3
    exact fits_width h3.1 hw h1 h2 hv.2.1
theorem fixed_may {k s : Int} (ho : okType k s = true) (h1 : k ≠ 15) (h2 : k ≠ 16) (l : List V) (hl : ∀ v ∈ l, vOK k s v) : mayFixed k s (widthOf k).toNat ((CS.of k l).col k s) = true := by
  obtain ⟨W, hw, hp, h8⟩ := width_pos ho h1
  have hn : (CS.of k l).nulls.length = l.length := by rw [nulls_of]; simp
  have hd : (CS.of k l).data.length = l.length * W := by rw [fixed_of h1 h2]; show ((l.map (·.bits)).flatMap fun x => lows x (widthOf k).toNat).length = _; rw [hw, Int.toNat_natCast, flatMap_len _ W (fun x => lows_len x W), List.length_map]
  have he : (CS.of k l).ends = [] := by rw [fixed_of h1 h2]
  have hwd : (CS.of k l).words = [] := by rw [fixed_of h1 h2]
  rw [hw, Int.toNat_natCast]
  unfold mayFixed sizedB
  simp only [Bool.and_eq_true, beq_iff_eq]
  refine ⟨⟨⟨⟨?_, ?_⟩, ?_⟩, ?_⟩, all_range fun i hi => ?_⟩
  · show (CS.of k l).data.length % W = 0
    rw [hd, Nat.mul_mod_left]
  · show (((CS.of k l).data.length / W : Nat) : Int) = ((CS.of k l).nulls.length : Int)
    rw [hd, Nat.mul_div_cancel _ hp, hn]
  · show (CS.of k l).ends.isEmpty = true
    rw [he]; rfl
  · show (CS.of k l).words.isEmpty = true
    rw [hwd]; rfl
  · have hi : i < l.length := by
      have : i < (((CS.of k l).nulls.length : Int)).toNat := hi
      omega
    rw [built_null k s l i hi, fixed_word h1 h2 hw l hl i hi]
    have hv := hl l[i] (List.getElem_mem _)
    cases hnl : l[i].null with
    | true => simp [(hv.2.2.1 hnl).1]
    | false =>
      have h3 := hv.2.2.2 hnl
      rw [if_neg (by simp [wordedB, h1, h2])] at h3
      simp [h3.1]
theorem built_ok {k s : Int} (ho : okType k s = true) (l : List V) (hl : ∀ v ∈ l, vOK k s v) (hm : l.length ≤ 100000000) : checkC ((CS.of k l).col k s) = 0 := by
  unfold checkC
  rw [if_neg (by show ¬ okType k s = false; rw [ho]; decide), if_pos]
  simp only [Bool.and_eq_true, beq_iff_eq]
  refine ⟨⟨mof_ok _, rfl⟩, ?_⟩
  unfold mayB
  by_cases h1 : k = 15
  · rw [if_pos (show ((CS.of k l).col k s).k = 15 from h1)]; subst h1; exact running_may s l hl
  by_cases h2 : k = 16
  · rw [if_neg (show ¬ ((CS.of k l).col k s).k = 15 from h1), if_pos (show ((CS.of k l).col k s).k = 16 from h2)]; subst h2; exact coded_may s l hm
  rw [if_neg (show ¬ ((CS.of k l).col k s).k = 15 from h1), if_neg (show ¬ ((CS.of k l).col k s).k = 16 from h2)]
  exact fixed_may ho h1 h2 l hl
theorem built_value {k s : Int} (ho : okType k s = true) (l : List V) (hl : ∀ v ∈ l, vOK k s v) (hm : l.length ≤ 100000000) (i : Nat) (h : i < l.length) (hn : l[i].null = false) : valueC ((CS.of k l).col k s) i = (l[i].bits, l[i].text) := by
  by_cases h1 : k = 15
  · subst h1; exact running_value s l hl i h
  by_cases h2 : k = 16
  · subst h2; exact coded_value s l hm hl i h hn
  obtain ⟨W, hw, hp, h8⟩ := width_pos ho h1
  unfold valueC
  rw [if_neg (show ((CS.of k l).col k s).k ≠ 15 from h1), if_neg (show ((CS.of k l).col k s).k ≠ 16 from h2)]
  show (wordAt _ (i * (widthOf k).toNat) (widthOf k).toNat, []) = _
  rw [hw, Int.toNat_natCast, fixed_word h1 h2 hw l hl i h]
  have hv := (hl l[i] (List.getElem_mem _)).2.2.2 hn
  rw [if_neg (by simp [wordedB, h1, h2])] at hv
  rw [hv.2]
end Go.Proofs.YtmhjjhaipcgbiaaGreat


namespace Go.Proofs.YtmhjjhaipcgbiaaGreat
open Go.RowKit
set_option linter.unusedVariables false
set_option linter.unusedSimpArgs false
set_option maxRecDepth 100000
set_option maxHeartbeats 1000000
theorem lows_succ18 (X n : Nat) : lows X (n + 1) = lows X n ++ [((X / 256 ^ n % 256 : Nat) : Int)] := by simp [lows, List.range_succ]
def Put18P (base : Nat) (a : Option Addr) (c : Nat) (data : List Int) (X W : Nat) (w : World) (e : Ending) (w' : World) : Prop :=
  ∃ a' c', e = .returned (.slice a' (data.length + W) c') ∧ Own w' base 5 1 (.slice a' (data.length + W) c') (data.length + W) ((data ++ lows X W).map (.int .u8)) ∧ Kept (fun b => (Value.slice a data.length c).ownBlock = some b) w w' ∧
    ((Value.slice a' (data.length + W) c').ownBlock = (Value.slice a data.length c).ownBlock ∨ ∃ b, (Value.slice a' (data.length + W) c').ownBlock = some b ∧ w.heap.size ≤ b)
structure Put18I (base : Nat) (a : Option Addr) (c : Nat) (data : List Int) (X i : Nat) (a' : Option Addr) (c' : Nat) (w wr : World) : Prop where
  own : Own wr base 5 1 (.slice a' (data.length + i) c') (data.length + i) ((data ++ lows X i).map (.int .u8))
  kept : Kept (fun b => (Value.slice a data.length c).ownBlock = some b) w wr
  blk : (Value.slice a' (data.length + i) c').ownBlock = (Value.slice a data.length c).ownBlock ∨ ∃ b, (Value.slice a' (data.length + i) c').ownBlock = some b ∧ w.heap.size ≤ b
theorem put18_next {base : Nat} {a : Option Addr} {c : Nat} {data : List Int} {X i : Nat} {a' a2 : Option Addr} {c' c2 : Nat} {w wr w2 : World} {o : Obj} {y : Int} (h : Put18I base a c data X i a' c' w wr) (hy : y = ((X / 256 ^ i % 256 : Nat) : Int))
    (hA : AppP (wr.alloc o) base 5 1 (.slice a' (data.length + i) c') (data.length + i) ((data ++ lows X i).map (.int .u8)) 1 [.int .u8 y] (.slice a2 (data.length + i + 1) c2) w2) : Put18I base a c data X (i + 1) a2 c2 w w2 := by
  subst hy
  refine ⟨?_, ?_, ?_⟩
  · have := hA.own
    rw [lows_succ18]
    simpa [List.append_assoc, Nat.add_assoc] using this
  · refine h.kept.trans ((Kept.of_below (below_new wr o)).trans (Kept.of_grown hA.grown) (S := fun b => (Value.slice a' (data.length + i) c').ownBlock = some b) (fun b e _ => e.symm)) (fun b e hlt => ?_)
    rcases h.blk with h1 | ⟨b', h1, h2⟩
    · exact h1 ▸ e
    · rw [h1] at e; cases e; omega
  · have hs : (wr.alloc o).heap.size = wr.heap.size + 1 := by simp
    have hk := h.kept.size
    rcases hA.blk with h1 | ⟨b', h1, h2⟩
    · exact (show (Value.slice a2 (data.length + (i + 1)) c2).ownBlock = _ from h1) ▸ h.blk
    · exact .inr ⟨b', h1, by omega⟩
theorem put18_any (base : Nat) (data : List Int) (X W : Nat) (hX : X < 18446744073709551616) (hW : W ≤ 8) (hl : data.length ≤ 100000000) (a : Option Addr) (c : Nat) (w : World) (h : Own w base 5 1 (.slice a data.length c) data.length (data.map (.int .u8))) (hb : base ≤ w.heap.size) :
    Calls Tryz.prog 77 #[.slice a data.length c, .int .u64 (X : Int), .int .i64 (W : Int)] w (Put18P base a c data X W w) := by
  have H := Aside.mk (show Put18I base a c data X 0 a c w w from ⟨by simpa [lows] using h, Kept.refl _ _, .inl rfl⟩)
  have HX := Aside.mk hX
  clear h hX
  generalize hdl : data.length = n at *
  have HDL := Aside.mk hdl
  go_enter Tryz.func77, Tryz.ntmps77
  go_wp2
  go_loopw [0, 1, 7] (fun bv xv iv wr => ∃ (i : Nat) (a' : Option Addr) (c' : Nat), i ≤ W ∧ bv = .slice a' (n + i) c' ∧ xv = .int .u64 ((X / 256 ^ i : Nat) : Int) ∧ iv = .int .i64 (i : Int) ∧ Aside (Put18I base a c data X i a' c' w wr)) (fun _ _ iv _ => W - (intOf iv).toNat)
  case atStart => exact ⟨0, a, c, by omega, rfl, by simp, rfl, H⟩
  case round =>
    clear H
    obtain ⟨i, a', c', hi, rfl, rfl, rfl, hp⟩ := hrel
    have hk := hp.out.kept.size
    by_cases hlt : i < W
    · have hy : X / 256 ^ i < 18446744073709551616 := Nat.lt_of_le_of_lt (Nat.div_le_self _ _) HX.out
      have HY := Aside.mk (show X / 256 ^ (i + 1) = X / 256 ^ i / 256 by rw [Nat.pow_succ, Nat.div_div_eq_div_mul])
      have HO := Aside.mk (show Own wr base 5 1 (.slice a' (n + i) c') (n + i) ((data ++ lows X i).map (.int .u8)) from hdl ▸ hp.out.own)
      have HQ := Aside.mk (show (((X / 256 ^ i : Nat) : Int) % 256) = ((X / 256 ^ i % 256 : Nat) : Int) by simp)
      clear hdl
      generalize hyg : X / 256 ^ i = y at *
      have HYG := Aside.mk hyg
      clear hyg
      go_wp2_with (at_builtin; refine wpList_app2 _ rfl _ _ 43 43 rfl base 5 (.int .u8 0) 1 1 Tryz.underlying43 u8info rfl _ (n + i) ((data ++ lows X i).map (.int .u8)) rfl (HO.out.alloc _) _ 1 [_] rfl (src_one Tryz.underlying43 _ _ _ rfl rfl) (by unfold maxLen; omega) (by omega) (Nat.le_trans hb (by simp; omega)) ?_)
      intro v' w5 hA
      obtain ⟨a5, c5, rfl⟩ := hA.own.form
      have HA := Aside.mk hA
      clear hA
      go_wp2_with fail
      have e := HDL.out
      subst e
      exact ⟨⟨i + 1, a5, c5, by omega, by rw [Nat.add_assoc], by rw [HY.out]; simp, by simp, ⟨put18_next (y := (y : Int) % 256) hp.out (by rw [HYG.out]; exact HQ.out) (by have := HA.out; rw [← List.map_append] at this; exact this)⟩⟩, by simp [intOf]; omega⟩
    · obtain rfl : i = W := by omega
      go_wp2_with fail
      go_ret
      subst hdl
      exact ⟨a', c', rfl, hp.out.own, hp.out.kept, hp.out.blk⟩
end Go.Proofs.YtmhjjhaipcgbiaaGreat


namespace Go.Proofs.YtmhjjhaipcgbiaaGreat
open Go.RowKit
set_option linter.unusedVariables false
set_option linter.unusedSimpArgs false
set_option maxRecDepth 100000
set_option maxHeartbeats 1000000
structure Of16I (l : List Bool) (i : Nat) (w wr : World) (v : Value) : Prop where
  b1 : wr.heap[w.heap.size + 1]? = some (.cells #[.int .i64 (l.length : Int), v] 60 (0, 0))
  b0 : wr.heap[w.heap.size]? = some (.cells #[.int .i64 0, .slice none 0 0] 60 (0, 0))
  own : Own wr w.heap.size 5 1 v (mof (l.take i)).length ((mof (l.take i)).map (.int .u8))
  bel : Below w.heap.size w wr
theorem mof_take (l : List Bool) {i : Nat} (hi : i < l.length) : mof (l.take (i + 1)) = mput (mof (l.take i)) i l[i] := by
  rw [List.take_succ_eq_append_getElem hi, mof_snoc, List.length_take, Nat.min_eq_left (by omega)]
theorem mof_take_len (l : List Bool) {i : Nat} (hi : i ≤ l.length) : (mof (l.take i)).length = (i + 7) / 8 := by rw [mof_len, List.length_take, Nat.min_eq_left hi]
structure Of16M (l : List Bool) (i : Nat) (w wr : World) (v : Value) : Prop where
  b1 : wr.heap[w.heap.size + 1]? = some (.cells #[.int .i64 (l.length : Int), v] 60 (0, 0))
  b0 : wr.heap[w.heap.size]? = some (.cells #[.int .i64 0, .slice none 0 0] 60 (0, 0))
  own : Own wr w.heap.size 5 1 v (i / 8 + 1) ((mrow (mof (l.take i)) i).map (.int .u8))
  bel : Below w.heap.size w wr
theorem of16_same {l : List Bool} {i : Nat} {w wr : World} {v : Value} (h : Of16I l i w wr v) (hi : i < l.length) (h8 : i % 8 ≠ 0) : Of16M l i w wr v := by
  have e : mrow (mof (l.take i)) i = mof (l.take i) := by rw [mrow, if_neg h8]
  refine ⟨h.b1, h.b0, ?_, h.bel⟩
  have := h.own
  rw [mof_take_len l (by omega)] at this
  rw [e, show i / 8 + 1 = (i + 7) / 8 by omega]; exact this
theorem of16_more {l : List Bool} {i : Nat} {w wr w5 : World} {va v5 : Value} {o : Obj} (h : Of16I l i w wr va) (hi : i < l.length) (h8 : i % 8 = 0) (hA : AppP (wr.alloc o) w.heap.size 5 1 va ((i + 7) / 8) ((mof (l.take i)).map (.int .u8)) 1 [.int .u8 0] v5 w5) : Of16M l i w (w5.setCell ⟨w.heap.size + 1, 1, none⟩ v5) v5 := by
  have e : mrow (mof (l.take i)) i = mof (l.take i) ++ [0] := by rw [mrow, if_pos h8]
  have n1 : va.ownBlock ≠ some (w.heap.size + 1) := h.own.blk_ne h.b1 (by decide)
  have n0 : va.ownBlock ≠ some w.heap.size := h.own.blk_ne h.b0 (by decide)
  have K : Kept (fun b => va.ownBlock = some b) wr w5 := (Kept.of_below (below_new wr o)).trans ((Kept.of_grown hA.grown).mono (fun b e _ => e.symm)) (fun _ e _ => e)
  have g1 := (K.block _ (lt_of_blk h.b1) n1).trans h.b1
  have g0 := (K.block _ (lt_of_blk h.b0) n0).trans h.b0
  refine ⟨by simpa using heap_setCell_at (k := 1) g1 v5, by rw [Below.heap_setCell _ _ _ _ (by simp)]; exact g0, ?_, (h.bel.trans (K.to_below h.bel.size (fun b e => (h.own.lt b e).1))).setCell (by simp) _⟩
  have := hA.own.set_other (a := ⟨w.heap.size + 1, 1, none⟩) (hA.own.blk_ne g1 (by decide)) v5
  rw [e, List.map_append, show i / 8 + 1 = (i + 7) / 8 + 1 by omega]
  exact this
theorem of16_no {l : List Bool} {i : Nat} {w wr : World} {v : Value} (h : Of16M l i w wr v) (hi : i < l.length) (hb : l[i] = false) : Of16I l (i + 1) w wr v := by
  refine ⟨h.b1, h.b0, ?_, h.bel⟩
  have e : mof (l.take (i + 1)) = mrow (mof (l.take i)) i := by rw [mof_take l hi, hb]; rfl
  rw [e, mrow_len _ _ (mof_take_len l (by omega))]
  exact h.own
theorem of16_yes {l : List Bool} {i g off cap : Nat} {w wr : World} (h : Of16M l i w wr (.slice (some ⟨g, off, none⟩) (i / 8 + 1) cap)) (hi : i < l.length) (hb : l[i] = true) :
    Of16I l (i + 1) w (wr.setCell ⟨g, off + i / 8, none⟩ (.int .u8 (morb ((mrow (mof (l.take i)) i).getD (i / 8) 0) (i % 8)))) (.slice (some ⟨g, off, none⟩) (i / 8 + 1) cap) := by
  have hg1 : w.heap.size ≤ g := (h.own.lt g rfl).1
  have n1 : g ≠ w.heap.size + 1 := fun e => h.own.blk_ne h.b1 (by decide) (by rw [← e]; rfl)
  have n0 : g ≠ w.heap.size := fun e => h.own.blk_ne h.b0 (by decide) (by rw [← e]; rfl)
  refine ⟨by rw [Below.heap_setCell _ _ _ _ (by simpa using fun e => n1 e.symm)]; exact h.b1, by rw [Below.heap_setCell _ _ _ _ (by simpa using fun e => n0 e.symm)]; exact h.b0, ?_, h.bel.setCell hg1 _⟩
  have e : mof (l.take (i + 1)) = (mrow (mof (l.take i)) i).set (i / 8) (morb ((mrow (mof (l.take i)) i).getD (i / 8) 0) (i % 8)) := by rw [mof_take l hi, hb]; rfl
  rw [e, List.length_set, mrow_len _ _ (mof_take_len l (by omega)), List.map_set]
  exact h.own.stored (i / 8) _
theorem Of16I.drew {l : List Bool} {i : Nat} {w wr : World} {v : Value} (h : Of16I l i w wr v) : Of16I l i w wr.drew v := ⟨h.b1, h.b0, h.own.drewN 1, h.bel.trans (below_drewN _ _ 1)⟩
theorem of16_any (l : List Bool) (v : Value) (w : World) (hl : l.length ≤ 100000000) (h : Rd w 1 v l.length (l.map .bool)) : Calls Tryz.prog 79 #[v] w (MofP l w) := by
  obtain ⟨a, cap, rfl⟩ := h.form
  have HR := Aside.mk h
  clear h
  generalize hn : l.length = n at *
  have HN := Aside.mk hn
  clear hn
  go_enter Tryz.func79, Tryz.ntmps79
  go_wp2
  go_loopw [4] (fun iv wr => ∃ i : Nat, i ≤ n ∧ iv = .int .i64 (i : Int) ∧ Aside (∃ v, Of16I l i w wr v)) (fun iv _ => n - (intOf iv).toNat)
  case atStart =>
    refine ⟨0, by omega, rfl, ⟨.slice none 0 0, ?_, ?_, Own.nil _ _ _ _, ((Below.refl _ _).alloc (Nat.le_refl _) _).alloc (by simp) _⟩⟩
    · have := heap_alloc_new (w.alloc (.cells #[.int .i64 0, .slice none 0 0] 60)) (.cells #[.int .i64 (n : Int), .slice none 0 0] 60)
      rw [HN.out]
      simpa using this
    · rw [Below.heap_alloc _ _ _ (by simp)]; exact heap_alloc_new _ _
  case round =>
    obtain ⟨i, hi, rfl, hp⟩ := hrel
    obtain ⟨v', hI⟩ := hp.out
    clear hp
    obtain ⟨va, vc, rfl⟩ := hI.own.form
    have c10 := cell_blk (k := 0) hI.b1
    have c11 := cell_blk (k := 1) hI.b1
    have f11 := fun k => frozen_blk (k := k) hI.b1
    have hlt1 := lt_of_blk hI.b1
    simp at c10 c11
    have HI := Aside.mk hI
    clear hI
    by_cases hlt : i < n
    · have hil : i < l.length := by have := HN.out; omega
      have hml := mof_take_len l (i := i) (by omega)
      rw [hml] at c11 HI
      obtain ⟨g, off, cp, e, h1, h2, hcc⟩ := HR.out.some_ (by rw [List.length_map]; omega)
      simp only [Value.slice.injEq, true_and] at e
      obtain ⟨rfl, rfl⟩ := e
      have hcb : w.cell? ⟨g, off + i, none⟩ = some (.bool l[i]) := hcc i _ (by rw [List.getElem?_map, List.getElem?_eq_getElem hil]; rfl)
      have hbit := (HI.out.bel.cell (p := ⟨g, off + i, none⟩) (World.block_lt_of_cell? _ _ hcb)).trans hcb
      have HMT := Aside.mk (mof_take l hil)
      have hglt : g < w.heap.size := World.block_lt_of_cell? _ _ hcb
      have HX := Aside.mk (And.intro hml hglt)
      clear hcc hcb hml
      obtain ⟨bit, hbv⟩ : ∃ b, b = l[i] := ⟨_, rfl⟩
      rw [← hbv] at hbit
      have HBV := Aside.mk hbv.symm
      clear hbv
      have hs1 := HI.out.bel.size
      have hor : bits .or .u8 ((mrow (mof (l.take i)) i).getD (i / 8) 0) (2 ^ (i % 8) % 256) = morb ((mrow (mof (l.take i)) i).getD (i / 8) 0) (i % 8) := rfl
      by_cases h8 : i % 8 = 0
      · have e8 : ((i : Int) % 8 == 0) = true := by simp; omega
        have HO := Aside.mk (show Own wr w.heap.size 5 1 (.slice va ((i + 7) / 8) vc) ((i + 7) / 8) ((mof (l.take i)).map (.int .u8)) from by
          have := HI.out.own; rw [HX.out.1] at this; exact this)
        have HE8 := Aside.mk h8
        clear h8
        go_upto_region 7 with (at_builtin; refine wpList_app2 _ rfl _ _ 43 43 rfl w.heap.size 5 (.int .u8 0) 1 1 Tryz.underlying43 u8info rfl _ ((i + 7) / 8) ((mof (l.take i)).map (.int .u8)) rfl (HO.out.alloc _) _ 1 [.int .u8 0] rfl (src_one Tryz.underlying43 _ _ _ rfl rfl) (by unfold maxLen; omega) (by omega) (Nat.le_trans hs1 (by simp)) ?_)
        intro v5 w5 hA
        obtain ⟨a5, c5, rfl⟩ := hA.own.form
        have K5 := Aside.mk (show Kept (fun b => (Value.slice va ((i + 7) / 8) vc).ownBlock = some b) wr w5 from (Kept.of_below (below_new wr _)).trans ((Kept.of_grown hA.grown).mono (fun b e _ => e.symm)) (fun _ e _ => e))
        have hn5 := HO.out.blk_ne HI.out.b1 (by decide)
        have g1 := (K5.out.block _ hlt1 hn5).trans HI.out.b1
        have hbit5 := K5.out.cell hbit (fun e => by have h3 : w.heap.size ≤ g := (HO.out.lt _ e).1; omega)
        have HM := Aside.mk (of16_more HI.out hil HE8.out hA)
        clear c10 c11 f11 hbit hA hn5
        have c10 := cell_blk (k := 0) g1
        have c11 := cell_blk (k := 1) g1
        have f11 := fun k => frozen_blk (k := k) g1
        have hlt5 := lt_of_blk g1
        simp at c10 c11
        clear g1
        have hge : i / 8 + 1 = (i + 7) / 8 + 1 := by have := HE8.out; omega
        have hgne : g ≠ w.heap.size + 1 := by omega
        cases bit with
        | false =>
          have HD := Aside.mk (of16_no HM.out hil HBV.out)
          go_wp2_with fail
          exact ⟨⟨i + 1, by omega, by simp, ⟨_, HD.out⟩⟩, by simp [intOf]; omega⟩
        | true =>
          go_wp2_with fail
          clear c10 c11 f11 hbit5
          generalize w5.setCell ⟨w.heap.size + 1, 1, none⟩ (.slice a5 ((i + 7) / 8 + 1) c5) = w6 at *
          obtain ⟨g8, o8, p8, ev8, hg8, hlt8, hcp8, hcp9, hcells, hfz⟩ := HM.out.own.some_ (by omega)
          have hnl : i / 8 < (mrow (mof (l.take i)) i).length := by rw [mrow_len _ _ (mof_take_len l (by omega))]; omega
          have hx := hcells (i / 8) (.int .u8 ((mrow (mof (l.take i)) i).getD (i / 8) 0)) (by simp [List.getElem?_eq_getElem hnl])
          have hfx := hfz (o8 + i / 8)
          have HY := Aside.mk (of16_yes (by have := HM.out; rw [ev8] at this; exact this) hil HBV.out)
          have c10 := cell_blk (k := 0) HM.out.b1
          have c11 := cell_blk (k := 1) HM.out.b1
          have f11 := fun k => frozen_blk (k := k) HM.out.b1
          simp at c10 c11
          rw [ev8] at c11
          clear hcells hfz
          generalize (mrow (mof (l.take i)) i).getD (i / 8) 0 = x at *
          have hn1 : g8 ≠ w.heap.size + 1 := fun e => HM.out.own.blk_ne HM.out.b1 (by decide) (by rw [ev8, ← e]; rfl)
          go_region
          go_wp2_with fail
          exact ⟨⟨i + 1, by omega, by simp, ⟨_, HY.out.drew⟩⟩, by simp [intOf]; omega⟩
      · have e8 : ((i : Int) % 8 == 0) = false := by simp; omega
        have HM := Aside.mk (of16_same HI.out hil h8)
        cases bit with
        | false =>
          have HD := Aside.mk (of16_no HM.out hil HBV.out)
          go_wp2_with fail
          exact ⟨⟨i + 1, by omega, by simp, ⟨_, HD.out⟩⟩, by simp [intOf]; omega⟩
        | true =>
          obtain ⟨g8, o8, p8, ev8, hg8, hlt8, hcp8, hcp9, hcells, hfz⟩ := HM.out.own.some_ (by omega)
          have hnl : i / 8 < (mrow (mof (l.take i)) i).length := by rw [mrow_len _ _ (mof_take_len l (by omega))]; omega
          have hx := hcells (i / 8) (.int .u8 ((mrow (mof (l.take i)) i).getD (i / 8) 0)) (by simp [List.getElem?_eq_getElem hnl])
          have hfx := hfz (o8 + i / 8)
          have HY := Aside.mk (of16_yes (by have := HM.out; rw [ev8] at this; exact this) hil HBV.out)
          rw [ev8] at c11
          clear hcells hfz
          generalize (mrow (mof (l.take i)) i).getD (i / 8) 0 = x at *
          have hn1 : g8 ≠ w.heap.size + 1 := fun e => HM.out.own.blk_ne HM.out.b1 (by decide) (by rw [ev8, ← e]; rfl)
          go_wp2_with fail
          go_region
          go_wp2_with fail
          exact ⟨⟨i + 1, by omega, by simp, ⟨_, HY.out.drew⟩⟩, by simp [intOf]; omega⟩
    · obtain rfl : i = n := by omega
      have c00 := cell_blk (k := 0) HI.out.b0
      have c01 := cell_blk (k := 1) HI.out.b0
      have f00 := fun k => frozen_blk (k := k) HI.out.b0
      simp at c00 c01
      have e1 : l.take i = l := by rw [← HN.out]; simp
      have HI2 := HI.out
      rw [e1] at c11 HI2
      have HI3 := Aside.mk HI2
      have HN2 := HN.out
      rw [HN2] at c10
      clear HI HI2 e1 HN2
      go_wp2_with fail
      refine bodyPost_ret (v := .agg #[.int .i64 (i : Int), .slice va (mof l).length vc]) (by simp [results, Tryz.results79, go_sem, c00, c01]) rfl ?_
      refine ⟨_, by rw [HN.out], ?_, ?_⟩
      · have h9 := HI3.out.own
        rw [show l.take i = l by rw [← HN.out]; simp] at h9
        have h0 := h9.blk_ne HI3.out.b0 (by decide)
        exact (h9.set_other (a := ⟨w.heap.size, 0, none⟩) h0 (.int .i64 (i : Int))).set_other (a := ⟨w.heap.size, 1, none⟩) h0 (.slice va (mof l).length vc)
      · exact (HI3.out.bel.setCell (Nat.le_refl _) _).setCell (Nat.le_refl _) _
end Go.Proofs.YtmhjjhaipcgbiaaGreat


namespace Go.Proofs.YtmhjjhaipcgbiaaGreat
open Go.RowKit
set_option linter.unusedVariables false
set_option linter.unusedSimpArgs false
set_option maxRecDepth 100000
set_option maxHeartbeats 1000000
structure SL where
  a : Option Addr
  c : Nat
def colV (c : Col) (B D E W : SL) : Value := .agg #[.int .i64 c.k, .int .i64 c.s, .int .i64 c.n, .int .i64 c.m, .slice B.a c.bits.length B.c, .slice D.a c.data.length D.c, .slice E.a c.ends.length E.c, .slice W.a c.words.length W.c]
def RdWs (w : World) (vals : List Value) (ws : List (List Int)) : Prop :=
  vals.length = ws.length ∧ ∀ (i : Nat) t, ws[i]? = some t → ∃ a cap, vals[i]? = some (.slice a t.length cap) ∧ Rd w 1 (.slice a t.length cap) t.length (t.map (.int .u8))
structure RdC (w : World) (c : Col) (B D E W : SL) (vals : List Value) : Prop where
  bits : Rd w 1 (.slice B.a c.bits.length B.c) c.bits.length (c.bits.map (.int .u8))
  data : Rd w 1 (.slice D.a c.data.length D.c) c.data.length (c.data.map (.int .u8))
  ends : Rd w 1 (.slice E.a c.ends.length E.c) c.ends.length (c.ends.map (.int .i64))
  words : Rd w 1 (.slice W.a c.words.length W.c) c.words.length vals
  each : RdWs w vals c.words
theorem RdWs.below {w w' : World} {vals : List Value} {ws : List (List Int)} (h : RdWs w vals ws) (hb : Below w.heap.size w w') : RdWs w' vals ws :=
  ⟨h.1, fun i t hi => by obtain ⟨a, cap, h1, h2⟩ := h.2 i t hi; exact ⟨a, cap, h1, h2.below hb⟩⟩
theorem RdC.below {w w' : World} {c : Col} {B D E W : SL} {vals : List Value} (h : RdC w c B D E W vals) (hb : Below w.heap.size w w') : RdC w' c B D E W vals :=
  ⟨h.bits.below hb, h.data.below hb, h.ends.below hb, h.words.below hb, h.each.below hb⟩
def IsI64 (x : Int) : Prop := -9223372036854775808 ≤ x ∧ x ≤ 9223372036854775807
structure COK (c : Col) : Prop where
  bits : IsBytes c.bits
  data : IsBytes c.data
  ends : ∀ x ∈ c.ends, IsI64 x
  words : ∀ t ∈ c.words, IsBytes t ∧ t.length ≤ 100000000
  lb : c.bits.length ≤ 100000000
  ld : c.data.length ≤ 100000000
  le : c.ends.length ≤ 100000000
  lw : c.words.length ≤ 100000000
  k : IsI64 c.k
  s : IsI64 c.s
  n : IsI64 c.n
  m : IsI64 c.m
theorem rd_get {w : World} {v : Value} {n : Nat} {xs : List Int} {K : IntKind} (h : Rd w 1 v n (xs.map (.int K))) (i : Nat) (hi : i < xs.length) : ∃ b off cap, v = .slice (some ⟨b, off, none⟩) n cap ∧ n ≤ cap ∧ cap ≤ 9223372036854775807 ∧ w.cell? ⟨b, off + i, none⟩ = some (.int K (xs.getD i 0)) := by
  obtain ⟨b, off, cap, rfl, h1, h2, hc⟩ := h.some_ (by rw [List.length_map]; omega)
  refine ⟨b, off, cap, rfl, h1, h2, hc i _ ?_⟩
  rw [List.getElem?_map, List.getElem?_eq_getElem hi, List.getD_eq_getElem?_getD, List.getElem?_eq_getElem hi]
  rfl
theorem box8 {w : World} {b : Nat} {x0 x1 x2 x3 x4 x5 x6 x7 : Value} {T : TypeId} (h : w.heap[b]? = some (.cells #[x0, x1, x2, x3, x4, x5, x6, x7] T (0, 0))) :
    w.cell? ⟨b, 0, none⟩ = some x0 ∧ w.cell? ⟨b, 1, none⟩ = some x1 ∧ w.cell? ⟨b, 2, none⟩ = some x2 ∧ w.cell? ⟨b, 3, none⟩ = some x3 ∧ w.cell? ⟨b, 4, none⟩ = some x4 ∧ w.cell? ⟨b, 5, none⟩ = some x5 ∧ w.cell? ⟨b, 6, none⟩ = some x6 ∧ w.cell? ⟨b, 7, none⟩ = some x7 := by
  refine ⟨?_, ?_, ?_, ?_, ?_, ?_, ?_, ?_⟩ <;> (rw [cell_blk h]; rfl)
def BoolP (r : Bool) (w : World) (e : Ending) (w' : World) : Prop := e = .returned (.bool r) ∧ Below w.heap.size w w'
def IntP (r : Int) (w : World) (e : Ending) (w' : World) : Prop := e = .returned (.int .i64 r) ∧ Below w.heap.size w w'
def U64P (r : Nat) (w : World) (e : Ending) (w' : World) : Prop := e = .returned (.int .u64 (r : Int)) ∧ Below w.heap.size w w'
theorem shr_bit (x : Int) (h0 : 0 ≤ x) (h1 : x < 256) (k : Nat) : (bits .and .u8 (x / 2 ^ k) 1 == 1) = x.toNat.testBit k := by
  obtain ⟨n, rfl⟩ := Int.eq_ofNat_of_zero_le h0
  have e : ((n : Int) / 2 ^ k) = ((n / 2 ^ k : Nat) : Int) := by simp
  rw [e, show (1 : Int) = ((1 : Nat) : Int) from rfl, u8_and_nat _ 1 (Nat.lt_of_le_of_lt (Nat.div_le_self _ _) (by omega)) (by decide)]
  rw [Int.toNat_natCast, Nat.testBit_eq_decide_div_mod_eq, Nat.and_one_is_mod]
  rw [Bool.eq_iff_iff]
  simp
  omega
theorem null_any (c : Col) (B D E W : SL) (i : Nat) (hi : i / 8 < c.bits.length) (hb : IsBytes c.bits) (hl : c.bits.length ≤ 100000000) (w : World) (h : Rd w 1 (.slice B.a c.bits.length B.c) c.bits.length (c.bits.map (.int .u8))) :
    Calls Tryz.prog 129 #[colV c B D E W, .int .i64 (i : Int)] w (BoolP (nullB c.bits i) w) := by
  obtain ⟨ba, bc⟩ := B
  obtain ⟨g, off, cap, hs, hlc, hcap, hc⟩ := rd_get h (i / 8) hi
  simp only [Value.slice.injEq, true_and] at hs
  obtain ⟨rfl, rfl⟩ := hs
  have hv := getD_byte hb (i / 8)
  have hbn := below_new w (.cells #[.int .i64 c.k, .int .i64 c.s, .int .i64 c.n, .int .i64 c.m, .slice (some ⟨g, off, none⟩) c.bits.length bc, .slice D.a c.data.length D.c, .slice E.a c.ends.length E.c, .slice W.a c.words.length W.c] 63)
  have hc2 := (hbn.cell (p := ⟨g, off + i / 8, none⟩) (World.block_lt_of_cell? _ _ hc)).trans hc
  have r := Aside.mk (show _ = nullB c.bits i from shr_bit _ hv.1 hv.2 (i % 8))
  have HB := Aside.mk hbn
  clear h hbn hc
  generalize c.bits.getD (i / 8) 0 = y at *
  dsimp only [colV]
  go_enter Tryz.func129, Tryz.ntmps129
  go_wp2
  go_ret
  exact ⟨ret_bool r.out, HB.out⟩
theorem cahead_any (c : Col) (B D E W : SL) (i : Nat) (hi : i ≤ c.ends.length) (hl : c.ends.length ≤ 100000000) (w : World) (h : Rd w 1 (.slice E.a c.ends.length E.c) c.ends.length (c.ends.map (.int .i64))) :
    Calls Tryz.prog 87 #[colV c B D E W, .int .i64 (i : Int)] w (IntP (aheadI c.ends i) w) := by
  have hb0 := Aside.mk (below_new w (.cells #[.int .i64 c.k, .int .i64 c.s, .int .i64 c.n, .int .i64 c.m, .slice B.a c.bits.length B.c, .slice D.a c.data.length D.c, .slice E.a c.ends.length E.c, .slice W.a c.words.length W.c] 63))
  cases i with
  | zero =>
    dsimp only [colV]
    go_enter Tryz.func87, Tryz.ntmps87
    go_wp2
    go_ret
    exact ⟨rfl, hb0.out⟩
  | succ i =>
    obtain ⟨ea, ec⟩ := E
    obtain ⟨g, off, cap, hs, hlc, hcap, hc⟩ := rd_get h i (by omega)
    simp only [Value.slice.injEq, true_and] at hs
    obtain ⟨rfl, rfl⟩ := hs
    have hbn := below_new w (.cells #[.int .i64 c.k, .int .i64 c.s, .int .i64 c.n, .int .i64 c.m, .slice B.a c.bits.length B.c, .slice D.a c.data.length D.c, .slice (some ⟨g, off, none⟩) c.ends.length ec, .slice W.a c.words.length W.c] 63)
    have hc2 := (hbn.cell (p := ⟨g, off + i, none⟩) (World.block_lt_of_cell? _ _ hc)).trans hc
    have r := Aside.mk (show aheadI c.ends (i + 1) = c.ends.getD i 0 from by rw [aheadI, if_neg (by omega)]; rfl)
    clear h hbn hc
    generalize c.ends.getD i 0 = y at *
    dsimp only [colV]
    have hne : (((i + 1 : Nat) : Int) == 0) = false := by simp; omega
    go_enter Tryz.func87, Tryz.ntmps87
    go_wp2
    go_ret
    exact ⟨ret_int r.out.symm, hb0.out⟩
theorem tmod_nat (a b : Nat) : (a : Int).tmod (b : Int) = ((a % b : Nat) : Int) := by
  rw [Int.tmod_eq_emod_of_nonneg (by omega)]; simp
theorem tdiv_nat (a b : Nat) : (a : Int).tdiv (b : Int) = ((a / b : Nat) : Int) := by
  rw [Int.tdiv_eq_ediv_of_nonneg (by omega)]; simp
theorem empty_len {α : Type} (l : List α) : ((l.length : Int) == 0) = l.isEmpty := by cases l <;> simp; omega
theorem sized_1 (c : Col) (B D E X : SL) (hl : c.data.length ≤ 100000000) (w : World) :
    Calls Tryz.prog 222 #[.agg #[.int .i64 1], colV c B D E X] w (BoolP (sizedB 1 c) w) := by
  have hb0 := Aside.mk (((below_new w (.cells #[.int .i64 1] 165)).trans ((below_new _ (.cells #[.int .i64 c.k, .int .i64 c.s, .int .i64 c.n, .int .i64 c.m, .slice B.a c.bits.length B.c, .slice D.a c.data.length D.c, .slice E.a c.ends.length E.c, .slice X.a c.words.length X.c] 63)).mono (by simp))))
  dsimp only [colV]
  by_cases h1 : (c.data.length : Int) % 1 = 0
  · have d1 : ((c.data.length : Int) % 1 == 0) = true := by simp only [h1]; rfl
    have g1 : c.data.length % 1 = 0 := by omega
    by_cases h2 : ((c.data.length : Int) / 1) = c.n
    · have d2 : ((c.data.length : Int) == c.n) = true := by simpa using h2
      have r := Aside.mk (show ((c.ends.length : Int) == 0) = sizedB 1 c by rw [empty_len]; unfold sizedB; simp [g1]; intro _; omega)
      go_enter Tryz.func222, Tryz.ntmps222
      go_wp2
      go_quiet (fail)
      go_wp2
      go_ret
      exact ⟨ret_bool r.out, hb0.out.trans (below_drewN _ _ _)⟩
    · have d2 : ((c.data.length : Int) == c.n) = false := by simpa using h2
      have r := Aside.mk (show false = sizedB 1 c by unfold sizedB; simp [g1]; omega)
      go_enter Tryz.func222, Tryz.ntmps222
      go_wp2
      go_quiet (fail)
      go_wp2
      go_ret
      exact ⟨ret_bool r.out, hb0.out.trans (below_drewN _ _ _)⟩
  · exact absurd (Int.emod_one _) h1
theorem sized_2 (c : Col) (B D E X : SL) (hl : c.data.length ≤ 100000000) (w : World) :
    Calls Tryz.prog 222 #[.agg #[.int .i64 2], colV c B D E X] w (BoolP (sizedB 2 c) w) := by
  have hb0 := Aside.mk (((below_new w (.cells #[.int .i64 2] 165)).trans ((below_new _ (.cells #[.int .i64 c.k, .int .i64 c.s, .int .i64 c.n, .int .i64 c.m, .slice B.a c.bits.length B.c, .slice D.a c.data.length D.c, .slice E.a c.ends.length E.c, .slice X.a c.words.length X.c] 63)).mono (by simp))))
  dsimp only [colV]
  by_cases h1 : (c.data.length : Int) % 2 = 0
  · have d1 : ((c.data.length : Int) % 2 == 0) = true := by simp only [h1]; rfl
    have g1 : c.data.length % 2 = 0 := by omega
    by_cases h2 : ((c.data.length : Int) / 2) = c.n
    · have d2 : ((c.data.length : Int) / 2 == c.n) = true := by rw [h2]; simp
      have r := Aside.mk (show ((c.ends.length : Int) == 0) = sizedB 2 c by rw [empty_len]; unfold sizedB; simp [g1]; intro _; omega)
      go_enter Tryz.func222, Tryz.ntmps222
      go_wp2
      go_quiet (fail)
      go_wp2
      go_ret
      exact ⟨ret_bool r.out, hb0.out.trans (below_drewN _ _ _)⟩
    · have d2 : ((c.data.length : Int) / 2 == c.n) = false := by simpa using h2
      have r := Aside.mk (show false = sizedB 2 c by unfold sizedB; simp [g1]; omega)
      go_enter Tryz.func222, Tryz.ntmps222
      go_wp2
      go_quiet (fail)
      go_wp2
      go_ret
      exact ⟨ret_bool r.out, hb0.out.trans (below_drewN _ _ _)⟩
  · have d1 : ((c.data.length : Int) % 2 == 0) = false := by simpa using h1
    have r := Aside.mk (show false = sizedB 2 c by unfold sizedB; simp; omega)
    go_enter Tryz.func222, Tryz.ntmps222
    go_wp2
    go_quiet (fail)
    go_wp2
    go_ret
    exact ⟨ret_bool r.out, hb0.out.trans (below_drewN _ _ _)⟩
theorem sized_4 (c : Col) (B D E X : SL) (hl : c.data.length ≤ 100000000) (w : World) :
    Calls Tryz.prog 222 #[.agg #[.int .i64 4], colV c B D E X] w (BoolP (sizedB 4 c) w) := by
  have hb0 := Aside.mk (((below_new w (.cells #[.int .i64 4] 165)).trans ((below_new _ (.cells #[.int .i64 c.k, .int .i64 c.s, .int .i64 c.n, .int .i64 c.m, .slice B.a c.bits.length B.c, .slice D.a c.data.length D.c, .slice E.a c.ends.length E.c, .slice X.a c.words.length X.c] 63)).mono (by simp))))
  dsimp only [colV]
  by_cases h1 : (c.data.length : Int) % 4 = 0
  · have d1 : ((c.data.length : Int) % 4 == 0) = true := by simp only [h1]; rfl
    have g1 : c.data.length % 4 = 0 := by omega
    by_cases h2 : ((c.data.length : Int) / 4) = c.n
    · have d2 : ((c.data.length : Int) / 4 == c.n) = true := by rw [h2]; simp
      have r := Aside.mk (show ((c.ends.length : Int) == 0) = sizedB 4 c by rw [empty_len]; unfold sizedB; simp [g1]; intro _; omega)
      go_enter Tryz.func222, Tryz.ntmps222
      go_wp2
      go_quiet (fail)
      go_wp2
      go_ret
      exact ⟨ret_bool r.out, hb0.out.trans (below_drewN _ _ _)⟩
    · have d2 : ((c.data.length : Int) / 4 == c.n) = false := by simpa using h2
      have r := Aside.mk (show false = sizedB 4 c by unfold sizedB; simp [g1]; omega)
      go_enter Tryz.func222, Tryz.ntmps222
      go_wp2
      go_quiet (fail)
      go_wp2
      go_ret
      exact ⟨ret_bool r.out, hb0.out.trans (below_drewN _ _ _)⟩
  · have d1 : ((c.data.length : Int) % 4 == 0) = false := by simpa using h1
    have r := Aside.mk (show false = sizedB 4 c by unfold sizedB; simp; omega)
    go_enter Tryz.func222, Tryz.ntmps222
    go_wp2
    go_quiet (fail)
    go_wp2
    go_ret
    exact ⟨ret_bool r.out, hb0.out.trans (below_drewN _ _ _)⟩
theorem sized_8 (c : Col) (B D E X : SL) (hl : c.data.length ≤ 100000000) (w : World) :
    Calls Tryz.prog 222 #[.agg #[.int .i64 8], colV c B D E X] w (BoolP (sizedB 8 c) w) := by
  have hb0 := Aside.mk (((below_new w (.cells #[.int .i64 8] 165)).trans ((below_new _ (.cells #[.int .i64 c.k, .int .i64 c.s, .int .i64 c.n, .int .i64 c.m, .slice B.a c.bits.length B.c, .slice D.a c.data.length D.c, .slice E.a c.ends.length E.c, .slice X.a c.words.length X.c] 63)).mono (by simp))))
  dsimp only [colV]
  by_cases h1 : (c.data.length : Int) % 8 = 0
  · have d1 : ((c.data.length : Int) % 8 == 0) = true := by simp only [h1]; rfl
    have g1 : c.data.length % 8 = 0 := by omega
    by_cases h2 : ((c.data.length : Int) / 8) = c.n
    · have d2 : ((c.data.length : Int) / 8 == c.n) = true := by rw [h2]; simp
      have r := Aside.mk (show ((c.ends.length : Int) == 0) = sizedB 8 c by rw [empty_len]; unfold sizedB; simp [g1]; intro _; omega)
      go_enter Tryz.func222, Tryz.ntmps222
      go_wp2
      go_quiet (fail)
      go_wp2
      go_ret
      exact ⟨ret_bool r.out, hb0.out.trans (below_drewN _ _ _)⟩
    · have d2 : ((c.data.length : Int) / 8 == c.n) = false := by simpa using h2
      have r := Aside.mk (show false = sizedB 8 c by unfold sizedB; simp [g1]; omega)
      go_enter Tryz.func222, Tryz.ntmps222
      go_wp2
      go_quiet (fail)
      go_wp2
      go_ret
      exact ⟨ret_bool r.out, hb0.out.trans (below_drewN _ _ _)⟩
  · have d1 : ((c.data.length : Int) % 8 == 0) = false := by simpa using h1
    have r := Aside.mk (show false = sizedB 8 c by unfold sizedB; simp; omega)
    go_enter Tryz.func222, Tryz.ntmps222
    go_wp2
    go_quiet (fail)
    go_wp2
    go_ret
    exact ⟨ret_bool r.out, hb0.out.trans (below_drewN _ _ _)⟩
theorem sized_any (W : Nat) (hW : W = 1 ∨ W = 2 ∨ W = 4 ∨ W = 8) (c : Col) (B D E X : SL) (hl : c.data.length ≤ 100000000) (w : World) :
    Calls Tryz.prog 222 #[.agg #[.int .i64 (W : Int)], colV c B D E X] w (BoolP (sizedB W c) w) := by
  rcases hW with rfl | rfl | rfl | rfl
  · exact sized_1 c B D E X hl w
  · exact sized_2 c B D E X hl w
  · exact sized_4 c B D E X hl w
  · exact sized_8 c B D E X hl w
end Go.Proofs.YtmhjjhaipcgbiaaGreat


namespace Go.Proofs.YtmhjjhaipcgbiaaGreat
open Go.RowKit
set_option linter.unusedVariables false
set_option linter.unusedSimpArgs false
set_option maxRecDepth 100000
set_option maxHeartbeats 1000000
theorem or_shift (x n : Nat) (d : Nat) (hx : x < 256 ^ n) : x ||| (d * 256 ^ n) = x + d * 256 ^ n := by
  have e : 256 ^ n = 2 ^ (8 * n) := by rw [show 256 = 2 ^ 8 from rfl, Nat.pow_mul]
  rw [e] at hx ⊢
  rw [Nat.mul_comm, Nat.or_comm, ← Nat.two_pow_add_eq_or_of_lt hx]
  omega
theorem wrap_u64 (n : Nat) (h : n < 18446744073709551616) : IntKind.u64.wrap (n : Int) = (n : Int) := by
  have e : IntKind.u64.wrap (n : Int) = (n : Int) % 18446744073709551616 := rfl
  rw [e]; omega
theorem word_next (x n : Nat) (y : Int) (hx : x < 256 ^ n) (h0 : 0 ≤ y) (h1 : y < 256) (hn : n ≤ 7) : bits .or .u64 (x : Int) (IntKind.u64.wrap (y * 2 ^ (8 * n))) = ((x + y.toNat * 256 ^ n : Nat) : Int) := by
  obtain ⟨d, rfl⟩ := Int.eq_ofNat_of_zero_le h0
  have e : 256 ^ n = 2 ^ (8 * n) := by rw [show 256 = 2 ^ 8 from rfl, Nat.pow_mul]
  have e2 : (d : Int) * 2 ^ (8 * n) = ((d * 256 ^ n : Nat) : Int) := by rw [e]; simp
  have hp : 256 ^ n ≤ 256 ^ 7 := Nat.pow_le_pow_right (by decide) hn
  have hd : d * 256 ^ n ≤ 255 * 256 ^ n := Nat.mul_le_mul_right _ (by omega)
  have h7 : (256 : Nat) ^ 7 = 72057594037927936 := by decide
  have hlt : d * 256 ^ n < 18446744073709551616 := by omega
  rw [e2, wrap_u64 _ hlt, u64_or_nat _ _ (by omega) hlt, or_shift _ _ _ hx, Int.toNat_natCast]
theorem fword_1 (c : Col) (B D E X : SL) (i : Nat) (hi : i * 1 + 1 ≤ c.data.length) (hb : IsBytes c.data) (hl : c.data.length ≤ 100000000) (w : World) (h : Rd w 1 (.slice D.a c.data.length D.c) c.data.length (c.data.map (.int .u8))) :
    Calls Tryz.prog 88 #[.agg #[.int .i64 1], colV c B D E X, .int .i64 (i : Int)] w (U64P (wordAt c.data (i * 1) 1) w) := by
  obtain ⟨da, dc⟩ := D
  obtain ⟨g, off, cap, hs, hlc, hcap, _⟩ := rd_get h 0 (by omega)
  simp only [Value.slice.injEq, true_and] at hs
  obtain ⟨rfl, rfl⟩ := hs
  have HR := Aside.mk h
  have HB := Aside.mk hb
  have hbn := Aside.mk ((below_new w (.cells #[.int .i64 1] 165)).trans ((below_new _ (.cells #[.int .i64 c.k, .int .i64 c.s, .int .i64 c.n, .int .i64 c.m, .slice B.a c.bits.length B.c, .slice (some ⟨g, off, none⟩) c.data.length dc, .slice E.a c.ends.length E.c, .slice X.a c.words.length X.c] 63)).mono (by simp)))
  clear h hb
  dsimp only [colV]
  go_enter Tryz.func88, Tryz.ntmps88
  go_wp2
  go_loopw [7, 11] (fun xv kv wr => ∃ k : Nat, k ≤ 1 ∧ kv = .int .i64 (k : Int) ∧ xv = .int .u64 (wordAt c.data (i * 1) k : Int) ∧ wr = ((w.alloc (.cells #[.int .i64 1] 165)).alloc (.cells #[.int .i64 c.k, .int .i64 c.s, .int .i64 c.n, .int .i64 c.m, .slice B.a c.bits.length B.c, .slice (some ⟨g, off, none⟩) c.data.length dc, .slice E.a c.ends.length E.c, .slice X.a c.words.length X.c] 63))) (fun xv kv _ => 1 - (intOf kv).toNat)
  case atStart => exact ⟨0, by omega, rfl, rfl, rfl⟩
  case round =>
    obtain ⟨k, hk, rfl, rfl, rfl⟩ := hrel
    by_cases hlt : k < 1
    · obtain ⟨g', off', cap', hs', _, _, hc⟩ := rd_get HR.out (i * 1 + k) (by omega)
      simp only [Value.slice.injEq, Option.some.injEq, Addr.mk.injEq, and_true, true_and] at hs'
      obtain ⟨⟨rfl, rfl⟩, rfl⟩ := hs'
      have hc2 := (hbn.out.cell (p := ⟨g, off + (i * 1 + k), none⟩) (World.block_lt_of_cell? _ _ hc)).trans hc
      have hv := getD_byte HB.out (i * 1 + k)
      have hw := wordAt_lt HB.out (i * 1) k
      have HS := Aside.mk (show _ = ((wordAt c.data (i * 1) (k + 1) : Nat) : Int) from word_next _ k _ hw hv.1 hv.2 (by omega))
      generalize hx : wordAt c.data (i * 1) (k + 1) = z at *
      have HX := Aside.mk hx
      clear hx
      generalize wordAt c.data (i * 1) k = x at *
      generalize c.data.getD (i * 1 + k) 0 = y at *
      clear hc
      simp only [Nat.mul_one] at hc2
      go_wp2
      refine ⟨⟨k + 1, by omega, by simp, ?_, trivial⟩, by simp [intOf]; omega⟩
      rw [HX.out, HS.out]
    · obtain rfl : k = 1 := by omega
      go_wp2
      go_ret
      exact ⟨rfl, hbn.out⟩
theorem fword_2 (c : Col) (B D E X : SL) (i : Nat) (hi : i * 2 + 2 ≤ c.data.length) (hb : IsBytes c.data) (hl : c.data.length ≤ 100000000) (w : World) (h : Rd w 1 (.slice D.a c.data.length D.c) c.data.length (c.data.map (.int .u8))) :
    Calls Tryz.prog 88 #[.agg #[.int .i64 2], colV c B D E X, .int .i64 (i : Int)] w (U64P (wordAt c.data (i * 2) 2) w) := by
  obtain ⟨da, dc⟩ := D
  obtain ⟨g, off, cap, hs, hlc, hcap, _⟩ := rd_get h 0 (by omega)
  simp only [Value.slice.injEq, true_and] at hs
  obtain ⟨rfl, rfl⟩ := hs
  have HR := Aside.mk h
  have HB := Aside.mk hb
  have hbn := Aside.mk ((below_new w (.cells #[.int .i64 2] 165)).trans ((below_new _ (.cells #[.int .i64 c.k, .int .i64 c.s, .int .i64 c.n, .int .i64 c.m, .slice B.a c.bits.length B.c, .slice (some ⟨g, off, none⟩) c.data.length dc, .slice E.a c.ends.length E.c, .slice X.a c.words.length X.c] 63)).mono (by simp)))
  clear h hb
  dsimp only [colV]
  go_enter Tryz.func88, Tryz.ntmps88
  go_wp2
  go_loopw [7, 11] (fun xv kv wr => ∃ k : Nat, k ≤ 2 ∧ kv = .int .i64 (k : Int) ∧ xv = .int .u64 (wordAt c.data (i * 2) k : Int) ∧ wr = ((w.alloc (.cells #[.int .i64 2] 165)).alloc (.cells #[.int .i64 c.k, .int .i64 c.s, .int .i64 c.n, .int .i64 c.m, .slice B.a c.bits.length B.c, .slice (some ⟨g, off, none⟩) c.data.length dc, .slice E.a c.ends.length E.c, .slice X.a c.words.length X.c] 63))) (fun xv kv _ => 2 - (intOf kv).toNat)
  case atStart => exact ⟨0, by omega, rfl, rfl, rfl⟩
  case round =>
    obtain ⟨k, hk, rfl, rfl, rfl⟩ := hrel
    by_cases hlt : k < 2
    · obtain ⟨g', off', cap', hs', _, _, hc⟩ := rd_get HR.out (i * 2 + k) (by omega)
      simp only [Value.slice.injEq, Option.some.injEq, Addr.mk.injEq, and_true, true_and] at hs'
      obtain ⟨⟨rfl, rfl⟩, rfl⟩ := hs'
      have hc2 := (hbn.out.cell (p := ⟨g, off + (i * 2 + k), none⟩) (World.block_lt_of_cell? _ _ hc)).trans hc
      have hv := getD_byte HB.out (i * 2 + k)
      have hw := wordAt_lt HB.out (i * 2) k
      have HS := Aside.mk (show _ = ((wordAt c.data (i * 2) (k + 1) : Nat) : Int) from word_next _ k _ hw hv.1 hv.2 (by omega))
      generalize hx : wordAt c.data (i * 2) (k + 1) = z at *
      have HX := Aside.mk hx
      clear hx
      generalize wordAt c.data (i * 2) k = x at *
      generalize c.data.getD (i * 2 + k) 0 = y at *
      clear hc
      go_wp2
      refine ⟨⟨k + 1, by omega, by simp, ?_, trivial⟩, by simp [intOf]; omega⟩
      rw [HX.out, HS.out]
    · obtain rfl : k = 2 := by omega
      go_wp2
      go_ret
      exact ⟨rfl, hbn.out⟩
theorem fword_4 (c : Col) (B D E X : SL) (i : Nat) (hi : i * 4 + 4 ≤ c.data.length) (hb : IsBytes c.data) (hl : c.data.length ≤ 100000000) (w : World) (h : Rd w 1 (.slice D.a c.data.length D.c) c.data.length (c.data.map (.int .u8))) :
    Calls Tryz.prog 88 #[.agg #[.int .i64 4], colV c B D E X, .int .i64 (i : Int)] w (U64P (wordAt c.data (i * 4) 4) w) := by
  obtain ⟨da, dc⟩ := D
  obtain ⟨g, off, cap, hs, hlc, hcap, _⟩ := rd_get h 0 (by omega)
  simp only [Value.slice.injEq, true_and] at hs
  obtain ⟨rfl, rfl⟩ := hs
  have HR := Aside.mk h
  have HB := Aside.mk hb
  have hbn := Aside.mk ((below_new w (.cells #[.int .i64 4] 165)).trans ((below_new _ (.cells #[.int .i64 c.k, .int .i64 c.s, .int .i64 c.n, .int .i64 c.m, .slice B.a c.bits.length B.c, .slice (some ⟨g, off, none⟩) c.data.length dc, .slice E.a c.ends.length E.c, .slice X.a c.words.length X.c] 63)).mono (by simp)))
  clear h hb
  dsimp only [colV]
  go_enter Tryz.func88, Tryz.ntmps88
  go_wp2
  go_loopw [7, 11] (fun xv kv wr => ∃ k : Nat, k ≤ 4 ∧ kv = .int .i64 (k : Int) ∧ xv = .int .u64 (wordAt c.data (i * 4) k : Int) ∧ wr = ((w.alloc (.cells #[.int .i64 4] 165)).alloc (.cells #[.int .i64 c.k, .int .i64 c.s, .int .i64 c.n, .int .i64 c.m, .slice B.a c.bits.length B.c, .slice (some ⟨g, off, none⟩) c.data.length dc, .slice E.a c.ends.length E.c, .slice X.a c.words.length X.c] 63))) (fun xv kv _ => 4 - (intOf kv).toNat)
  case atStart => exact ⟨0, by omega, rfl, rfl, rfl⟩
  case round =>
    obtain ⟨k, hk, rfl, rfl, rfl⟩ := hrel
    by_cases hlt : k < 4
    · obtain ⟨g', off', cap', hs', _, _, hc⟩ := rd_get HR.out (i * 4 + k) (by omega)
      simp only [Value.slice.injEq, Option.some.injEq, Addr.mk.injEq, and_true, true_and] at hs'
      obtain ⟨⟨rfl, rfl⟩, rfl⟩ := hs'
      have hc2 := (hbn.out.cell (p := ⟨g, off + (i * 4 + k), none⟩) (World.block_lt_of_cell? _ _ hc)).trans hc
      have hv := getD_byte HB.out (i * 4 + k)
      have hw := wordAt_lt HB.out (i * 4) k
      have HS := Aside.mk (show _ = ((wordAt c.data (i * 4) (k + 1) : Nat) : Int) from word_next _ k _ hw hv.1 hv.2 (by omega))
      generalize hx : wordAt c.data (i * 4) (k + 1) = z at *
      have HX := Aside.mk hx
      clear hx
      generalize wordAt c.data (i * 4) k = x at *
      generalize c.data.getD (i * 4 + k) 0 = y at *
      clear hc
      go_wp2
      refine ⟨⟨k + 1, by omega, by simp, ?_, trivial⟩, by simp [intOf]; omega⟩
      rw [HX.out, HS.out]
    · obtain rfl : k = 4 := by omega
      go_wp2
      go_ret
      exact ⟨rfl, hbn.out⟩
theorem fword_8 (c : Col) (B D E X : SL) (i : Nat) (hi : i * 8 + 8 ≤ c.data.length) (hb : IsBytes c.data) (hl : c.data.length ≤ 100000000) (w : World) (h : Rd w 1 (.slice D.a c.data.length D.c) c.data.length (c.data.map (.int .u8))) :
    Calls Tryz.prog 88 #[.agg #[.int .i64 8], colV c B D E X, .int .i64 (i : Int)] w (U64P (wordAt c.data (i * 8) 8) w) := by
  obtain ⟨da, dc⟩ := D
  obtain ⟨g, off, cap, hs, hlc, hcap, _⟩ := rd_get h 0 (by omega)
  simp only [Value.slice.injEq, true_and] at hs
  obtain ⟨rfl, rfl⟩ := hs
  have HR := Aside.mk h
  have HB := Aside.mk hb
  have hbn := Aside.mk ((below_new w (.cells #[.int .i64 8] 165)).trans ((below_new _ (.cells #[.int .i64 c.k, .int .i64 c.s, .int .i64 c.n, .int .i64 c.m, .slice B.a c.bits.length B.c, .slice (some ⟨g, off, none⟩) c.data.length dc, .slice E.a c.ends.length E.c, .slice X.a c.words.length X.c] 63)).mono (by simp)))
  clear h hb
  dsimp only [colV]
  go_enter Tryz.func88, Tryz.ntmps88
  go_wp2
  go_loopw [7, 11] (fun xv kv wr => ∃ k : Nat, k ≤ 8 ∧ kv = .int .i64 (k : Int) ∧ xv = .int .u64 (wordAt c.data (i * 8) k : Int) ∧ wr = ((w.alloc (.cells #[.int .i64 8] 165)).alloc (.cells #[.int .i64 c.k, .int .i64 c.s, .int .i64 c.n, .int .i64 c.m, .slice B.a c.bits.length B.c, .slice (some ⟨g, off, none⟩) c.data.length dc, .slice E.a c.ends.length E.c, .slice X.a c.words.length X.c] 63))) (fun xv kv _ => 8 - (intOf kv).toNat)
  case atStart => exact ⟨0, by omega, rfl, rfl, rfl⟩
  case round =>
    obtain ⟨k, hk, rfl, rfl, rfl⟩ := hrel
    by_cases hlt : k < 8
    · obtain ⟨g', off', cap', hs', _, _, hc⟩ := rd_get HR.out (i * 8 + k) (by omega)
      simp only [Value.slice.injEq, Option.some.injEq, Addr.mk.injEq, and_true, true_and] at hs'
      obtain ⟨⟨rfl, rfl⟩, rfl⟩ := hs'
      have hc2 := (hbn.out.cell (p := ⟨g, off + (i * 8 + k), none⟩) (World.block_lt_of_cell? _ _ hc)).trans hc
      have hv := getD_byte HB.out (i * 8 + k)
      have hw := wordAt_lt HB.out (i * 8) k
      have HS := Aside.mk (show _ = ((wordAt c.data (i * 8) (k + 1) : Nat) : Int) from word_next _ k _ hw hv.1 hv.2 (by omega))
      generalize hx : wordAt c.data (i * 8) (k + 1) = z at *
      have HX := Aside.mk hx
      clear hx
      generalize wordAt c.data (i * 8) k = x at *
      generalize c.data.getD (i * 8 + k) 0 = y at *
      clear hc
      go_wp2
      refine ⟨⟨k + 1, by omega, by simp, ?_, trivial⟩, by simp [intOf]; omega⟩
      rw [HX.out, HS.out]
    · obtain rfl : k = 8 := by omega
      go_wp2
      go_ret
      exact ⟨rfl, hbn.out⟩
theorem fword_any (W : Nat) (hW : W = 1 ∨ W = 2 ∨ W = 4 ∨ W = 8) (c : Col) (B D E X : SL) (i : Nat) (hi : i * W + W ≤ c.data.length) (hb : IsBytes c.data) (hl : c.data.length ≤ 100000000) (w : World) (h : Rd w 1 (.slice D.a c.data.length D.c) c.data.length (c.data.map (.int .u8))) :
    Calls Tryz.prog 88 #[.agg #[.int .i64 (W : Int)], colV c B D E X, .int .i64 (i : Int)] w (U64P (wordAt c.data (i * W) W) w) := by
  rcases hW with rfl | rfl | rfl | rfl
  · exact fword_1 c B D E X i hi hb hl w h
  · exact fword_2 c B D E X i hi hb hl w h
  · exact fword_4 c B D E X i hi hb hl w h
  · exact fword_8 c B D E X i hi hb hl w h
end Go.Proofs.YtmhjjhaipcgbiaaGreat


namespace Go.Proofs.YtmhjjhaipcgbiaaGreat
open Go.RowKit
set_option linter.unusedVariables false
set_option linter.unusedSimpArgs false
set_option maxRecDepth 100000
set_option maxHeartbeats 1000000
theorem r18fits_no (k s b : Int) (w : World) (h : okType k s = false) : Calls Tryz.prog 75 #[.agg #[.int .i64 k, .int .i64 s], .int .u64 b] w (FitsP (fitsB k s b) w) := by
  have HOK := Aside.mk h
  have HF : Aside (fitsB k s b = false) := ⟨by simp [fitsB, h]⟩
  clear h
  go_enter Tryz.func75, Tryz.ntmps75
  go_wp2_with (go_at_call 13; refine (r18check_no _ _ _ HOK.out).mono ?_; rintro e w1 ⟨rfl, hb1⟩; have hB1 := Aside.mk ((below_new w _).trans (hb1.mono (by simp))))
  go_ret
  exact ⟨by rw [HF.out]; rfl, hB1.out⟩
theorem r18fits_yes (k s b : Int) (h0 : 0 ≤ b) (h1 : b ≤ 18446744073709551615) (w : World) (h : okType k s = true) : Calls Tryz.prog 75 #[.agg #[.int .i64 k, .int .i64 s], .int .u64 b] w (FitsP (fitsB k s b) w) := by
  have HOK := Aside.mk h
  have HF : Aside (fitsB k s b = bitsOK k b) := ⟨by simp [fitsB, h]⟩
  have hk : k = 1 ∨ k = 2 ∨ k = 3 ∨ k = 4 ∨ k = 5 ∨ k = 6 ∨ k = 7 ∨ k = 8 ∨ k = 9 ∨ k = 10 ∨ k = 11 ∨ k = 12 ∨ k = 13 ∨ k = 14 ∨ k = 15 ∨ k = 16 := by simp [okType] at h; omega
  clear h
  rcases hk with rfl | rfl | rfl | rfl | rfl | rfl | rfl | rfl | rfl | rfl | rfl | rfl | rfl | rfl | rfl | rfl
  · go_enter Tryz.func75, Tryz.ntmps75
    go_wp2_with (first | (go_at_call 13; refine (r18check_yes _ _ _ HOK.out).mono ?_; rintro e w1 ⟨rfl, hb1⟩; have hB1 := Aside.mk ((below_new w _).trans (hb1.mono (by simp))); have hz := hb1.size; simp only [World.size_alloc] at hz; have c10 := cell_kept hb1 0; have c11 := cell_kept hb1 1; have f10 := frozen_kept hb1 0; have f11 := frozen_kept hb1 1; simp at c10 c11) | (go_at_call 62; refine (worded_any _ _ _).mono ?_; rintro e w2 ⟨rfl, hb2⟩; have hB2 := Aside.mk (hB1.out.trans (hb2.mono hB1.out.size)); have hz2 := hb2.size; have c20 := (hb2.cell (p := ⟨w.heap.size, 0, none⟩) (by show w.heap.size < _; omega)).trans c10; have f20 := (hb2.frozen (p := ⟨w.heap.size, 0, none⟩) (by show w.heap.size < _; omega)).trans f10; have c21 := (hb2.cell (p := ⟨w.heap.size, 1, none⟩) (by show w.heap.size < _; omega)).trans c11; have f21 := (hb2.frozen (p := ⟨w.heap.size, 1, none⟩) (by show w.heap.size < _; omega)).trans f11) | (go_at_call 146; refine (r5fits_yes _ _ h0 h1 _ (by omega)).mono ?_; rintro e w3 ⟨rfl, hb3⟩; have hB3 := Aside.mk (hB2.out.trans (hb3.mono hB2.out.size))))
    go_ret
    exact ⟨by rw [HF.out]; rfl, hB3.out⟩
  · go_enter Tryz.func75, Tryz.ntmps75
    go_wp2_with (first | (go_at_call 13; refine (r18check_yes _ _ _ HOK.out).mono ?_; rintro e w1 ⟨rfl, hb1⟩; have hB1 := Aside.mk ((below_new w _).trans (hb1.mono (by simp))); have hz := hb1.size; simp only [World.size_alloc] at hz; have c10 := cell_kept hb1 0; have c11 := cell_kept hb1 1; have f10 := frozen_kept hb1 0; have f11 := frozen_kept hb1 1; simp at c10 c11) | (go_at_call 62; refine (worded_any _ _ _).mono ?_; rintro e w2 ⟨rfl, hb2⟩; have hB2 := Aside.mk (hB1.out.trans (hb2.mono hB1.out.size)); have hz2 := hb2.size; have c20 := (hb2.cell (p := ⟨w.heap.size, 0, none⟩) (by show w.heap.size < _; omega)).trans c10; have f20 := (hb2.frozen (p := ⟨w.heap.size, 0, none⟩) (by show w.heap.size < _; omega)).trans f10; have c21 := (hb2.cell (p := ⟨w.heap.size, 1, none⟩) (by show w.heap.size < _; omega)).trans c11; have f21 := (hb2.frozen (p := ⟨w.heap.size, 1, none⟩) (by show w.heap.size < _; omega)).trans f11) | (go_at_call 146; refine (r5fits_yes _ _ h0 h1 _ (by omega)).mono ?_; rintro e w3 ⟨rfl, hb3⟩; have hB3 := Aside.mk (hB2.out.trans (hb3.mono hB2.out.size))))
    go_ret
    exact ⟨by rw [HF.out]; rfl, hB3.out⟩
  · go_enter Tryz.func75, Tryz.ntmps75
    go_wp2_with (first | (go_at_call 13; refine (r18check_yes _ _ _ HOK.out).mono ?_; rintro e w1 ⟨rfl, hb1⟩; have hB1 := Aside.mk ((below_new w _).trans (hb1.mono (by simp))); have hz := hb1.size; simp only [World.size_alloc] at hz; have c10 := cell_kept hb1 0; have c11 := cell_kept hb1 1; have f10 := frozen_kept hb1 0; have f11 := frozen_kept hb1 1; simp at c10 c11) | (go_at_call 62; refine (worded_any _ _ _).mono ?_; rintro e w2 ⟨rfl, hb2⟩; have hB2 := Aside.mk (hB1.out.trans (hb2.mono hB1.out.size)); have hz2 := hb2.size; have c20 := (hb2.cell (p := ⟨w.heap.size, 0, none⟩) (by show w.heap.size < _; omega)).trans c10; have f20 := (hb2.frozen (p := ⟨w.heap.size, 0, none⟩) (by show w.heap.size < _; omega)).trans f10; have c21 := (hb2.cell (p := ⟨w.heap.size, 1, none⟩) (by show w.heap.size < _; omega)).trans c11; have f21 := (hb2.frozen (p := ⟨w.heap.size, 1, none⟩) (by show w.heap.size < _; omega)).trans f11) | (go_at_call 146; refine (r5fits_yes _ _ h0 h1 _ (by omega)).mono ?_; rintro e w3 ⟨rfl, hb3⟩; have hB3 := Aside.mk (hB2.out.trans (hb3.mono hB2.out.size))))
    go_ret
    exact ⟨by rw [HF.out]; rfl, hB3.out⟩
  · go_enter Tryz.func75, Tryz.ntmps75
    go_wp2_with (first | (go_at_call 13; refine (r18check_yes _ _ _ HOK.out).mono ?_; rintro e w1 ⟨rfl, hb1⟩; have hB1 := Aside.mk ((below_new w _).trans (hb1.mono (by simp))); have hz := hb1.size; simp only [World.size_alloc] at hz; have c10 := cell_kept hb1 0; have c11 := cell_kept hb1 1; have f10 := frozen_kept hb1 0; have f11 := frozen_kept hb1 1; simp at c10 c11) | (go_at_call 62; refine (worded_any _ _ _).mono ?_; rintro e w2 ⟨rfl, hb2⟩; have hB2 := Aside.mk (hB1.out.trans (hb2.mono hB1.out.size)); have hz2 := hb2.size; have c20 := (hb2.cell (p := ⟨w.heap.size, 0, none⟩) (by show w.heap.size < _; omega)).trans c10; have f20 := (hb2.frozen (p := ⟨w.heap.size, 0, none⟩) (by show w.heap.size < _; omega)).trans f10; have c21 := (hb2.cell (p := ⟨w.heap.size, 1, none⟩) (by show w.heap.size < _; omega)).trans c11; have f21 := (hb2.frozen (p := ⟨w.heap.size, 1, none⟩) (by show w.heap.size < _; omega)).trans f11) | (go_at_call 146; refine (r5fits_yes _ _ h0 h1 _ (by omega)).mono ?_; rintro e w3 ⟨rfl, hb3⟩; have hB3 := Aside.mk (hB2.out.trans (hb3.mono hB2.out.size))))
    go_ret
    exact ⟨by rw [HF.out]; rfl, hB3.out⟩
  · go_enter Tryz.func75, Tryz.ntmps75
    go_wp2_with (first | (go_at_call 13; refine (r18check_yes _ _ _ HOK.out).mono ?_; rintro e w1 ⟨rfl, hb1⟩; have hB1 := Aside.mk ((below_new w _).trans (hb1.mono (by simp))); have hz := hb1.size; simp only [World.size_alloc] at hz; have c10 := cell_kept hb1 0; have c11 := cell_kept hb1 1; have f10 := frozen_kept hb1 0; have f11 := frozen_kept hb1 1; simp at c10 c11) | (go_at_call 62; refine (worded_any _ _ _).mono ?_; rintro e w2 ⟨rfl, hb2⟩; have hB2 := Aside.mk (hB1.out.trans (hb2.mono hB1.out.size)); have hz2 := hb2.size; have c20 := (hb2.cell (p := ⟨w.heap.size, 0, none⟩) (by show w.heap.size < _; omega)).trans c10; have f20 := (hb2.frozen (p := ⟨w.heap.size, 0, none⟩) (by show w.heap.size < _; omega)).trans f10; have c21 := (hb2.cell (p := ⟨w.heap.size, 1, none⟩) (by show w.heap.size < _; omega)).trans c11; have f21 := (hb2.frozen (p := ⟨w.heap.size, 1, none⟩) (by show w.heap.size < _; omega)).trans f11) | (go_at_call 146; refine (r5fits_yes _ _ h0 h1 _ (by omega)).mono ?_; rintro e w3 ⟨rfl, hb3⟩; have hB3 := Aside.mk (hB2.out.trans (hb3.mono hB2.out.size))))
    go_ret
    exact ⟨by rw [HF.out]; rfl, hB3.out⟩
  · go_enter Tryz.func75, Tryz.ntmps75
    go_wp2_with (first | (go_at_call 13; refine (r18check_yes _ _ _ HOK.out).mono ?_; rintro e w1 ⟨rfl, hb1⟩; have hB1 := Aside.mk ((below_new w _).trans (hb1.mono (by simp))); have hz := hb1.size; simp only [World.size_alloc] at hz; have c10 := cell_kept hb1 0; have c11 := cell_kept hb1 1; have f10 := frozen_kept hb1 0; have f11 := frozen_kept hb1 1; simp at c10 c11) | (go_at_call 62; refine (worded_any _ _ _).mono ?_; rintro e w2 ⟨rfl, hb2⟩; have hB2 := Aside.mk (hB1.out.trans (hb2.mono hB1.out.size)); have hz2 := hb2.size; have c20 := (hb2.cell (p := ⟨w.heap.size, 0, none⟩) (by show w.heap.size < _; omega)).trans c10; have f20 := (hb2.frozen (p := ⟨w.heap.size, 0, none⟩) (by show w.heap.size < _; omega)).trans f10; have c21 := (hb2.cell (p := ⟨w.heap.size, 1, none⟩) (by show w.heap.size < _; omega)).trans c11; have f21 := (hb2.frozen (p := ⟨w.heap.size, 1, none⟩) (by show w.heap.size < _; omega)).trans f11) | (go_at_call 146; refine (r5fits_yes _ _ h0 h1 _ (by omega)).mono ?_; rintro e w3 ⟨rfl, hb3⟩; have hB3 := Aside.mk (hB2.out.trans (hb3.mono hB2.out.size))))
    go_ret
    exact ⟨by rw [HF.out]; rfl, hB3.out⟩
  · go_enter Tryz.func75, Tryz.ntmps75
    go_wp2_with (first | (go_at_call 13; refine (r18check_yes _ _ _ HOK.out).mono ?_; rintro e w1 ⟨rfl, hb1⟩; have hB1 := Aside.mk ((below_new w _).trans (hb1.mono (by simp))); have hz := hb1.size; simp only [World.size_alloc] at hz; have c10 := cell_kept hb1 0; have c11 := cell_kept hb1 1; have f10 := frozen_kept hb1 0; have f11 := frozen_kept hb1 1; simp at c10 c11) | (go_at_call 62; refine (worded_any _ _ _).mono ?_; rintro e w2 ⟨rfl, hb2⟩; have hB2 := Aside.mk (hB1.out.trans (hb2.mono hB1.out.size)); have hz2 := hb2.size; have c20 := (hb2.cell (p := ⟨w.heap.size, 0, none⟩) (by show w.heap.size < _; omega)).trans c10; have f20 := (hb2.frozen (p := ⟨w.heap.size, 0, none⟩) (by show w.heap.size < _; omega)).trans f10; have c21 := (hb2.cell (p := ⟨w.heap.size, 1, none⟩) (by show w.heap.size < _; omega)).trans c11; have f21 := (hb2.frozen (p := ⟨w.heap.size, 1, none⟩) (by show w.heap.size < _; omega)).trans f11) | (go_at_call 146; refine (r5fits_yes _ _ h0 h1 _ (by omega)).mono ?_; rintro e w3 ⟨rfl, hb3⟩; have hB3 := Aside.mk (hB2.out.trans (hb3.mono hB2.out.size))))
    go_ret
    exact ⟨by rw [HF.out]; rfl, hB3.out⟩
  · go_enter Tryz.func75, Tryz.ntmps75
    go_wp2_with (first | (go_at_call 13; refine (r18check_yes _ _ _ HOK.out).mono ?_; rintro e w1 ⟨rfl, hb1⟩; have hB1 := Aside.mk ((below_new w _).trans (hb1.mono (by simp))); have hz := hb1.size; simp only [World.size_alloc] at hz; have c10 := cell_kept hb1 0; have c11 := cell_kept hb1 1; have f10 := frozen_kept hb1 0; have f11 := frozen_kept hb1 1; simp at c10 c11) | (go_at_call 62; refine (worded_any _ _ _).mono ?_; rintro e w2 ⟨rfl, hb2⟩; have hB2 := Aside.mk (hB1.out.trans (hb2.mono hB1.out.size)); have hz2 := hb2.size; have c20 := (hb2.cell (p := ⟨w.heap.size, 0, none⟩) (by show w.heap.size < _; omega)).trans c10; have f20 := (hb2.frozen (p := ⟨w.heap.size, 0, none⟩) (by show w.heap.size < _; omega)).trans f10; have c21 := (hb2.cell (p := ⟨w.heap.size, 1, none⟩) (by show w.heap.size < _; omega)).trans c11; have f21 := (hb2.frozen (p := ⟨w.heap.size, 1, none⟩) (by show w.heap.size < _; omega)).trans f11) | (go_at_call 146; refine (r5fits_yes _ _ h0 h1 _ (by omega)).mono ?_; rintro e w3 ⟨rfl, hb3⟩; have hB3 := Aside.mk (hB2.out.trans (hb3.mono hB2.out.size))))
    go_ret
    exact ⟨by rw [HF.out]; rfl, hB3.out⟩
  · by_cases hlt : b < 4294967296
    case neg =>
      have HL : Aside (bitsOK 9 b = false) := ⟨by simp [bitsOK, f32OK, hlt]⟩
      have hge : 4294967296 ≤ b := by omega
      clear hlt
      go_enter Tryz.func75, Tryz.ntmps75
      go_wp2_with (first | (go_at_call 13; refine (r18check_yes _ _ _ HOK.out).mono ?_; rintro e w1 ⟨rfl, hb1⟩; have hB1 := Aside.mk ((below_new w _).trans (hb1.mono (by simp))); have hz := hb1.size; simp only [World.size_alloc] at hz; have c10 := cell_kept hb1 0; have c11 := cell_kept hb1 1; have f10 := frozen_kept hb1 0; have f11 := frozen_kept hb1 1; simp at c10 c11) | (go_at_call 62; refine (worded_any _ _ _).mono ?_; rintro e w2 ⟨rfl, hb2⟩; have hB2 := Aside.mk (hB1.out.trans (hb2.mono hB1.out.size)); have hz2 := hb2.size; have c20 := (hb2.cell (p := ⟨w.heap.size, 0, none⟩) (by show w.heap.size < _; omega)).trans c10; have f20 := (hb2.frozen (p := ⟨w.heap.size, 0, none⟩) (by show w.heap.size < _; omega)).trans f10; have c21 := (hb2.cell (p := ⟨w.heap.size, 1, none⟩) (by show w.heap.size < _; omega)).trans c11; have f21 := (hb2.frozen (p := ⟨w.heap.size, 1, none⟩) (by show w.heap.size < _; omega)).trans f11) | (go_at_call 104; refine (r3class_32_no _ hge _).mono ?_; rintro e w3 ⟨rfl, rfl⟩) | (go_at_call 142; refine (r3nan_32 _).mono ?_; rintro e w4 ⟨rfl, rfl⟩))
      go_ret
      exact ⟨by rw [HF.out, HL.out]; rfl, hB2.out⟩
    have HL : Aside (bitsOK 9 b = (!nan32 b || b == 2143289344)) := ⟨by simp [bitsOK, f32OK, hlt]⟩
    cases hn : nan32 b
    all_goals
      cases he : (b == 2143289344)
      all_goals
        rw [hn, he] at HL
        have HN := Aside.mk hn
        clear hn
        go_enter Tryz.func75, Tryz.ntmps75
        go_wp2_with (first | (go_at_call 13; refine (r18check_yes _ _ _ HOK.out).mono ?_; rintro e w1 ⟨rfl, hb1⟩; have hB1 := Aside.mk ((below_new w _).trans (hb1.mono (by simp))); have hz := hb1.size; simp only [World.size_alloc] at hz; have c10 := cell_kept hb1 0; have c11 := cell_kept hb1 1; have f10 := frozen_kept hb1 0; have f11 := frozen_kept hb1 1; simp at c10 c11) | (go_at_call 62; refine (worded_any _ _ _).mono ?_; rintro e w2 ⟨rfl, hb2⟩; have hB2 := Aside.mk (hB1.out.trans (hb2.mono hB1.out.size)); have hz2 := hb2.size; have c20 := (hb2.cell (p := ⟨w.heap.size, 0, none⟩) (by show w.heap.size < _; omega)).trans c10; have f20 := (hb2.frozen (p := ⟨w.heap.size, 0, none⟩) (by show w.heap.size < _; omega)).trans f10; have c21 := (hb2.cell (p := ⟨w.heap.size, 1, none⟩) (by show w.heap.size < _; omega)).trans c11; have f21 := (hb2.frozen (p := ⟨w.heap.size, 1, none⟩) (by show w.heap.size < _; omega)).trans f11) | (go_at_call 104; refine (r3c_32 _ h0 hlt _).mono ?_; rw [HN.out]; rintro e w3 ⟨c, rfl, hc5, hb3⟩; (first | (obtain rfl := eq_of_beq hc5) | (have hc6 : (c != 5) = true := bne_of hc5; have hc7 : ¬ c = 5 := ne_of_beq_false hc5)); have hB3 := Aside.mk (hB2.out.trans (hb3.mono hB2.out.size)); have hz3 := hb3.size; have c30 := (hb3.cell (p := ⟨w.heap.size, 0, none⟩) (by show w.heap.size < _; omega)).trans c20; have f30 := (hb3.frozen (p := ⟨w.heap.size, 0, none⟩) (by show w.heap.size < _; omega)).trans f20; have c31 := (hb3.cell (p := ⟨w.heap.size, 1, none⟩) (by show w.heap.size < _; omega)).trans c21; have f31 := (hb3.frozen (p := ⟨w.heap.size, 1, none⟩) (by show w.heap.size < _; omega)).trans f21) | (go_at_call 142; refine (r3nan_32 _).mono ?_; rintro e w4 ⟨rfl, rfl⟩))
        go_ret
        exact ⟨by rw [HF.out, HL.out]; rfl, hB3.out⟩
  · have HL : Aside (bitsOK 10 b = (!nan64 b || b == 9221120237041090560)) := ⟨by simp [bitsOK, f64OK]⟩
    cases hn : nan64 b
    all_goals
      cases he : (b == 9221120237041090560)
      all_goals
        rw [hn, he] at HL
        have HN := Aside.mk hn
        clear hn
        go_enter Tryz.func75, Tryz.ntmps75
        go_wp2_with (first | (go_at_call 13; refine (r18check_yes _ _ _ HOK.out).mono ?_; rintro e w1 ⟨rfl, hb1⟩; have hB1 := Aside.mk ((below_new w _).trans (hb1.mono (by simp))); have hz := hb1.size; simp only [World.size_alloc] at hz; have c10 := cell_kept hb1 0; have c11 := cell_kept hb1 1; have f10 := frozen_kept hb1 0; have f11 := frozen_kept hb1 1; simp at c10 c11) | (go_at_call 62; refine (worded_any _ _ _).mono ?_; rintro e w2 ⟨rfl, hb2⟩; have hB2 := Aside.mk (hB1.out.trans (hb2.mono hB1.out.size)); have hz2 := hb2.size; have c20 := (hb2.cell (p := ⟨w.heap.size, 0, none⟩) (by show w.heap.size < _; omega)).trans c10; have f20 := (hb2.frozen (p := ⟨w.heap.size, 0, none⟩) (by show w.heap.size < _; omega)).trans f10; have c21 := (hb2.cell (p := ⟨w.heap.size, 1, none⟩) (by show w.heap.size < _; omega)).trans c11; have f21 := (hb2.frozen (p := ⟨w.heap.size, 1, none⟩) (by show w.heap.size < _; omega)).trans f11) | (go_at_call 104; refine (r3c_64 _ h0 h1 _).mono ?_; rw [HN.out]; rintro e w3 ⟨c, rfl, hc5, hb3⟩; (first | (obtain rfl := eq_of_beq hc5) | (have hc6 : (c != 5) = true := bne_of hc5; have hc7 : ¬ c = 5 := ne_of_beq_false hc5)); have hB3 := Aside.mk (hB2.out.trans (hb3.mono hB2.out.size)); have hz3 := hb3.size; have c30 := (hb3.cell (p := ⟨w.heap.size, 0, none⟩) (by show w.heap.size < _; omega)).trans c20; have f30 := (hb3.frozen (p := ⟨w.heap.size, 0, none⟩) (by show w.heap.size < _; omega)).trans f20; have c31 := (hb3.cell (p := ⟨w.heap.size, 1, none⟩) (by show w.heap.size < _; omega)).trans c21; have f31 := (hb3.frozen (p := ⟨w.heap.size, 1, none⟩) (by show w.heap.size < _; omega)).trans f21) | (go_at_call 142; refine (r3nan_64 _).mono ?_; rintro e w4 ⟨rfl, rfl⟩))
        go_ret
        exact ⟨by rw [HF.out, HL.out]; rfl, hB3.out⟩
  · go_enter Tryz.func75, Tryz.ntmps75
    go_wp2_with (first | (go_at_call 13; refine (r18check_yes _ _ _ HOK.out).mono ?_; rintro e w1 ⟨rfl, hb1⟩; have hB1 := Aside.mk ((below_new w _).trans (hb1.mono (by simp))); have hz := hb1.size; simp only [World.size_alloc] at hz; have c10 := cell_kept hb1 0; have c11 := cell_kept hb1 1; have f10 := frozen_kept hb1 0; have f11 := frozen_kept hb1 1; simp at c10 c11) | (go_at_call 62; refine (worded_any _ _ _).mono ?_; rintro e w2 ⟨rfl, hb2⟩; have hB2 := Aside.mk (hB1.out.trans (hb2.mono hB1.out.size)); have hz2 := hb2.size; have c20 := (hb2.cell (p := ⟨w.heap.size, 0, none⟩) (by show w.heap.size < _; omega)).trans c10; have f20 := (hb2.frozen (p := ⟨w.heap.size, 0, none⟩) (by show w.heap.size < _; omega)).trans f10; have c21 := (hb2.cell (p := ⟨w.heap.size, 1, none⟩) (by show w.heap.size < _; omega)).trans c11; have f21 := (hb2.frozen (p := ⟨w.heap.size, 1, none⟩) (by show w.heap.size < _; omega)).trans f11))
    go_ret
    exact ⟨by rw [HF.out]; exact ret_bool (by simp [bitsOK]), hB2.out⟩
  · cases hd : decOK b
    all_goals
      have HD := Aside.mk hd
      clear hd
      go_enter Tryz.func75, Tryz.ntmps75
      go_wp2_with (first | (go_at_call 13; refine (r18check_yes _ _ _ HOK.out).mono ?_; rintro e w1 ⟨rfl, hb1⟩; have hB1 := Aside.mk ((below_new w _).trans (hb1.mono (by simp))); have hz := hb1.size; simp only [World.size_alloc] at hz; have c10 := cell_kept hb1 0; have c11 := cell_kept hb1 1; have f10 := frozen_kept hb1 0; have f11 := frozen_kept hb1 1; simp at c10 c11) | (go_at_call 62; refine (worded_any _ _ _).mono ?_; rintro e w2 ⟨rfl, hb2⟩; have hB2 := Aside.mk (hB1.out.trans (hb2.mono hB1.out.size)); have hz2 := hb2.size; have c20 := (hb2.cell (p := ⟨w.heap.size, 0, none⟩) (by show w.heap.size < _; omega)).trans c10; have f20 := (hb2.frozen (p := ⟨w.heap.size, 0, none⟩) (by show w.heap.size < _; omega)).trans f10; have c21 := (hb2.cell (p := ⟨w.heap.size, 1, none⟩) (by show w.heap.size < _; omega)).trans c11; have f21 := (hb2.frozen (p := ⟨w.heap.size, 1, none⟩) (by show w.heap.size < _; omega)).trans f11) | (go_at_call 143; refine (r12fits_any _ h0 h1 _).mono ?_; unfold R12P; rw [HD.out]; rintro e w3 ⟨v, n, rfl, rfl⟩))
      go_ret
      exact ⟨by rw [HF.out]; simp [bitsOK, HD.out], hB2.out⟩
  · cases hd : dayOK b
    all_goals
      have HD := Aside.mk hd
      clear hd
      go_enter Tryz.func75, Tryz.ntmps75
      go_wp2_with (first | (go_at_call 13; refine (r18check_yes _ _ _ HOK.out).mono ?_; rintro e w1 ⟨rfl, hb1⟩; have hB1 := Aside.mk ((below_new w _).trans (hb1.mono (by simp))); have hz := hb1.size; simp only [World.size_alloc] at hz; have c10 := cell_kept hb1 0; have c11 := cell_kept hb1 1; have f10 := frozen_kept hb1 0; have f11 := frozen_kept hb1 1; simp at c10 c11) | (go_at_call 62; refine (worded_any _ _ _).mono ?_; rintro e w2 ⟨rfl, hb2⟩; have hB2 := Aside.mk (hB1.out.trans (hb2.mono hB1.out.size)); have hz2 := hb2.size; have c20 := (hb2.cell (p := ⟨w.heap.size, 0, none⟩) (by show w.heap.size < _; omega)).trans c10; have f20 := (hb2.frozen (p := ⟨w.heap.size, 0, none⟩) (by show w.heap.size < _; omega)).trans f10; have c21 := (hb2.cell (p := ⟨w.heap.size, 1, none⟩) (by show w.heap.size < _; omega)).trans c11; have f21 := (hb2.frozen (p := ⟨w.heap.size, 1, none⟩) (by show w.heap.size < _; omega)).trans f11) | (go_at_call 144; refine (r13isDay_any _ _).mono ?_; unfold WhenP; rw [HD.out]; rintro e w3 ⟨v, rfl, rfl⟩))
      go_ret
      exact ⟨by rw [HF.out]; simp [bitsOK, HD.out], hB2.out⟩
  · cases hd : momOK b
    all_goals
      have HD := Aside.mk hd
      clear hd
      go_enter Tryz.func75, Tryz.ntmps75
      go_wp2_with (first | (go_at_call 13; refine (r18check_yes _ _ _ HOK.out).mono ?_; rintro e w1 ⟨rfl, hb1⟩; have hB1 := Aside.mk ((below_new w _).trans (hb1.mono (by simp))); have hz := hb1.size; simp only [World.size_alloc] at hz; have c10 := cell_kept hb1 0; have c11 := cell_kept hb1 1; have f10 := frozen_kept hb1 0; have f11 := frozen_kept hb1 1; simp at c10 c11) | (go_at_call 62; refine (worded_any _ _ _).mono ?_; rintro e w2 ⟨rfl, hb2⟩; have hB2 := Aside.mk (hB1.out.trans (hb2.mono hB1.out.size)); have hz2 := hb2.size; have c20 := (hb2.cell (p := ⟨w.heap.size, 0, none⟩) (by show w.heap.size < _; omega)).trans c10; have f20 := (hb2.frozen (p := ⟨w.heap.size, 0, none⟩) (by show w.heap.size < _; omega)).trans f10; have c21 := (hb2.cell (p := ⟨w.heap.size, 1, none⟩) (by show w.heap.size < _; omega)).trans c11; have f21 := (hb2.frozen (p := ⟨w.heap.size, 1, none⟩) (by show w.heap.size < _; omega)).trans f11) | (go_at_call 145; refine (r13isMoment_any _ _).mono ?_; unfold WhenP; rw [HD.out]; rintro e w3 ⟨v, rfl, rfl⟩))
      go_ret
      exact ⟨by rw [HF.out]; simp [bitsOK, HD.out], hB2.out⟩
  · go_enter Tryz.func75, Tryz.ntmps75
    go_wp2_with (first | (go_at_call 13; refine (r18check_yes _ _ _ HOK.out).mono ?_; rintro e w1 ⟨rfl, hb1⟩; have hB1 := Aside.mk ((below_new w _).trans (hb1.mono (by simp))); have hz := hb1.size; simp only [World.size_alloc] at hz; have c10 := cell_kept hb1 0; have c11 := cell_kept hb1 1; have f10 := frozen_kept hb1 0; have f11 := frozen_kept hb1 1; simp at c10 c11) | (go_at_call 62; refine (worded_any _ _ _).mono ?_; rintro e w2 ⟨rfl, hb2⟩; have hB2 := Aside.mk (hB1.out.trans (hb2.mono hB1.out.size)); have hz2 := hb2.size; have c20 := (hb2.cell (p := ⟨w.heap.size, 0, none⟩) (by show w.heap.size < _; omega)).trans c10; have f20 := (hb2.frozen (p := ⟨w.heap.size, 0, none⟩) (by show w.heap.size < _; omega)).trans f10; have c21 := (hb2.cell (p := ⟨w.heap.size, 1, none⟩) (by show w.heap.size < _; omega)).trans c11; have f21 := (hb2.frozen (p := ⟨w.heap.size, 1, none⟩) (by show w.heap.size < _; omega)).trans f11))
    go_ret
    exact ⟨by rw [HF.out]; rfl, hB2.out⟩
  · go_enter Tryz.func75, Tryz.ntmps75
    go_wp2_with (first | (go_at_call 13; refine (r18check_yes _ _ _ HOK.out).mono ?_; rintro e w1 ⟨rfl, hb1⟩; have hB1 := Aside.mk ((below_new w _).trans (hb1.mono (by simp))); have hz := hb1.size; simp only [World.size_alloc] at hz; have c10 := cell_kept hb1 0; have c11 := cell_kept hb1 1; have f10 := frozen_kept hb1 0; have f11 := frozen_kept hb1 1; simp at c10 c11) | (go_at_call 62; refine (worded_any _ _ _).mono ?_; rintro e w2 ⟨rfl, hb2⟩; have hB2 := Aside.mk (hB1.out.trans (hb2.mono hB1.out.size)); have hz2 := hb2.size; have c20 := (hb2.cell (p := ⟨w.heap.size, 0, none⟩) (by show w.heap.size < _; omega)).trans c10; have f20 := (hb2.frozen (p := ⟨w.heap.size, 0, none⟩) (by show w.heap.size < _; omega)).trans f10; have c21 := (hb2.cell (p := ⟨w.heap.size, 1, none⟩) (by show w.heap.size < _; omega)).trans c11; have f21 := (hb2.frozen (p := ⟨w.heap.size, 1, none⟩) (by show w.heap.size < _; omega)).trans f11))
    go_ret
    exact ⟨by rw [HF.out]; rfl, hB2.out⟩
theorem r18fits_any (k s b : Int) (h0 : 0 ≤ b) (h1 : b ≤ 18446744073709551615) (w : World) : Calls Tryz.prog 75 #[.agg #[.int .i64 k, .int .i64 s], .int .u64 b] w (FitsP (fitsB k s b) w) := by
  cases h : okType k s
  · exact r18fits_no k s b w h
  · exact r18fits_yes k s b h0 h1 w h
theorem fits_any (k s b : Int) (h0 : 0 ≤ b) (h1 : b ≤ 18446744073709551615) (w : World) : Calls Tryz.prog 74 #[.agg #[.int .i64 k, .int .i64 s], .int .u64 b] w (FitsP (fitsB k s b) w) := by
  cases h : okType k s
  · exact fits_no k s b w h
  · exact fits_yes k s b h0 h1 w h
end Go.Proofs.YtmhjjhaipcgbiaaGreat


namespace Go.Proofs.YtmhjjhaipcgbiaaGreat
open Go.RowKit
set_option linter.unusedVariables false
set_option linter.unusedSimpArgs false
set_option maxRecDepth 100000
set_option maxHeartbeats 4000000
def okAt (k s : Int) (W : Nat) (c : Col) (i : Nat) : Bool := if nullB c.bits i then wordAt c.data (i * W) W == 0 else fitsB k s (wordAt c.data (i * W) W)
theorem mayFixed_eq (k s : Int) (W : Nat) (c : Col) : mayFixed k s W c = (sizedB W c && c.words.isEmpty && (List.range c.n.toNat).all (okAt k s W c)) := rfl
theorem all_false {n : Nat} {p : Nat → Bool} {i : Nat} (hi : i < n) (h : p i = false) : (List.range n).all p = false := by
  rw [List.all_eq_false]
  exact ⟨i, List.mem_range.2 hi, by rw [h]; decide⟩
theorem sized_nat {W : Nat} {c : Col} (h : sizedB W c = true) : c.data.length % W = 0 ∧ c.n = ((c.data.length / W : Nat) : Int) := by
  unfold sizedB at h
  simp only [Bool.and_eq_true, beq_iff_eq] at h
  exact ⟨h.1.1, h.1.2.symm⟩
theorem sized_room {W : Nat} {c : Col} (h : sizedB W c = true) (i : Nat) (hi : i < c.n.toNat) : i * W + W ≤ c.data.length := by
  obtain ⟨h1, h2⟩ := sized_nat h
  have h3 : i + 1 ≤ c.data.length / W := by omega
  have h4 := Nat.mul_le_mul_right W h3
  have h5 := Nat.div_mul_le_self c.data.length W
  rw [Nat.add_mul] at h4
  omega
theorem mayF_any (W : Nat) (hW : W = 1 ∨ W = 2 ∨ W = 4 ∨ W = 8) (c : Col) (hc : COK c) (hn : c.n ≤ 8 * (c.bits.length : Int)) (B D E X : SL) (vals : List Value) (w : World) (h : RdC w c B D E X vals) :
    Calls Tryz.prog 220 #[.agg #[.int .i64 (W : Int)], colV c B D E X] w (BoolP (mayFixed c.k c.s W c) w) := by
  have HR := Aside.mk h
  have HC := Aside.mk hc
  clear h hc
  dsimp only [colV]
  go_enter Tryz.func220, Tryz.ntmps220
  go_wp2_with fail
  generalize hw1 : ((w.alloc (.cells #[.int .i64 (W : Int)] 165)).alloc (.cells #[.int .i64 c.k, .int .i64 c.s, .int .i64 c.n, .int .i64 c.m, .slice B.a c.bits.length B.c, .slice D.a c.data.length D.c, .slice E.a c.ends.length E.c, .slice X.a c.words.length X.c] 63)) = w1 at *
  have BW := Aside.mk (show Below w.heap.size w w1 from hw1 ▸ ((below_new w _).trans ((below_new _ _).mono (by simp))))
  have BF := Aside.mk (show w1.heap[w.heap.size]? = some (.cells #[.int .i64 (W : Int)] 165 (0, 0)) by
    rw [← hw1, Below.heap_alloc _ _ _ (by simp)]; exact heap_alloc_new _ _)
  have BX := Aside.mk (show w1.heap[w.heap.size + 1]? = some (.cells #[.int .i64 c.k, .int .i64 c.s, .int .i64 c.n, .int .i64 c.m, .slice B.a c.bits.length B.c, .slice D.a c.data.length D.c, .slice E.a c.ends.length E.c, .slice X.a c.words.length X.c] 63 (0, 0)) by
    rw [← hw1]; simpa using heap_alloc_new (w.alloc (.cells #[.int .i64 (W : Int)] 165)) (.cells #[.int .i64 c.k, .int .i64 c.s, .int .i64 c.n, .int .i64 c.m, .slice B.a c.bits.length B.c, .slice D.a c.data.length D.c, .slice E.a c.ends.length E.c, .slice X.a c.words.length X.c] 63))
  clear hw1
  refine (sized_any W hW c B D E X HC.out.ld w1).mono ?_
  rintro e w2 ⟨rfl, hb2⟩
  replace BW := Aside.mk (BW.out.trans (hb2.mono BW.out.size)); replace BF := Aside.mk ((hb2.block _ (lt_of_blk BF.out)).trans BF.out); replace BX := Aside.mk ((hb2.block _ (lt_of_blk BX.out)).trans BX.out); obtain ⟨c0, c1, c2, c3, c4, c5, c6, c7⟩ := box8 BX.out; have cf := cell_blk (k := 0) BF.out; simp at cf; clear hb2
  cases hs : sizedB W c with
  | false =>
    go_wp2
    go_ret
    exact ⟨ret_bool (by rw [mayFixed_eq, hs]; rfl), BW.out⟩
  | true =>
    cases hx : c.words.isEmpty with
    | false =>
      have hx3 : 0 < c.words.length := by
        cases hwd : c.words with
        | nil => rw [hwd] at hx; cases hx
        | cons a l => simp
      have hx2 : decide (0 < c.words.length) = true := decide_eq_true hx3
      go_wp2
      go_ret
      exact ⟨ret_bool (by rw [mayFixed_eq, hs, hx]; rfl), BW.out⟩
    | true =>
      have hx3 : c.words.length = 0 := by
        cases hwd : c.words with
        | nil => rfl
        | cons a l => rw [hwd] at hx; cases hx
      have hx2 : decide (0 < c.words.length) = false := by rw [hx3]; rfl
      clear hx3
      obtain ⟨s1, s2⟩ := sized_nat hs
      generalize hN : c.data.length / W = N at *
      have hNb : N ≤ 100000000 := by rw [← hN]; exact Nat.le_trans (Nat.div_le_self _ _) HC.out.ld
      clear hN
      have HM := Aside.mk (show mayFixed c.k c.s W c = (List.range N).all (okAt c.k c.s W c) by rw [mayFixed_eq, hs, hx, s2]; simp)
      have HS := Aside.mk hs
      have S2 := Aside.mk s2
      clear hs hx s1 s2
      go_wp2
      go_loopw [19] (fun iv wr => ∃ i : Nat, i ≤ N ∧ iv = .int .i64 (i : Int) ∧ Aside (Below w.heap.size w wr ∧ wr.heap[w.heap.size]? = some (.cells #[.int .i64 (W : Int)] 165 (0, 0)) ∧ wr.heap[w.heap.size + 1]? = some (.cells #[.int .i64 c.k, .int .i64 c.s, .int .i64 c.n, .int .i64 c.m, .slice B.a c.bits.length B.c, .slice D.a c.data.length D.c, .slice E.a c.ends.length E.c, .slice X.a c.words.length X.c] 63 (0, 0)) ∧ ∀ j, j < i → okAt c.k c.s W c j = true)) (fun iv _ => N - (intOf iv).toNat)
      case atStart => exact ⟨0, by omega, rfl, ⟨BW.out, BF.out, BX.out, fun j hj => by omega⟩⟩
      case round =>
        clear BW BF BX c0 c1 c2 c3 c4 c5 c6 c7 cf
        obtain ⟨i, hi, rfl, hp⟩ := hrel
        have BW := Aside.mk hp.out.1
        have BF := Aside.mk hp.out.2.1
        have BX := Aside.mk hp.out.2.2.1
        have HA := Aside.mk hp.out.2.2.2
        clear hp
        obtain ⟨c0, c1, c2, c3, c4, c5, c6, c7⟩ := box8 BX.out
        have cf := cell_blk (k := 0) BF.out
        simp at cf
        by_cases hlt : i < N
        · have hlt2 : (i : Int) < c.n := by have := S2.out; omega
          have hb8 : i / 8 < c.bits.length := by omega
          have hroom := sized_room HS.out i (by have := S2.out; omega)
          have hword := Aside.mk (fun (w2 : World) hb => fword_any W hW c B D E X i hroom HC.out.data HC.out.ld w2 (HR.out.data.below hb))
          have hnull := Aside.mk (fun (w2 : World) hb => null_any c B D E X i hb8 HC.out.bits HC.out.lb w2 (HR.out.bits.below hb))
          have hwl := wordAt_lt HC.out.data (i * W) W
          have hw8 : 256 ^ W ≤ 256 ^ 8 := Nat.pow_le_pow_right (by decide) (by omega)
          have h88 : (256 : Nat) ^ 8 = 18446744073709551616 := by decide
          have hx64 : wordAt c.data (i * W) W < 18446744073709551616 := by omega
          have hok := Aside.mk (show okAt c.k c.s W c i = if nullB c.bits i then wordAt c.data (i * W) W == 0 else fitsB c.k c.s (wordAt c.data (i * W) W) from rfl)
          have hfit := Aside.mk (fun (w2 : World) => fits_any c.k c.s (wordAt c.data (i * W) W) (by omega) (by omega) w2)
          clear hwl hw8 h88 hroom
          generalize wordAt c.data (i * W) W = x at *
          generalize nullB c.bits i = nb at *
          generalize fitsB c.k c.s (x : Int) = fb at *
          cases nb with
          | true =>
            by_cases hx0 : x = 0
            · subst hx0
              go_wp2_with (first | (go_at_call 88; refine (hword.out _ BW.out).mono ?_; rintro e w2 ⟨rfl, hb2⟩; replace BW := Aside.mk (BW.out.trans (hb2.mono BW.out.size)); replace BF := Aside.mk ((hb2.block _ (lt_of_blk BF.out)).trans BF.out); replace BX := Aside.mk ((hb2.block _ (lt_of_blk BX.out)).trans BX.out); obtain ⟨c0, c1, c2, c3, c4, c5, c6, c7⟩ := box8 BX.out; have cf := cell_blk (k := 0) BF.out; simp at cf; clear hb2) | (go_at_call 129; refine (hnull.out _ BW.out).mono ?_; rintro e w2 ⟨rfl, hb2⟩; replace BW := Aside.mk (BW.out.trans (hb2.mono BW.out.size)); replace BF := Aside.mk ((hb2.block _ (lt_of_blk BF.out)).trans BF.out); replace BX := Aside.mk ((hb2.block _ (lt_of_blk BX.out)).trans BX.out); obtain ⟨c0, c1, c2, c3, c4, c5, c6, c7⟩ := box8 BX.out; have cf := cell_blk (k := 0) BF.out; simp at cf; clear hb2))
              refine ⟨⟨i + 1, by omega, by simp, ⟨BW.out, BF.out, BX.out, fun j hj => ?_⟩⟩, by simp [intOf]; omega⟩
              rcases Nat.lt_or_ge j i with h | h
              · exact HA.out j h
              · obtain rfl : j = i := by omega
                rw [hok.out]; rfl
            · have hx1 : (((x : Int)) == 0) = false := by simp; omega
              go_wp2_with (first | (go_at_call 88; refine (hword.out _ BW.out).mono ?_; rintro e w2 ⟨rfl, hb2⟩; replace BW := Aside.mk (BW.out.trans (hb2.mono BW.out.size)); replace BF := Aside.mk ((hb2.block _ (lt_of_blk BF.out)).trans BF.out); replace BX := Aside.mk ((hb2.block _ (lt_of_blk BX.out)).trans BX.out); obtain ⟨c0, c1, c2, c3, c4, c5, c6, c7⟩ := box8 BX.out; have cf := cell_blk (k := 0) BF.out; simp at cf; clear hb2) | (go_at_call 129; refine (hnull.out _ BW.out).mono ?_; rintro e w2 ⟨rfl, hb2⟩; replace BW := Aside.mk (BW.out.trans (hb2.mono BW.out.size)); replace BF := Aside.mk ((hb2.block _ (lt_of_blk BF.out)).trans BF.out); replace BX := Aside.mk ((hb2.block _ (lt_of_blk BX.out)).trans BX.out); obtain ⟨c0, c1, c2, c3, c4, c5, c6, c7⟩ := box8 BX.out; have cf := cell_blk (k := 0) BF.out; simp at cf; clear hb2))
              go_ret
              exact ⟨ret_bool (by rw [HM.out]; exact (all_false hlt (by rw [hok.out]; first | rfl | (simp; omega))).symm), BW.out⟩
          | false =>
            cases fb with
            | true =>
              go_wp2_with (first | (go_at_call 88; refine (hword.out _ BW.out).mono ?_; rintro e w2 ⟨rfl, hb2⟩; replace BW := Aside.mk (BW.out.trans (hb2.mono BW.out.size)); replace BF := Aside.mk ((hb2.block _ (lt_of_blk BF.out)).trans BF.out); replace BX := Aside.mk ((hb2.block _ (lt_of_blk BX.out)).trans BX.out); obtain ⟨c0, c1, c2, c3, c4, c5, c6, c7⟩ := box8 BX.out; have cf := cell_blk (k := 0) BF.out; simp at cf; clear hb2) | (go_at_call 129; refine (hnull.out _ BW.out).mono ?_; rintro e w2 ⟨rfl, hb2⟩; replace BW := Aside.mk (BW.out.trans (hb2.mono BW.out.size)); replace BF := Aside.mk ((hb2.block _ (lt_of_blk BF.out)).trans BF.out); replace BX := Aside.mk ((hb2.block _ (lt_of_blk BX.out)).trans BX.out); obtain ⟨c0, c1, c2, c3, c4, c5, c6, c7⟩ := box8 BX.out; have cf := cell_blk (k := 0) BF.out; simp at cf; clear hb2) | (go_at_call 74; refine (hfit.out _).mono ?_; rintro e w2 ⟨rfl, hb2⟩; replace BW := Aside.mk (BW.out.trans (hb2.mono BW.out.size)); replace BF := Aside.mk ((hb2.block _ (lt_of_blk BF.out)).trans BF.out); replace BX := Aside.mk ((hb2.block _ (lt_of_blk BX.out)).trans BX.out); obtain ⟨c0, c1, c2, c3, c4, c5, c6, c7⟩ := box8 BX.out; have cf := cell_blk (k := 0) BF.out; simp at cf; clear hb2))
              refine ⟨⟨i + 1, by omega, by simp, ⟨BW.out, BF.out, BX.out, fun j hj => ?_⟩⟩, by simp [intOf]; omega⟩
              rcases Nat.lt_or_ge j i with h | h
              · exact HA.out j h
              · obtain rfl : j = i := by omega
                rw [hok.out]; rfl
            | false =>
              go_wp2_with (first | (go_at_call 88; refine (hword.out _ BW.out).mono ?_; rintro e w2 ⟨rfl, hb2⟩; replace BW := Aside.mk (BW.out.trans (hb2.mono BW.out.size)); replace BF := Aside.mk ((hb2.block _ (lt_of_blk BF.out)).trans BF.out); replace BX := Aside.mk ((hb2.block _ (lt_of_blk BX.out)).trans BX.out); obtain ⟨c0, c1, c2, c3, c4, c5, c6, c7⟩ := box8 BX.out; have cf := cell_blk (k := 0) BF.out; simp at cf; clear hb2) | (go_at_call 129; refine (hnull.out _ BW.out).mono ?_; rintro e w2 ⟨rfl, hb2⟩; replace BW := Aside.mk (BW.out.trans (hb2.mono BW.out.size)); replace BF := Aside.mk ((hb2.block _ (lt_of_blk BF.out)).trans BF.out); replace BX := Aside.mk ((hb2.block _ (lt_of_blk BX.out)).trans BX.out); obtain ⟨c0, c1, c2, c3, c4, c5, c6, c7⟩ := box8 BX.out; have cf := cell_blk (k := 0) BF.out; simp at cf; clear hb2) | (go_at_call 74; refine (hfit.out _).mono ?_; rintro e w2 ⟨rfl, hb2⟩; replace BW := Aside.mk (BW.out.trans (hb2.mono BW.out.size)); replace BF := Aside.mk ((hb2.block _ (lt_of_blk BF.out)).trans BF.out); replace BX := Aside.mk ((hb2.block _ (lt_of_blk BX.out)).trans BX.out); obtain ⟨c0, c1, c2, c3, c4, c5, c6, c7⟩ := box8 BX.out; have cf := cell_blk (k := 0) BF.out; simp at cf; clear hb2))
              go_ret
              exact ⟨ret_bool (by rw [HM.out]; exact (all_false hlt (by rw [hok.out]; first | rfl | (simp; omega))).symm), BW.out⟩
        · obtain rfl : i = N := by omega
          have hlt2 : ¬ (i : Int) < c.n := by have := S2.out; omega
          go_wp2
          go_ret
          exact ⟨ret_bool (by rw [HM.out]; exact (all_range HA.out).symm), BW.out⟩
end Go.Proofs.YtmhjjhaipcgbiaaGreat


namespace Go.Proofs.YtmhjjhaipcgbiaaGreat
open Go.RowKit
set_option linter.unusedVariables false
set_option linter.unusedSimpArgs false
set_option maxRecDepth 100000
set_option maxHeartbeats 1000000
theorem one_map {α : Type} (f : α → Value) (h : ∀ a, (f a).oneCell' = true) (l : List α) : ∀ u ∈ l.map f, u.oneCell' = true := by
  intro u hu
  obtain ⟨a, _, rfl⟩ := List.mem_map.1 hu
  exact h a
theorem intinfo : (Tryz.prog.info? 3).map (fun i => (i.zero, i.size, i.bytes)) = some (some (.int .i64 0), 1, 8) := by kernel_rfl
def CloneP (E : TypeId) (n : Nat) (xs : List Value) (w : World) (e : Ending) (w' : World) : Prop :=
  ∃ v', e = .returned v' ∧ Own w' w.heap.size E 1 v' n xs ∧ Below w.heap.size w w'
theorem eq_nil_some8 (a : Addr) (n c : Nat) (w : World) : (binOp .eql 43 (.slice (some a) n c) (.slice none 0 0)).run Tryz.prog w = .ok (.bool false) w := by kernel_rfl
theorem eq_nil_none8 (w : World) : (binOp .eql 43 (.slice none 0 0) (.slice none 0 0)).run Tryz.prog w = .ok (.bool true) w := by kernel_rfl
theorem eq_nil_somei (a : Addr) (n c : Nat) (w : World) : (binOp .eql 61 (.slice (some a) n c) (.slice none 0 0)).run Tryz.prog w = .ok (.bool false) w := by kernel_rfl
theorem eq_nil_nonei (w : World) : (binOp .eql 61 (.slice none 0 0) (.slice none 0 0)).run Tryz.prog w = .ok (.bool true) w := by kernel_rfl
theorem clone_bytes (v : Value) (n : Nat) (xs : List Value) (w : World) (hn : n ≤ 1000000000) (h : Rd w 1 v n xs) (h1 : ∀ u ∈ xs, u.oneCell' = true) : Calls Tryz.prog 91 #[v] w (CloneP 5 n xs w) := by
  obtain ⟨a, cap, rfl⟩ := h.form
  cases a with
  | none =>
    obtain ⟨hl, a', cap', hsl, _, _, h0, _⟩ := h
    simp only [Value.slice.injEq, true_and] at hsl
    obtain ⟨rfl, rfl⟩ := hsl
    obtain ⟨rfl, rfl⟩ := h0 rfl
    obtain rfl : xs = [] := List.eq_nil_of_length_eq_zero (by simpa using hl)
    have he := eq_nil_none8
    go_enter Tryz.func91, Tryz.ntmps91
    go_wp2
    go_ret
    exact ⟨_, rfl, Own.nil _ _ _ _, Below.refl _ _⟩
  | some a =>
    have hm := h.max
    have hs := h.below (below_new w (.cells #[] 5))
    have HS := Aside.mk (hs.src (tx := 43) (P := Tryz.prog) Tryz.underlying43 h1)
    have he := eq_nil_some8
    have hz : w.heap.size ≤ (w.alloc (.cells #[] 5)).heap.size := by simp
    have HZ := Aside.mk hz
    clear h hs hz
    go_enter Tryz.func91, Tryz.ntmps91
    go_wp2_with (at_builtin; refine wpList_app _ rfl _ _ 43 43 rfl w.heap.size 5 (.int .u8 0) 1 1 Tryz.underlying43 u8info rfl _ _ _ rfl (own_empty w w.heap.size w.heap.size 5 1 rfl (Nat.le_refl _)) _ n xs rfl HS.out (by unfold maxLen; omega) (by omega) HZ.out ?_)
    intro v' w5 hown' hgrow _ hat
    obtain ⟨a5, c5, rfl⟩ := hown'.form
    have HO := Aside.mk hown'
    have HB := Aside.mk ((below_new w (.cells #[] 5)).trans (below_of_grown hgrow HZ.out (fun k e => by simp [Value.ownBlock] at e; omega)))
    clear hown' hgrow hat
    go_wp2
    go_ret
    refine ⟨_, rfl, ?_, HB.out⟩
    have := HO.out
    simpa using this
theorem clone_ints (v : Value) (n : Nat) (xs : List Value) (w : World) (hn : n ≤ 1000000000) (h : Rd w 1 v n xs) (h1 : ∀ u ∈ xs, u.oneCell' = true) : Calls Tryz.prog 92 #[v] w (CloneP 3 n xs w) := by
  obtain ⟨a, cap, rfl⟩ := h.form
  cases a with
  | none =>
    obtain ⟨hl, a', cap', hsl, _, _, h0, _⟩ := h
    simp only [Value.slice.injEq, true_and] at hsl
    obtain ⟨rfl, rfl⟩ := hsl
    obtain ⟨rfl, rfl⟩ := h0 rfl
    obtain rfl : xs = [] := List.eq_nil_of_length_eq_zero (by simpa using hl)
    have he := eq_nil_nonei
    go_enter Tryz.func92, Tryz.ntmps92
    go_wp2
    go_ret
    exact ⟨_, rfl, Own.nil _ _ _ _, Below.refl _ _⟩
  | some a =>
    have hm := h.max
    have hs := h.below (below_new w (.cells #[] 3))
    have HS := Aside.mk (hs.src (tx := 61) (P := Tryz.prog) Tryz.underlying61 h1)
    have he := eq_nil_somei
    have hz : w.heap.size ≤ (w.alloc (.cells #[] 3)).heap.size := by simp
    have HZ := Aside.mk hz
    clear h hs hz
    go_enter Tryz.func92, Tryz.ntmps92
    go_wp2_with (at_builtin; refine wpList_app _ rfl _ _ 61 61 rfl w.heap.size 3 (.int .i64 0) 1 8 Tryz.underlying61 intinfo rfl _ _ _ rfl (own_empty w w.heap.size w.heap.size 3 1 rfl (Nat.le_refl _)) _ n xs rfl HS.out (by unfold maxLen; omega) (by omega) HZ.out ?_)
    intro v' w5 hown' hgrow _ hat
    obtain ⟨a5, c5, rfl⟩ := hown'.form
    have HO := Aside.mk hown'
    have HB := Aside.mk ((below_new w (.cells #[] 3)).trans (below_of_grown hgrow HZ.out (fun k e => by simp [Value.ownBlock] at e; omega)))
    clear hown' hgrow hat
    go_wp2
    go_ret
    refine ⟨_, rfl, ?_, HB.out⟩
    have := HO.out
    simpa using this
theorem make_none (w : World) : (Instr.makeSlice 37 (.int .i64 0) (.int .i64 0)).run Tryz.prog w = .ok (.slice (some ⟨w.heap.size, 0, none⟩) 0 0) (w.alloc (.cells #[] 43)) := by kernel_rfl
theorem words_empty (lw : Nat) (mv : Value) (w : World) (h : w.heap[lw]? = some (.cells #[.slice none 0 0, mv] 212 (0, 0))) : Calls Tryz.prog 93 #[.pointer (some ⟨lw, 0, none⟩)] w (CloneP 43 0 [] w) := by
  have hc := cell_blk (k := 0) h
  simp at hc
  have hl := lt_of_blk h
  have H := Aside.mk h
  clear h
  have hms := make_none
  go_enter Tryz.func93, Tryz.ntmps93
  go_wp2
  refine wp_loop_rounds 1 ?_
  rw [rounds_succ]
  go_wp2
  go_ret
  exact ⟨_, rfl, own_empty w w.heap.size w.heap.size 43 1 rfl (Nat.le_refl _), below_new w _⟩
end Go.Proofs.YtmhjjhaipcgbiaaGreat


namespace Go.Proofs.YtmhjjhaipcgbiaaGreat
open Go.RowKit
set_option linter.unusedVariables false
set_option linter.unusedSimpArgs false
set_option maxRecDepth 100000
set_option maxHeartbeats 1000000
theorem assert_running (v : Value) (w : World) : (Instr.typeAssert (.iface 165 v) 159 162 true).run Tryz.prog w = .ok (.tuple #[.agg #[], .bool false]) w := by kernel_rfl
theorem assert_coded (v : Value) (w : World) : (Instr.typeAssert (.iface 165 v) 159 167 true).run Tryz.prog w = .ok (.tuple #[.agg #[.int .i64 0], .bool false]) w := by kernel_rfl
theorem assert_fixed (v : Value) (w : World) : (Instr.typeAssert (.iface 165 v) 159 165 true).run Tryz.prog w = .ok (.tuple #[v, .bool true]) w := by kernel_rfl
theorem boolinfo : (Tryz.prog.info? 4).map (fun i => (i.zero, i.size, i.bytes)) = some (some (.bool false), 1, 1) := by kernel_rfl
theorem own_in {w4 : World} {bl lw base : Nat} {k s : Int} {nulls : List Bool} {data ends : List Int} {nv dv ev : Value} {m : Nat} (h : IsB w4 bl lw base k s nulls data ends nv dv ev) (hm : nulls.length = m) {o : Obj} : Own (w4.alloc o).drew base 4 1 nv m (nulls.map .bool) := by
  rw [← hm]
  exact h.nulls.alloc o
theorem isB_ad {w4 : World} {bl lw base : Nat} {k s : Int} {nulls : List Bool} {data ends : List Int} {nv dv ev : Value} (h : IsB w4 bl lw base k s nulls data ends nv dv ev) (o : Obj) : IsB (w4.alloc o).drew bl lw base k s nulls data ends nv dv ev := (h.below (below_new w4 o)).drewN 1
theorem blk_grown {w4 w5 : World} {bl lw base : Nat} {k s : Int} {nulls : List Bool} {data ends : List Int} {nv dv ev : Value} (h : IsB w4 bl lw base k s nulls data ends nv dv ev) {o : Obj} (hg : (w4.alloc o).drew.grownBy w5 nv.ownBlock) : w5.heap[bl]? = some (.cells #[.int .i64 k, .int .i64 s, nv, dv, ev, .pointer (some ⟨lw, 0, none⟩)] 142 (0, 0)) :=
  (hg.block bl (lt_of_blk (isB_ad h o).blk) (fun e => h.nulls.blk_ne h.blk (by decide) e.symm)).trans (isB_ad h o).blk
theorem isB_grown {w4 w5 : World} {bl lw base : Nat} {k s : Int} {nulls : List Bool} {data ends : List Int} {nv nv' dv ev : Value} {m : Nat} {nl : Bool} (h : IsB w4 bl lw base k s nulls data ends nv dv ev) (hm : nulls.length = m) {o : Obj} (hg : (w4.alloc o).drew.grownBy w5 nv.ownBlock) (hown : Own w5 base 4 1 nv' (m + 1) (nulls.map .bool ++ [.bool nl])) :
    IsB (w5.setCell ⟨bl, 2, none⟩ nv') bl lw base k s (nulls ++ [nl]) data ends nv' dv ev ∧ Kept (fun b => b = bl ∨ nv.ownBlock = some b) w4 (w5.setCell ⟨bl, 2, none⟩ nv') := by
  have := (isB_ad h o).app_nulls (nulls' := nulls ++ [nl]) hg (by rw [List.length_append, hm, List.map_append]; exact hown)
  exact ⟨this.1, ((Kept.of_below ((below_new w4 o).trans (below_drewN (w4.alloc o) _ 1))).trans this.2 (fun _ e _ => e))⟩
def AddP (bl lw base : Nat) (k s : Int) (nulls : List Bool) (data : List Int) (ends : List Int) (nv dv ev : Value) (X : Nat) (nl : Bool) (w : World) (e : Ending) (w' : World) : Prop :=
  e = .returned (.tuple #[]) ∧ ∃ nv' dv', IsB w' bl lw base k s (nulls ++ [nl]) (data ++ lows X (widthOf k).toNat) ends nv' dv' ev ∧ Kept (fun b => b = bl ∨ dv.ownBlock = some b ∨ nv.ownBlock = some b) w w' ∧
    (dv'.ownBlock = dv.ownBlock ∨ ∃ b, dv'.ownBlock = some b ∧ w.heap.size ≤ b) ∧ (nv'.ownBlock = nv.ownBlock ∨ ∃ b, nv'.ownBlock = some b ∧ w.heap.size ≤ b)
theorem add_fixed (bl lw base : Nat) (k s : Int) (hk1 : (k == 15) = false) (hk2 : (k == 16) = false) (nulls : List Bool) (data : List Int) (ends : List Int) (nv dv ev : Value) (X : Nat) (tv : Value) (nl : Bool) (hX : X < 18446744073709551616) (hl : data.length ≤ 100000000) (hl2 : nulls.length ≤ 100000000) (w : World) (h : IsB w bl lw base k s nulls data ends nv dv ev) (hb : base ≤ w.heap.size) :
    Calls Tryz.prog 72 #[.pointer (some ⟨bl, 0, none⟩), .agg #[.int .u64 (X : Int), tv, .bool nl]] w (AddP bl lw base k s nulls data ends nv dv ev X nl w) := by
  have hbs := lt_of_blk h.blk
  have hc0 := cell_blk (k := 0) h.blk
  have hc1 := cell_blk (k := 1) h.blk
  simp at hc0 hc1
  have H0 := Aside.mk h
  clear h
  obtain ⟨n, hn⟩ : ∃ n : Nat, widthOf k = (n : Int) ∧ n ≤ 8 := by
    refine ⟨(widthOf k).toNat, ?_⟩
    unfold widthOf
    split
    · decide
    split
    · decide
    split
    · decide
    split <;> decide
  obtain ⟨hn, hn8⟩ := hn
  have ta1 := assert_running
  have ta2 := assert_coded
  have ta3 := assert_fixed
  go_enter Tryz.func72, Tryz.ntmps72
  go_wp2_with (first | (go_at_call 86; refine (of_fixed k s hk1 hk2 _).mono ?_; rintro e w1 ⟨rfl, rfl⟩; rw [hn]))
  have B3 : Below w.heap.size w (((w.alloc (.cells #[.int .u64 (X : Int), tv, .bool nl] 145)).alloc (.cells #[.int .i64 k, .int .i64 s] 23)).alloc (.cells #[.int .i64 (n : Int)] 165)) := (((Below.refl _ _).alloc (Nat.le_refl _) _).alloc (by simp) _).alloc (by simp; omega) _
  have hv3 : (((w.alloc (.cells #[.int .u64 (X : Int), tv, .bool nl] 145)).alloc (.cells #[.int .i64 k, .int .i64 s] 23)).alloc (.cells #[.int .i64 (n : Int)] 165)).heap[w.heap.size]? = some (.cells #[.int .u64 (X : Int), tv, .bool nl] 145 (0, 0)) := by
    rw [Below.heap_alloc _ _ _ (by simp; omega), Below.heap_alloc _ _ _ (by simp)]
    exact heap_alloc_new _ _
  generalize hw3 : (((w.alloc (.cells #[.int .u64 (X : Int), tv, .bool nl] 145)).alloc (.cells #[.int .i64 k, .int .i64 s] 23)).alloc (.cells #[.int .i64 (n : Int)] 165)) = w3 at *
  clear hw3
  have hs3 := B3.size
  refine (word_any bl lw base k s nulls data ends nv dv ev X n hn8 hX hl w3 (H0.out.below B3) (by omega)).mono ?_
  rintro e w4 ⟨rfl, dv', h4, k4, o4⟩
  have hdlt := H0.out.data.lt
  have hvb := lt_of_blk hv3
  have hv4 := (k4.block w.heap.size hvb (by
    rintro (e | e)
    · omega
    · have := (hdlt _ e).2; omega)).trans hv3
  have hcv := cell_blk (k := 2) hv4
  have hcn := cell_blk (k := 2) h4.blk
  have hfn := frozen_blk (k := 2) h4.blk
  simp at hcv hcn
  obtain ⟨a1, c1, rfl⟩ := h4.nulls.form
  have hbs4 := lt_of_blk h4.blk
  have H4 := Aside.mk h4
  have K4 := Aside.mk k4
  have O4 := Aside.mk o4
  have B3 := Aside.mk B3
  have HV4 := Aside.mk hv4
  have HN := Aside.mk hn
  clear h4 k4 o4 hdlt hv3 hv4 H0 hc0 hc1 ta1 ta2 ta3 hn
  generalize hm : nulls.length = m at *
  have HM := Aside.mk hm
  clear hm
  go_wp2_with (fail)
  have hown := Aside.mk (own_in (o := .cells #[.bool nl] 4) H4.out HM.out)
  have hsrc := Aside.mk (src_one_drew (P := Tryz.prog) (w := w4) Tryz.underlying140 w4.heap.size (.bool nl) 4 rfl rfl)
  have hbase : base ≤ ((w4.alloc (.cells #[.bool nl] 4)).drew).heap.size := by have := K4.out.size; show base ≤ (w4.alloc _).heap.size; simp; omega
  have hbase := Aside.mk hbase
  have h63 : m + 1 ≤ maxLen := by unfold maxLen; omega
  have h63 := Aside.mk h63
  have hby : (m + 1) * 1 ≤ 140737488355328 := by omega
  have hby := Aside.mk hby
  go_region_law ((refine step_app (P := Tryz.prog) ((w4.alloc (.cells #[.bool nl] 4)).drew) (by rfl) (.tmp 74) (.tmp 77) 140 140 (by rfl) base 4 (.bool false) 1 1 Tryz.underlying140 boolinfo (by rfl) (.slice a1 m c1) m (nulls.map .bool) (by rfl) hown.out (.slice (some ⟨w4.heap.size, 0, none⟩) 1 1) 1 [.bool nl] (by rfl) hsrc.out h63.out hby.out hbase.out ?_; intro v' w5 hown' hgrow _ hat; obtain ⟨a5, c5, rfl⟩ := hown'.form; have hc5 := cell_blk (k := 2) (blk_grown H4.out hgrow); have hf5 := frozen_blk (k := 2) (blk_grown H4.out hgrow); simp at hc5; have HH := Aside.mk (isB_grown H4.out HM.out hgrow hown'); have HAT := Aside.mk hat; clear hown' hgrow hat))
  all_goals
    go_wp2
    refine bodyPost_ret (v := .tuple #[]) (by simp [results, Tryz.results72, go_sem]) rfl ?_
    have en : (widthOf k).toNat = n := by rw [HN.out]; simp
    refine ⟨rfl, _, dv', by rw [en]; exact HH.out.1, ?_, ?_, ?_⟩
    · refine ((Kept.of_below B3.out).trans K4.out ?_).trans HH.out.2 ?_
      · rintro b (e | e) _
        · exact .inl e
        · exact .inr (.inl e)
      · rintro b (e | e) _
        · exact .inl e
        · exact .inr (.inr e)
    · rcases O4.out with e | ⟨b, e, h⟩
      · exact .inl e
      · exact .inr ⟨b, e, by omega⟩
    · rcases HAT.out with e | ⟨b, e, h⟩
      · exact .inl e
      · refine .inr ⟨b, e, ?_⟩
        have h2 : w4.heap.size + 1 ≤ b := by simpa using h
        have := K4.out.size
        omega
end Go.Proofs.YtmhjjhaipcgbiaaGreat


namespace Go.Proofs.YtmhjjhaipcgbiaaGreat
open Go.RowKit
set_option linter.unusedVariables false
set_option linter.unusedSimpArgs false
set_option maxRecDepth 100000
set_option maxHeartbeats 1000000
theorem texts_no (bl lw base : Nat) (k s : Int) (hk1 : (k == 15) = false) (hk2 : (k == 16) = false) (nulls : List Bool) (data : List Int) (ends : List Int) (nv dv ev : Value) (w : World) (h : IsB w bl lw base k s nulls data ends nv dv ev) :
    Calls Tryz.prog 73 #[.pointer (some ⟨bl, 0, none⟩)] w fun e w' => e = .returned (.bool false) ∧ w = w' := by
  have hc0 := cell_blk (k := 0) h.blk
  simp at hc0
  clear h
  go_enter Tryz.func73, Tryz.ntmps73
  go_wp2
  go_ret
  exact ⟨rfl, rfl⟩
theorem null_fixed (bl lw base : Nat) (k s : Int) (hk1 : (k == 15) = false) (hk2 : (k == 16) = false) (nulls : List Bool) (data : List Int) (ends : List Int) (nv dv ev : Value) (hl : data.length ≤ 100000000) (hl2 : nulls.length ≤ 100000000) (w : World) (h : IsB w bl lw base k s nulls data ends nv dv ev) (hb : base ≤ w.heap.size) :
    Calls Tryz.prog 16 #[.pointer (some ⟨bl, 0, none⟩)] w (AddP bl lw base k s nulls data ends nv dv ev 0 true w) := by
  have H := Aside.mk h
  clear h
  go_enter Tryz.func16, Tryz.ntmps16
  go_wp2_with (go_at_call 72; refine (add_fixed bl lw base k s hk1 hk2 nulls data ends nv dv ev 0 _ true (by omega) hl hl2 _ H.out hb).mono ?_; rintro e w1 ⟨rfl, hp⟩)
  refine bodyPost_ret (v := .tuple #[]) (by simp [results, Tryz.results16, go_sem]) rfl ⟨rfl, hp⟩
def PutP (bl lw base : Nat) (k s : Int) (nulls : List Bool) (data : List Int) (ends : List Int) (nv dv ev : Value) (X : Nat) (w : World) (e : Ending) (w' : World) : Prop :=
  e = .returned (.int .i64 0) ∧ AddP bl lw base k s nulls data ends nv dv ev X false w (.returned (.tuple #[])) w'
theorem put_fixed (bl lw base : Nat) (k s : Int) (hk1 : (k == 15) = false) (hk2 : (k == 16) = false) (nulls : List Bool) (data : List Int) (ends : List Int) (nv dv ev : Value) (X : Nat) (hX : X < 18446744073709551616) (hf : fitsB k s X = true) (hl : data.length ≤ 100000000) (hl2 : nulls.length ≤ 100000000) (w : World) (h : IsB w bl lw base k s nulls data ends nv dv ev) (hb : base ≤ w.heap.size) :
    Calls Tryz.prog 17 #[.pointer (some ⟨bl, 0, none⟩), .int .u64 (X : Int)] w (PutP bl lw base k s nulls data ends nv dv ev X w) := by
  have hc0 := cell_blk (k := 0) h.blk
  have hc1 := cell_blk (k := 1) h.blk
  simp at hc0 hc1
  have hl3 := h.data.lt
  have hl4 := h.nulls.lt
  have HL := Aside.mk (And.intro hl3 hl4)
  have hbs := lt_of_blk h.blk
  have H := Aside.mk h
  have HF := Aside.mk hf
  clear h hf hl3 hl4
  go_enter Tryz.func17, Tryz.ntmps17
  go_wp2_with (first | (go_at_call 73; refine (texts_no bl lw base k s hk1 hk2 nulls data ends nv dv ev _ H.out).mono ?_; rintro e w1 ⟨rfl, rfl⟩) | (go_at_call 74; refine (fits_any k s X (by omega) (by omega) _).mono ?_; rintro e w2 ⟨rfl, hb2⟩; rw [HF.out]; have B2 := Aside.mk hb2; have hz2 := hb2.size; clear hb2) | (go_at_call 72; refine (add_fixed bl lw base k s hk1 hk2 nulls data ends nv dv ev X _ false hX hl hl2 _ (H.out.below B2.out) (by omega)).mono ?_; rintro e w3 ⟨rfl, hp⟩; have HP := Aside.mk hp; clear hp))
  go_ret
  refine ⟨rfl, rfl, ?_⟩
  obtain ⟨nv', dv', h1, h2, h3, h4⟩ := HP.out
  refine ⟨nv', dv', h1, (Kept.of_below B2.out).trans h2 (fun _ e _ => e), ?_, ?_⟩
  · rcases h3 with e | ⟨b, e, h⟩
    · exact .inl e
    · exact .inr ⟨b, e, by omega⟩
  · rcases h4 with e | ⟨b, e, h⟩
    · exact .inl e
    · exact .inr ⟨b, e, by omega⟩
end Go.Proofs.YtmhjjhaipcgbiaaGreat


namespace Go.Proofs.YtmhjjhaipcgbiaaGreat
open Go.RowKit
set_option linter.unusedVariables false
set_option linter.unusedSimpArgs false
set_option maxRecDepth 100000
set_option maxHeartbeats 8000000
theorem below_chain {a y z : World} (h1 : Below a.heap.size a y) (h2 : Below y.heap.size y z) : Below a.heap.size a z := h1.trans (h2.mono h1.size)
theorem col_size {w w2 : World} {cs : Array Value} {T : TypeId} (h : Below (w.alloc (.cells cs T)).heap.size (w.alloc (.cells cs T)) w2) : w.heap.size + 1 ≤ w2.heap.size := by
  have := h.size
  simpa using this
theorem own_sets {w ww wf : World} {base E sz n : Nat} {v : Value} {xs : List Value} (h : Own ww base E sz v n xs) (hb : w.heap.size + 1 ≤ base) (hk : Kept (fun b => b = w.heap.size) ww wf) : Own wf w.heap.size E sz v n xs :=
  (h.kept hk (fun k e1 e => by have := (h.lt k e1).1; omega)).mono (by omega)
theorem below_drew1 (w : World) : Below w.heap.size w w.drew := below_drewN w _ 1
theorem undrew {w w' : World} (h : Below w.drew.heap.size w.drew w') : Below w.heap.size w w' := ⟨h.os, h.tape, h.output, h.size, h.block⟩
theorem colS_next {w w1 w2 : World} {bl lw : Nat} {k s : Int} {nv dv ev : Value} (h : w1.cell? ⟨bl, 0, none⟩ = some (.int .i64 k) ∧ w1.cell? ⟨bl, 1, none⟩ = some (.int .i64 s) ∧ w1.cell? ⟨bl, 2, none⟩ = some (nv) ∧ w1.cell? ⟨bl, 3, none⟩ = some (dv) ∧ w1.cell? ⟨bl, 4, none⟩ = some (ev) ∧ w1.cell? ⟨bl, 5, none⟩ = some (.pointer (some ⟨lw, 0, none⟩)) ∧ w1.cell? ⟨w.heap.size, 0, none⟩ = some (.int .i64 0) ∧ w1.cell? ⟨w.heap.size, 1, none⟩ = some (.int .i64 0) ∧ w1.cell? ⟨w.heap.size, 2, none⟩ = some (.int .i64 0) ∧ w1.cell? ⟨w.heap.size, 3, none⟩ = some (.int .i64 0) ∧ w1.cell? ⟨w.heap.size, 4, none⟩ = some (.slice none 0 0) ∧ w1.cell? ⟨w.heap.size, 5, none⟩ = some (.slice none 0 0) ∧ w1.cell? ⟨w.heap.size, 6, none⟩ = some (.slice none 0 0) ∧ w1.cell? ⟨w.heap.size, 7, none⟩ = some (.slice none 0 0) ∧ w1.frozen? ⟨w.heap.size, 0, none⟩ = false ∧ w1.frozen? ⟨w.heap.size, 1, none⟩ = false ∧ w1.frozen? ⟨w.heap.size, 2, none⟩ = false ∧ w1.frozen? ⟨w.heap.size, 3, none⟩ = false ∧ w1.frozen? ⟨w.heap.size, 4, none⟩ = false ∧ w1.frozen? ⟨w.heap.size, 5, none⟩ = false ∧ w1.frozen? ⟨w.heap.size, 6, none⟩ = false ∧ w1.frozen? ⟨w.heap.size, 7, none⟩ = false ∧ Aside (Below w.heap.size w w1)) (hb : Below w1.heap.size w1 w2) : w2.cell? ⟨bl, 0, none⟩ = some (.int .i64 k) ∧ w2.cell? ⟨bl, 1, none⟩ = some (.int .i64 s) ∧ w2.cell? ⟨bl, 2, none⟩ = some (nv) ∧ w2.cell? ⟨bl, 3, none⟩ = some (dv) ∧ w2.cell? ⟨bl, 4, none⟩ = some (ev) ∧ w2.cell? ⟨bl, 5, none⟩ = some (.pointer (some ⟨lw, 0, none⟩)) ∧ w2.cell? ⟨w.heap.size, 0, none⟩ = some (.int .i64 0) ∧ w2.cell? ⟨w.heap.size, 1, none⟩ = some (.int .i64 0) ∧ w2.cell? ⟨w.heap.size, 2, none⟩ = some (.int .i64 0) ∧ w2.cell? ⟨w.heap.size, 3, none⟩ = some (.int .i64 0) ∧ w2.cell? ⟨w.heap.size, 4, none⟩ = some (.slice none 0 0) ∧ w2.cell? ⟨w.heap.size, 5, none⟩ = some (.slice none 0 0) ∧ w2.cell? ⟨w.heap.size, 6, none⟩ = some (.slice none 0 0) ∧ w2.cell? ⟨w.heap.size, 7, none⟩ = some (.slice none 0 0) ∧ w2.frozen? ⟨w.heap.size, 0, none⟩ = false ∧ w2.frozen? ⟨w.heap.size, 1, none⟩ = false ∧ w2.frozen? ⟨w.heap.size, 2, none⟩ = false ∧ w2.frozen? ⟨w.heap.size, 3, none⟩ = false ∧ w2.frozen? ⟨w.heap.size, 4, none⟩ = false ∧ w2.frozen? ⟨w.heap.size, 5, none⟩ = false ∧ w2.frozen? ⟨w.heap.size, 6, none⟩ = false ∧ w2.frozen? ⟨w.heap.size, 7, none⟩ = false ∧ Aside (Below w.heap.size w w2) := by
  obtain ⟨h0, h1, h2, h3, h4, h5, h6, h7, h8, h9, h10, h11, h12, h13, h14, h15, h16, h17, h18, h19, h20, h21, h22⟩ := h
  have hl := World.block_lt_of_cell? _ _ h0
  have hl2 := World.block_lt_of_cell? _ _ h6
  refine ⟨(hb.cell (p := ⟨bl, 0, none⟩) hl).trans h0, (hb.cell (p := ⟨bl, 1, none⟩) hl).trans h1, (hb.cell (p := ⟨bl, 2, none⟩) hl).trans h2, (hb.cell (p := ⟨bl, 3, none⟩) hl).trans h3, (hb.cell (p := ⟨bl, 4, none⟩) hl).trans h4, (hb.cell (p := ⟨bl, 5, none⟩) hl).trans h5, (hb.cell (p := ⟨w.heap.size, 0, none⟩) hl2).trans h6, (hb.cell (p := ⟨w.heap.size, 1, none⟩) hl2).trans h7, (hb.cell (p := ⟨w.heap.size, 2, none⟩) hl2).trans h8, (hb.cell (p := ⟨w.heap.size, 3, none⟩) hl2).trans h9, (hb.cell (p := ⟨w.heap.size, 4, none⟩) hl2).trans h10, (hb.cell (p := ⟨w.heap.size, 5, none⟩) hl2).trans h11, (hb.cell (p := ⟨w.heap.size, 6, none⟩) hl2).trans h12, (hb.cell (p := ⟨w.heap.size, 7, none⟩) hl2).trans h13, (hb.frozen (p := ⟨w.heap.size, 0, none⟩) hl2).trans h14, (hb.frozen (p := ⟨w.heap.size, 1, none⟩) hl2).trans h15, (hb.frozen (p := ⟨w.heap.size, 2, none⟩) hl2).trans h16, (hb.frozen (p := ⟨w.heap.size, 3, none⟩) hl2).trans h17, (hb.frozen (p := ⟨w.heap.size, 4, none⟩) hl2).trans h18, (hb.frozen (p := ⟨w.heap.size, 5, none⟩) hl2).trans h19, (hb.frozen (p := ⟨w.heap.size, 6, none⟩) hl2).trans h20, (hb.frozen (p := ⟨w.heap.size, 7, none⟩) hl2).trans h21, ⟨h22.out.trans (hb.mono h22.out.size)⟩⟩
def SepBD (n : Nat) (mv dv : Value) : Prop := (∀ b, mv.ownBlock = some b → b < n) ∧ (∀ b, dv.ownBlock = some b → b < n) ∧ ∀ b, mv.ownBlock = some b → dv.ownBlock ≠ some b
def ColP (G : Nat → Value → World → Prop) (k s : Int) (nulls : List Bool) (data ends : List Int) (w : World) (e : Ending) (w' : World) : Prop :=
  ∃ mv dv' ev' wv, e = .returned (.agg #[.int .i64 k, .int .i64 s, .int .i64 (nulls.length : Int), .int .i64 (nulls.length : Int), mv, dv', ev', wv]) ∧
    Own w' w.heap.size 5 1 mv (mof nulls).length ((mof nulls).map (.int .u8)) ∧ Own w' w.heap.size 5 1 dv' data.length (data.map (.int .u8)) ∧ Own w' w.heap.size 3 1 ev' ends.length (ends.map (.int .i64)) ∧ (∃ n, w.heap.size < n ∧ G n wv w' ∧ SepBD n mv dv') ∧ Below w.heap.size w w'
theorem column_any (G : Nat → Value → World → Prop) (bl lw base : Nat) (k s : Int) (nulls : List Bool) (data ends : List Int) (nv dv ev : Value) (w : World)
    (hblk : w.heap[bl]? = some (.cells #[.int .i64 k, .int .i64 s, nv, dv, ev, .pointer (some ⟨lw, 0, none⟩)] 142 (0, 0)))
    (hn : Own w base 4 1 nv nulls.length (nulls.map .bool)) (hd : Own w base 5 1 dv data.length (data.map (.int .u8))) (he : Own w base 3 1 ev ends.length (ends.map (.int .i64)))
    (hl1 : nulls.length ≤ 100000000) (hl2 : data.length ≤ 1000000000) (hl3 : ends.length ≤ 1000000000)
    (hG : ∀ n v w1 w2, w.heap.size < n → G n v w1 → Kept (fun b => b = w.heap.size) w1 w2 → G n v w2) (hW : ∀ w2, Below w.heap.size w w2 → w.heap.size + 1 ≤ w2.heap.size → Calls Tryz.prog 93 #[.pointer (some ⟨lw, 0, none⟩)] w2 fun e w' => ∃ a n c, e = .returned (.slice a n c) ∧ Below w2.heap.size w2 w' ∧ G w2.heap.size (.slice a n c) w') :
    Calls Tryz.prog 34 #[.pointer (some ⟨bl, 0, none⟩)] w (ColP G k s nulls data ends w) := by
  have hbl := lt_of_blk hblk
  have hc0 : (w.alloc (.cells #[.int .i64 0, .int .i64 0, .int .i64 0, .int .i64 0, .slice none 0 0, .slice none 0 0, .slice none 0 0, .slice none 0 0] 63)).cell? ⟨bl, 0, none⟩ = some (.int .i64 k) := ((below_new w _).cell (p := ⟨bl, 0, none⟩) hbl).trans ((cell_blk (k := 0) hblk).trans rfl)
  have hc1 : (w.alloc (.cells #[.int .i64 0, .int .i64 0, .int .i64 0, .int .i64 0, .slice none 0 0, .slice none 0 0, .slice none 0 0, .slice none 0 0] 63)).cell? ⟨bl, 1, none⟩ = some (.int .i64 s) := ((below_new w _).cell (p := ⟨bl, 1, none⟩) hbl).trans ((cell_blk (k := 1) hblk).trans rfl)
  have hc2 : (w.alloc (.cells #[.int .i64 0, .int .i64 0, .int .i64 0, .int .i64 0, .slice none 0 0, .slice none 0 0, .slice none 0 0, .slice none 0 0] 63)).cell? ⟨bl, 2, none⟩ = some (nv) := ((below_new w _).cell (p := ⟨bl, 2, none⟩) hbl).trans ((cell_blk (k := 2) hblk).trans rfl)
  have hc3 : (w.alloc (.cells #[.int .i64 0, .int .i64 0, .int .i64 0, .int .i64 0, .slice none 0 0, .slice none 0 0, .slice none 0 0, .slice none 0 0] 63)).cell? ⟨bl, 3, none⟩ = some (dv) := ((below_new w _).cell (p := ⟨bl, 3, none⟩) hbl).trans ((cell_blk (k := 3) hblk).trans rfl)
  have hc4 : (w.alloc (.cells #[.int .i64 0, .int .i64 0, .int .i64 0, .int .i64 0, .slice none 0 0, .slice none 0 0, .slice none 0 0, .slice none 0 0] 63)).cell? ⟨bl, 4, none⟩ = some (ev) := ((below_new w _).cell (p := ⟨bl, 4, none⟩) hbl).trans ((cell_blk (k := 4) hblk).trans rfl)
  have hc5 : (w.alloc (.cells #[.int .i64 0, .int .i64 0, .int .i64 0, .int .i64 0, .slice none 0 0, .slice none 0 0, .slice none 0 0, .slice none 0 0] 63)).cell? ⟨bl, 5, none⟩ = some (.pointer (some ⟨lw, 0, none⟩)) := ((below_new w _).cell (p := ⟨bl, 5, none⟩) hbl).trans ((cell_blk (k := 5) hblk).trans rfl)
  have hz0 : (w.alloc (.cells #[.int .i64 0, .int .i64 0, .int .i64 0, .int .i64 0, .slice none 0 0, .slice none 0 0, .slice none 0 0, .slice none 0 0] 63)).cell? ⟨w.heap.size, 0, none⟩ = some (.int .i64 0) := (cell_blk (k := 0) (heap_alloc_new w _)).trans rfl
  have hf0 : (w.alloc (.cells #[.int .i64 0, .int .i64 0, .int .i64 0, .int .i64 0, .slice none 0 0, .slice none 0 0, .slice none 0 0, .slice none 0 0] 63)).frozen? ⟨w.heap.size, 0, none⟩ = false := frozen_blk (k := 0) (heap_alloc_new w _)
  have hz1 : (w.alloc (.cells #[.int .i64 0, .int .i64 0, .int .i64 0, .int .i64 0, .slice none 0 0, .slice none 0 0, .slice none 0 0, .slice none 0 0] 63)).cell? ⟨w.heap.size, 1, none⟩ = some (.int .i64 0) := (cell_blk (k := 1) (heap_alloc_new w _)).trans rfl
  have hf1 : (w.alloc (.cells #[.int .i64 0, .int .i64 0, .int .i64 0, .int .i64 0, .slice none 0 0, .slice none 0 0, .slice none 0 0, .slice none 0 0] 63)).frozen? ⟨w.heap.size, 1, none⟩ = false := frozen_blk (k := 1) (heap_alloc_new w _)
  have hz2 : (w.alloc (.cells #[.int .i64 0, .int .i64 0, .int .i64 0, .int .i64 0, .slice none 0 0, .slice none 0 0, .slice none 0 0, .slice none 0 0] 63)).cell? ⟨w.heap.size, 2, none⟩ = some (.int .i64 0) := (cell_blk (k := 2) (heap_alloc_new w _)).trans rfl
  have hf2 : (w.alloc (.cells #[.int .i64 0, .int .i64 0, .int .i64 0, .int .i64 0, .slice none 0 0, .slice none 0 0, .slice none 0 0, .slice none 0 0] 63)).frozen? ⟨w.heap.size, 2, none⟩ = false := frozen_blk (k := 2) (heap_alloc_new w _)
  have hz3 : (w.alloc (.cells #[.int .i64 0, .int .i64 0, .int .i64 0, .int .i64 0, .slice none 0 0, .slice none 0 0, .slice none 0 0, .slice none 0 0] 63)).cell? ⟨w.heap.size, 3, none⟩ = some (.int .i64 0) := (cell_blk (k := 3) (heap_alloc_new w _)).trans rfl
  have hf3 : (w.alloc (.cells #[.int .i64 0, .int .i64 0, .int .i64 0, .int .i64 0, .slice none 0 0, .slice none 0 0, .slice none 0 0, .slice none 0 0] 63)).frozen? ⟨w.heap.size, 3, none⟩ = false := frozen_blk (k := 3) (heap_alloc_new w _)
  have hz4 : (w.alloc (.cells #[.int .i64 0, .int .i64 0, .int .i64 0, .int .i64 0, .slice none 0 0, .slice none 0 0, .slice none 0 0, .slice none 0 0] 63)).cell? ⟨w.heap.size, 4, none⟩ = some (.slice none 0 0) := (cell_blk (k := 4) (heap_alloc_new w _)).trans rfl
  have hf4 : (w.alloc (.cells #[.int .i64 0, .int .i64 0, .int .i64 0, .int .i64 0, .slice none 0 0, .slice none 0 0, .slice none 0 0, .slice none 0 0] 63)).frozen? ⟨w.heap.size, 4, none⟩ = false := frozen_blk (k := 4) (heap_alloc_new w _)
  have hz5 : (w.alloc (.cells #[.int .i64 0, .int .i64 0, .int .i64 0, .int .i64 0, .slice none 0 0, .slice none 0 0, .slice none 0 0, .slice none 0 0] 63)).cell? ⟨w.heap.size, 5, none⟩ = some (.slice none 0 0) := (cell_blk (k := 5) (heap_alloc_new w _)).trans rfl
  have hf5 : (w.alloc (.cells #[.int .i64 0, .int .i64 0, .int .i64 0, .int .i64 0, .slice none 0 0, .slice none 0 0, .slice none 0 0, .slice none 0 0] 63)).frozen? ⟨w.heap.size, 5, none⟩ = false := frozen_blk (k := 5) (heap_alloc_new w _)
  have hz6 : (w.alloc (.cells #[.int .i64 0, .int .i64 0, .int .i64 0, .int .i64 0, .slice none 0 0, .slice none 0 0, .slice none 0 0, .slice none 0 0] 63)).cell? ⟨w.heap.size, 6, none⟩ = some (.slice none 0 0) := (cell_blk (k := 6) (heap_alloc_new w _)).trans rfl
  have hf6 : (w.alloc (.cells #[.int .i64 0, .int .i64 0, .int .i64 0, .int .i64 0, .slice none 0 0, .slice none 0 0, .slice none 0 0, .slice none 0 0] 63)).frozen? ⟨w.heap.size, 6, none⟩ = false := frozen_blk (k := 6) (heap_alloc_new w _)
  have hz7 : (w.alloc (.cells #[.int .i64 0, .int .i64 0, .int .i64 0, .int .i64 0, .slice none 0 0, .slice none 0 0, .slice none 0 0, .slice none 0 0] 63)).cell? ⟨w.heap.size, 7, none⟩ = some (.slice none 0 0) := (cell_blk (k := 7) (heap_alloc_new w _)).trans rfl
  have hf7 : (w.alloc (.cells #[.int .i64 0, .int .i64 0, .int .i64 0, .int .i64 0, .slice none 0 0, .slice none 0 0, .slice none 0 0, .slice none 0 0] 63)).frozen? ⟨w.heap.size, 7, none⟩ = false := frozen_blk (k := 7) (heap_alloc_new w _)
  have hB0 : Aside (Below w.heap.size w (w.alloc (.cells #[.int .i64 0, .int .i64 0, .int .i64 0, .int .i64 0, .slice none 0 0, .slice none 0 0, .slice none 0 0, .slice none 0 0] 63)).drew) := ⟨(below_new w _).trans (below_drewN _ _ 1)⟩
  have hB00 : Aside (Below w.heap.size w (w.alloc (.cells #[.int .i64 0, .int .i64 0, .int .i64 0, .int .i64 0, .slice none 0 0, .slice none 0 0, .slice none 0 0, .slice none 0 0] 63))) := ⟨below_new w _⟩
  obtain ⟨na, nc, rfl⟩ := hn.form
  obtain ⟨da, dc, rfl⟩ := hd.form
  obtain ⟨ea, ec, rfl⟩ := he.form
  have HS1 := Aside.mk (show (w.alloc (.cells #[.int .i64 0, .int .i64 0, .int .i64 0, .int .i64 0, .slice none 0 0, .slice none 0 0, .slice none 0 0, .slice none 0 0] 63)).cell? ⟨bl, 0, none⟩ = some (.int .i64 k) ∧ (w.alloc (.cells #[.int .i64 0, .int .i64 0, .int .i64 0, .int .i64 0, .slice none 0 0, .slice none 0 0, .slice none 0 0, .slice none 0 0] 63)).cell? ⟨bl, 1, none⟩ = some (.int .i64 s) ∧ (w.alloc (.cells #[.int .i64 0, .int .i64 0, .int .i64 0, .int .i64 0, .slice none 0 0, .slice none 0 0, .slice none 0 0, .slice none 0 0] 63)).cell? ⟨bl, 2, none⟩ = some (.slice na nulls.length nc) ∧ (w.alloc (.cells #[.int .i64 0, .int .i64 0, .int .i64 0, .int .i64 0, .slice none 0 0, .slice none 0 0, .slice none 0 0, .slice none 0 0] 63)).cell? ⟨bl, 3, none⟩ = some (.slice da data.length dc) ∧ (w.alloc (.cells #[.int .i64 0, .int .i64 0, .int .i64 0, .int .i64 0, .slice none 0 0, .slice none 0 0, .slice none 0 0, .slice none 0 0] 63)).cell? ⟨bl, 4, none⟩ = some (.slice ea ends.length ec) ∧ (w.alloc (.cells #[.int .i64 0, .int .i64 0, .int .i64 0, .int .i64 0, .slice none 0 0, .slice none 0 0, .slice none 0 0, .slice none 0 0] 63)).cell? ⟨bl, 5, none⟩ = some (.pointer (some ⟨lw, 0, none⟩)) ∧ (w.alloc (.cells #[.int .i64 0, .int .i64 0, .int .i64 0, .int .i64 0, .slice none 0 0, .slice none 0 0, .slice none 0 0, .slice none 0 0] 63)).cell? ⟨w.heap.size, 0, none⟩ = some (.int .i64 0) ∧ (w.alloc (.cells #[.int .i64 0, .int .i64 0, .int .i64 0, .int .i64 0, .slice none 0 0, .slice none 0 0, .slice none 0 0, .slice none 0 0] 63)).cell? ⟨w.heap.size, 1, none⟩ = some (.int .i64 0) ∧ (w.alloc (.cells #[.int .i64 0, .int .i64 0, .int .i64 0, .int .i64 0, .slice none 0 0, .slice none 0 0, .slice none 0 0, .slice none 0 0] 63)).cell? ⟨w.heap.size, 2, none⟩ = some (.int .i64 0) ∧ (w.alloc (.cells #[.int .i64 0, .int .i64 0, .int .i64 0, .int .i64 0, .slice none 0 0, .slice none 0 0, .slice none 0 0, .slice none 0 0] 63)).cell? ⟨w.heap.size, 3, none⟩ = some (.int .i64 0) ∧ (w.alloc (.cells #[.int .i64 0, .int .i64 0, .int .i64 0, .int .i64 0, .slice none 0 0, .slice none 0 0, .slice none 0 0, .slice none 0 0] 63)).cell? ⟨w.heap.size, 4, none⟩ = some (.slice none 0 0) ∧ (w.alloc (.cells #[.int .i64 0, .int .i64 0, .int .i64 0, .int .i64 0, .slice none 0 0, .slice none 0 0, .slice none 0 0, .slice none 0 0] 63)).cell? ⟨w.heap.size, 5, none⟩ = some (.slice none 0 0) ∧ (w.alloc (.cells #[.int .i64 0, .int .i64 0, .int .i64 0, .int .i64 0, .slice none 0 0, .slice none 0 0, .slice none 0 0, .slice none 0 0] 63)).cell? ⟨w.heap.size, 6, none⟩ = some (.slice none 0 0) ∧ (w.alloc (.cells #[.int .i64 0, .int .i64 0, .int .i64 0, .int .i64 0, .slice none 0 0, .slice none 0 0, .slice none 0 0, .slice none 0 0] 63)).cell? ⟨w.heap.size, 7, none⟩ = some (.slice none 0 0) ∧ (w.alloc (.cells #[.int .i64 0, .int .i64 0, .int .i64 0, .int .i64 0, .slice none 0 0, .slice none 0 0, .slice none 0 0, .slice none 0 0] 63)).frozen? ⟨w.heap.size, 0, none⟩ = false ∧ (w.alloc (.cells #[.int .i64 0, .int .i64 0, .int .i64 0, .int .i64 0, .slice none 0 0, .slice none 0 0, .slice none 0 0, .slice none 0 0] 63)).frozen? ⟨w.heap.size, 1, none⟩ = false ∧ (w.alloc (.cells #[.int .i64 0, .int .i64 0, .int .i64 0, .int .i64 0, .slice none 0 0, .slice none 0 0, .slice none 0 0, .slice none 0 0] 63)).frozen? ⟨w.heap.size, 2, none⟩ = false ∧ (w.alloc (.cells #[.int .i64 0, .int .i64 0, .int .i64 0, .int .i64 0, .slice none 0 0, .slice none 0 0, .slice none 0 0, .slice none 0 0] 63)).frozen? ⟨w.heap.size, 3, none⟩ = false ∧ (w.alloc (.cells #[.int .i64 0, .int .i64 0, .int .i64 0, .int .i64 0, .slice none 0 0, .slice none 0 0, .slice none 0 0, .slice none 0 0] 63)).frozen? ⟨w.heap.size, 4, none⟩ = false ∧ (w.alloc (.cells #[.int .i64 0, .int .i64 0, .int .i64 0, .int .i64 0, .slice none 0 0, .slice none 0 0, .slice none 0 0, .slice none 0 0] 63)).frozen? ⟨w.heap.size, 5, none⟩ = false ∧ (w.alloc (.cells #[.int .i64 0, .int .i64 0, .int .i64 0, .int .i64 0, .slice none 0 0, .slice none 0 0, .slice none 0 0, .slice none 0 0] 63)).frozen? ⟨w.heap.size, 6, none⟩ = false ∧ (w.alloc (.cells #[.int .i64 0, .int .i64 0, .int .i64 0, .int .i64 0, .slice none 0 0, .slice none 0 0, .slice none 0 0, .slice none 0 0] 63)).frozen? ⟨w.heap.size, 7, none⟩ = false ∧ Aside (Below w.heap.size w (w.alloc (.cells #[.int .i64 0, .int .i64 0, .int .i64 0, .int .i64 0, .slice none 0 0, .slice none 0 0, .slice none 0 0, .slice none 0 0] 63))) from ⟨hc0, hc1, hc2, hc3, hc4, hc5, hz0, hz1, hz2, hz3, hz4, hz5, hz6, hz7, hf0, hf1, hf2, hf3, hf4, hf5, hf6, hf7, hB00⟩)
  have HN := Aside.mk hn
  have HD := Aside.mk hd
  have HE := Aside.mk he
  have HW := Aside.mk hW
  have HL := Aside.mk (And.intro hl1 (And.intro hl2 hl3))
  have H1D := Aside.mk (one_map (fun x : Int => Value.int .u8 x) (fun _ => rfl) data)
  have H1E := Aside.mk (one_map (fun x : Int => Value.int .i64 x) (fun _ => rfl) ends)
  have hne : bl ≠ w.heap.size := by omega
  have hne2 : w.heap.size ≠ bl := by omega
  clear hblk hn hd he hW
  go_enter Tryz.func34, Tryz.ntmps34
  go_wp2_with fail
  go_region_held3 (fun w' => w'.cell? ⟨bl, 0, none⟩ = some (.int .i64 k) ∧ w'.cell? ⟨bl, 1, none⟩ = some (.int .i64 s) ∧ w'.cell? ⟨bl, 2, none⟩ = some (.slice na nulls.length nc) ∧ w'.cell? ⟨bl, 3, none⟩ = some (.slice da data.length dc) ∧ w'.cell? ⟨bl, 4, none⟩ = some (.slice ea ends.length ec) ∧ w'.cell? ⟨bl, 5, none⟩ = some (.pointer (some ⟨lw, 0, none⟩)))
    (first | go_keep | (refine ⟨?_, ?_, ?_, ?_, ?_, ?_⟩ <;> assumption))
    (first
      | (go_at_call 90; refine (mof_any nulls _ _ HL.out.1 ((HN.out.below (below_chain hB00.out (by repeat (first | exact Below.refl _ _ | exact below_drew1 _ | (refine below_chain ?_ (by assumption)))))).rd)).mono ?_; rintro e wm ⟨mv, rfl, ho, hbm⟩; obtain ⟨ma, mc, rfl⟩ := ho.form; have HM := Aside.mk ho; clear ho; (first | (replace hbm := undrew hbm) | skip); obtain ⟨q0, q1, q2, q3, q4, q5, q6, q7, q8, q9, q10, q11, q12, q13, q14, q15, q16, q17, q18, q19, q20, q21, q22⟩ := colS_next (w2 := wm) HS1.out (by repeat (first | exact Below.refl _ _ | exact below_drew1 _ | (refine below_chain ?_ (by assumption)))))
      | (go_at_call 91; refine (clone_bytes _ _ _ _ HL.out.2.1 ((HD.out.below (below_chain hB00.out (by repeat (first | exact Below.refl _ _ | exact below_drew1 _ | (refine below_chain ?_ (by assumption)))))).rd) H1D.out).mono ?_; rintro e wd ⟨dv', rfl, ho, hbd⟩; obtain ⟨da', dc', rfl⟩ := ho.form; have HDD := Aside.mk ho; clear ho; (first | (replace hbd := undrew hbd) | skip); obtain ⟨q0, q1, q2, q3, q4, q5, q6, q7, q8, q9, q10, q11, q12, q13, q14, q15, q16, q17, q18, q19, q20, q21, q22⟩ := colS_next (w2 := wd) HS1.out (by repeat (first | exact Below.refl _ _ | exact below_drew1 _ | (refine below_chain ?_ (by assumption)))))
      | (go_at_call 92; refine (clone_ints _ _ _ _ HL.out.2.2 ((HE.out.below (below_chain hB00.out (by repeat (first | exact Below.refl _ _ | exact below_drew1 _ | (refine below_chain ?_ (by assumption)))))).rd) H1E.out).mono ?_; rintro e we ⟨ev', rfl, ho, hbe⟩; obtain ⟨ea', ec', rfl⟩ := ho.form; have HEE := Aside.mk ho; clear ho; (first | (replace hbe := undrew hbe) | skip); obtain ⟨q0, q1, q2, q3, q4, q5, q6, q7, q8, q9, q10, q11, q12, q13, q14, q15, q16, q17, q18, q19, q20, q21, q22⟩ := colS_next (w2 := we) HS1.out (by repeat (first | exact Below.refl _ _ | exact below_drew1 _ | (refine below_chain ?_ (by assumption)))))
      | (go_at_call 93; refine (HW.out _ (below_chain hB00.out (by repeat (first | exact Below.refl _ _ | exact below_drew1 _ | (refine below_chain ?_ (by assumption))))) (col_size (by repeat (first | exact Below.refl _ _ | exact below_drew1 _ | (refine below_chain ?_ (by assumption)))))).mono ?_; rintro e ww ⟨wa, wn, wc, rfl, hbw, ho⟩; have HWW := Aside.mk ho; clear ho; (first | (replace hbw := undrew hbw) | skip); obtain ⟨q0, q1, q2, q3, q4, q5, q6, q7, q8, q9, q10, q11, q12, q13, q14, q15, q16, q17, q18, q19, q20, q21, q22⟩ := colS_next (w2 := ww) HS1.out (by repeat (first | exact Below.refl _ _ | exact below_drew1 _ | (refine below_chain ?_ (by assumption))))))
  go_wp2
  refine bodyPost_ret (v := .agg #[.int .i64 k, .int .i64 s, .int .i64 (nulls.length : Int), .int .i64 (nulls.length : Int), .slice ma (mof nulls).length mc, .slice da' data.length dc', .slice ea' ends.length ec', .slice wa wn wc]) (by simp [results, Tryz.results34, go_sem, q6, q7, q8, q9, q10, q11, q12, q13]) rfl ?_
  have hsz : w.heap.size + 1 ≤ ((w.alloc (.cells #[.int .i64 0, .int .i64 0, .int .i64 0, .int .i64 0, .slice none 0 0, .slice none 0 0, .slice none 0 0, .slice none 0 0] 63)).drew).heap.size := by show _ ≤ (w.alloc _).heap.size; simp
  have hsm := hbm.size
  have hsd := hbd.size
  have hse := hbe.size
  have hsz2 : w.heap.size + 1 ≤ wm.heap.size := by simpa using hsm
  have BM : Below wm.heap.size wm ww := below_chain (below_chain hbd hbe) hbw
  have BD : Below wd.heap.size wd ww := below_chain hbe hbw
  have K8 : Kept (fun b => b = w.heap.size) ww ((((((((ww.setCell ⟨w.heap.size, 0, none⟩ (.int .i64 k)).setCell ⟨w.heap.size, 1, none⟩ (.int .i64 s)).setCell ⟨w.heap.size, 2, none⟩ (.int .i64 (nulls.length : Int))).setCell ⟨w.heap.size, 3, none⟩ (.int .i64 (nulls.length : Int))).setCell ⟨w.heap.size, 4, none⟩ (.slice ma (mof nulls).length mc)).setCell ⟨w.heap.size, 5, none⟩ (.slice da' data.length dc')).setCell ⟨w.heap.size, 6, none⟩ (.slice ea' ends.length ec')).setCell ⟨w.heap.size, 7, none⟩ (.slice wa wn wc)) := by
    repeat (refine Kept.trans ?_ (Kept.setCell _ _ _) (fun _ e _ => e))
    exact Kept.refl _ _
  have BF : Below w.heap.size w ww := below_chain hB00.out (below_chain hbm BM)
  refine ⟨_, _, _, _, rfl, ?_, ?_, ?_, ⟨_, ?_, hG _ _ _ _ ?_ HWW.out K8, ?_⟩, ?_⟩
  · exact own_sets (HM.out.below BM) hsz K8
  · exact own_sets (HDD.out.below BD) hsz2 K8
  · exact own_sets (HEE.out.below hbw) (by omega) K8
  · omega
  · omega
  · refine ⟨fun b e => ?_, fun b e => ?_, fun b e e2 => ?_⟩
    · have := (HM.out.lt b e).2; omega
    · have := (HDD.out.lt b e).2; omega
    · have h1 := (HM.out.lt b e).2
      have h2 := (HDD.out.lt b e2).1
      omega
  · exact BF.trans (K8.to_below BF.size (fun k e => by omega))
end Go.Proofs.YtmhjjhaipcgbiaaGreat
