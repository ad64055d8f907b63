/- Texts of this claim, one behind the other: Twin18, Kind, Spoil0. -/
import Derived.Test.YtmhjjhaipcgbiaaGreatZooP45
import Derived.Test.YtmhjjhaipcgbiaaGreatZooP5
import Derived.Test.YtmhjjhaipcgbiaaGreatZooP42
import Derived.Test.YtmhjjhaipcgbiaaGreatZooP36

namespace Go.Proofs.YtmhjjhaipcgbiaaGreat
open Go.RowKit
set_option linter.unusedVariables false
set_option linter.unusedSimpArgs false
set_option maxRecDepth 100000
set_option maxHeartbeats 1000000
structure TwB (w : World) (n : Nat) (c : Col) (B D E X : SL) (b' d' e' x' : Value) : Prop where
  k0 : w.heap[n]? = some (.cells #[.int .i64 c.k, .int .i64 c.s, .int .i64 c.n, .int .i64 c.m, .slice B.a c.bits.length B.c, .slice D.a c.data.length D.c, .slice E.a c.ends.length E.c, .slice X.a c.words.length X.c] 63 (0, 0))
  k1 : w.heap[n + 1]? = some (.cells #[.int .i64 0, .int .i64 0, .int .i64 0, .int .i64 0, .slice none 0 0, .slice none 0 0, .slice none 0 0, .slice none 0 0] 63 (0, 0))
  k2 : w.heap[n + 1 + 1]? = some (.cells #[.int .i64 c.k, .int .i64 c.s, .int .i64 c.n, .int .i64 c.m, b', d', e', x'] 63 (0, 0))
theorem TwB.below {w w' : World} {n : Nat} {c : Col} {B D E X : SL} {b' d' e' x' : Value} (h : TwB w n c B D E X b' d' e' x') (hb : Below w.heap.size w w') : TwB w' n c B D E X b' d' e' x' :=
  ⟨(hb.block _ (lt_of_blk h.k0)).trans h.k0, (hb.block _ (lt_of_blk h.k1)).trans h.k1, (hb.block _ (lt_of_blk h.k2)).trans h.k2⟩
theorem TwB.set {w : World} {n : Nat} {c : Col} {B D E X : SL} {b' d' e' x' : Value} (h : TwB w n c B D E X b' d' e' x') (k : Nat) (v : Value) : (w.setCell ⟨n + 1 + 1, k, none⟩ v).heap[n]? = some (.cells #[.int .i64 c.k, .int .i64 c.s, .int .i64 c.n, .int .i64 c.m, .slice B.a c.bits.length B.c, .slice D.a c.data.length D.c, .slice E.a c.ends.length E.c, .slice X.a c.words.length X.c] 63 (0, 0)) ∧ (w.setCell ⟨n + 1 + 1, k, none⟩ v).heap[n + 1]? = some (.cells #[.int .i64 0, .int .i64 0, .int .i64 0, .int .i64 0, .slice none 0 0, .slice none 0 0, .slice none 0 0, .slice none 0 0] 63 (0, 0)) :=
  ⟨((Kept.setCell w ⟨n + 1 + 1, k, none⟩ v).block _ (lt_of_blk h.k0) (by simp; omega)).trans h.k0, ((Kept.setCell w ⟨n + 1 + 1, k, none⟩ v).block _ (lt_of_blk h.k1) (by simp)).trans h.k1⟩
theorem intinfo9 : (Tryz.prog.info? 3).map (fun i => (i.zero, i.size, i.bytes)) = some (some (.int .i64 0), 1, 8) := by kernel_rfl
theorem twin18 (c : Col) (B D E X : SL) (vals : List Value) (hd : c.data.length ≤ 100000000) (hb : c.bits.length ≤ 100000000) (he : c.ends.length ≤ 100000000) (hw : c.words.length ≤ 100000000) (hwl : ∀ t ∈ c.words, t.length ≤ 100000000) (w : World) (h : RdC w c B D E X vals) :
    Calls Tryz.prog 27 #[colV c B D E X] w (ColBP c w) := by
  obtain ⟨w0, ew0⟩ : ∃ x, x = ((w.alloc (.cells #[.int .i64 c.k, .int .i64 c.s, .int .i64 c.n, .int .i64 c.m, .slice B.a c.bits.length B.c, .slice D.a c.data.length D.c, .slice E.a c.ends.length E.c, .slice X.a c.words.length X.c] 63)).alloc (.cells #[.int .i64 0, .int .i64 0, .int .i64 0, .int .i64 0, .slice none 0 0, .slice none 0 0, .slice none 0 0, .slice none 0 0] 63)).alloc (.cells #[.int .i64 c.k, .int .i64 c.s, .int .i64 c.n, .int .i64 c.m, .slice B.a c.bits.length B.c, .slice D.a c.data.length D.c, .slice E.a c.ends.length E.c, .slice X.a c.words.length X.c] 63) := ⟨_, rfl⟩
  have HB0 := Aside.mk (show Below w.heap.size w w0 from by rw [ew0]; exact ((below_new w _).trans ((below_new _ _).mono (by simp))).trans ((below_new _ _).mono (by simp; omega)))
  have HT0 := Aside.mk (show TwB w0 w.heap.size c B D E X (.slice B.a c.bits.length B.c) (.slice D.a c.data.length D.c) (.slice E.a c.ends.length E.c) (.slice X.a c.words.length X.c) from by
    rw [ew0]
    refine ⟨?_, ?_, ?_⟩
    · rw [Below.heap_alloc _ _ _ (by simp; omega), Below.heap_alloc _ _ _ (by simp)]; exact heap_alloc_new w _
    · rw [Below.heap_alloc _ _ _ (by simp)]; simpa using heap_alloc_new (w.alloc (.cells #[.int .i64 c.k, .int .i64 c.s, .int .i64 c.n, .int .i64 c.m, .slice B.a c.bits.length B.c, .slice D.a c.data.length D.c, .slice E.a c.ends.length E.c, .slice X.a c.words.length X.c] 63)) (.cells #[.int .i64 0, .int .i64 0, .int .i64 0, .int .i64 0, .slice none 0 0, .slice none 0 0, .slice none 0 0, .slice none 0 0] 63)
    · simpa using heap_alloc_new ((w.alloc (.cells #[.int .i64 c.k, .int .i64 c.s, .int .i64 c.n, .int .i64 c.m, .slice B.a c.bits.length B.c, .slice D.a c.data.length D.c, .slice E.a c.ends.length E.c, .slice X.a c.words.length X.c] 63)).alloc (.cells #[.int .i64 0, .int .i64 0, .int .i64 0, .int .i64 0, .slice none 0 0, .slice none 0 0, .slice none 0 0, .slice none 0 0] 63)) (.cells #[.int .i64 c.k, .int .i64 c.s, .int .i64 c.n, .int .i64 c.m, .slice B.a c.bits.length B.c, .slice D.a c.data.length D.c, .slice E.a c.ends.length E.c, .slice X.a c.words.length X.c] 63))
  have HW := Aside.mk h
  have HR := Aside.mk (h.below HB0.out)
  clear h
  dsimp only [colV]
  go_enter Tryz.func27, Tryz.ntmps27
  go_wp2_with fail
  rw [← ew0]
  refine (twin_bytes c.data D hd w0 HR.out.data).mono ?_
  rintro e w1 ⟨da, dc, rfl, ho, hb1⟩
  have HD1 := Aside.mk ho
  have HT1 := Aside.mk (HT0.out.below hb1)
  have HB1 := Aside.mk hb1
  clear ho hb1
  obtain ⟨d0, d1, d2, d3, d4, d5, d6, d7⟩ := box8 HT1.out.k2
  obtain ⟨g0, g1, g2, g3, g4, g5, g6, g7⟩ := box8 HT1.out.k0
  have hf0 := fun k => frozen_blk (k := k) HT1.out.k2
  have hl2 := lt_of_blk HT1.out.k2
  go_wp2_with fail
  have HT2 := Aside.mk (show TwB (w1.setCell ⟨w.heap.size + 1 + 1, 5, none⟩ (.slice da c.data.length dc)) w.heap.size c B D E X (.slice B.a c.bits.length B.c) (.slice da c.data.length dc) (.slice E.a c.ends.length E.c) (.slice X.a c.words.length X.c) from ⟨(HT1.out.set 5 _).1, (HT1.out.set 5 _).2, by have h := heap_setCell_at (k := 5) HT1.out.k2 (.slice da c.data.length dc); simpa using h⟩)
  have HB2 := Aside.mk (show Below w.heap.size w (w1.setCell ⟨w.heap.size + 1 + 1, 5, none⟩ (.slice da c.data.length dc)) from Below.setCell (HB0.out.trans (HB1.out.mono HB0.out.size)) (by simp; omega) _)
  have HD2 := Aside.mk (HD1.out.set_other (a := ⟨w.heap.size + 1 + 1, 5, none⟩) (HD1.out.blk_ne HT1.out.k2 (by decide)) (.slice da c.data.length dc))
  clear d0 d1 d2 d3 d4 d5 d6 d7 g0 g1 g2 g3 g4 g5 g6 g7 hf0 hl2
  generalize w1.setCell ⟨w.heap.size + 1 + 1, 5, none⟩ (.slice da c.data.length dc) = w2 at *
  refine (twin_bytes c.bits B hb w2 (HW.out.below HB2.out).bits).mono ?_
  rintro e w3 ⟨pa, pc, rfl, ho, hb3⟩
  have HP3 := Aside.mk ho
  have HT3 := Aside.mk (HT2.out.below hb3)
  have HB3 := Aside.mk hb3
  clear ho hb3
  obtain ⟨d0, d1, d2, d3, d4, d5, d6, d7⟩ := box8 HT3.out.k2
  obtain ⟨g0, g1, g2, g3, g4, g5, g6, g7⟩ := box8 HT3.out.k0
  have hf0 := fun k => frozen_blk (k := k) HT3.out.k2
  have hl2 := lt_of_blk HT3.out.k2
  have r0 := (HT3.out.set 4 (.slice pa c.bits.length pc))
  have HT4 := Aside.mk (show TwB ((w3.setCell ⟨w.heap.size + 1 + 1, 4, none⟩ (.slice pa c.bits.length pc)).alloc (.cells #[] 3)) w.heap.size c B D E X (.slice pa c.bits.length pc) (.slice da c.data.length dc) (.slice E.a c.ends.length E.c) (.slice X.a c.words.length X.c) from TwB.below ⟨r0.1, r0.2, by have h := heap_setCell_at (k := 4) HT3.out.k2 (.slice pa c.bits.length pc); simpa using h⟩ (below_new _ _))
  clear r0
  obtain ⟨s0, s1, s2, s3, s4, s5, s6, s7⟩ := box8 HT4.out.k0
  have HE4 := Aside.mk (show Own ((w3.setCell ⟨w.heap.size + 1 + 1, 4, none⟩ (.slice pa c.bits.length pc)).alloc (.cells #[] 3)) w3.heap.size 3 1 (.slice (some ⟨w3.heap.size, 0, none⟩) 0 0) 0 [] from by
    have h := own_fresh (w3.setCell ⟨w.heap.size + 1 + 1, 4, none⟩ (.slice pa c.bits.length pc)) #[] 3 0 (Nat.le_refl _) (Nat.zero_le _)
    rw [show (w3.setCell ⟨w.heap.size + 1 + 1, 4, none⟩ (.slice pa c.bits.length pc)).heap.size = w3.heap.size from by simp] at h
    exact h)
  have HB4 := Aside.mk (show Below w.heap.size w ((w3.setCell ⟨w.heap.size + 1 + 1, 4, none⟩ (.slice pa c.bits.length pc)).alloc (.cells #[] 3)) from (Below.setCell (HB2.out.trans (HB3.out.mono HB2.out.size)) (by simp; omega) _).trans ((below_new _ _).mono (by have h1 := HB2.out.size; have h2 := HB3.out.size; simp; omega)))
  go_wp2_with (at_builtin; refine wpList_app2 _ rfl _ _ 61 61 rfl w3.heap.size 3 (.int .i64 0) 1 8 Tryz.underlying61 intinfo9 rfl _ 0 [] rfl HE4.out _ c.ends.length (c.ends.map (.int .i64)) rfl ((HW.out.below HB4.out).ends.src (tx := 61) (P := Tryz.prog) Tryz.underlying61 (one_map (fun x : Int => Value.int .i64 x) (fun _ => rfl) c.ends)) (by unfold maxLen; omega) (by omega) (by simp) ?_)
  intro v5 w5 hA
  obtain ⟨ea, ec, rfl⟩ := hA.own.form
  have hz4 : ((w3.setCell ⟨w.heap.size + 1 + 1, 4, none⟩ (.slice pa c.bits.length pc)).alloc (.cells #[] 3)).heap.size = w3.heap.size + 1 := by simp
  have hz3 := lt_of_blk HT3.out.k2
  have HZ := Aside.mk (And.intro HB2.out.size HB3.out.size)
  have K5 := Aside.mk (show Kept (fun b => b = w3.heap.size) ((w3.setCell ⟨w.heap.size + 1 + 1, 4, none⟩ (.slice pa c.bits.length pc)).alloc (.cells #[] 3)) w5 from (Kept.of_grown hA.grown).mono (fun b e _ => by cases e; rfl))
  have hD3 : Own ((w3.setCell ⟨w.heap.size + 1 + 1, 4, none⟩ (.slice pa c.bits.length pc)).alloc (.cells #[] 3)) w0.heap.size 5 1 (.slice da c.data.length dc) c.data.length (c.data.map (.int .u8)) := ((HD2.out.below HB3.out).set_other (a := ⟨w.heap.size + 1 + 1, 4, none⟩) ((HD2.out.below HB3.out).blk_ne HT3.out.k2 (by decide)) _).alloc _
  have hP3 : Own ((w3.setCell ⟨w.heap.size + 1 + 1, 4, none⟩ (.slice pa c.bits.length pc)).alloc (.cells #[] 3)) w2.heap.size 5 1 (.slice pa c.bits.length pc) c.bits.length (c.bits.map (.int .u8)) := (HP3.out.set_other (a := ⟨w.heap.size + 1 + 1, 4, none⟩) (HP3.out.blk_ne HT3.out.k2 (by decide)) _).alloc _
  have HSEP := Aside.mk (show ∀ b, (Value.slice pa c.bits.length pc).ownBlock = some b → (Value.slice da c.data.length dc).ownBlock ≠ some b from fun b e e2 => by
    have h1 := (HP3.out.lt b e).1
    have h2 := (HD2.out.lt b e2).2
    omega)
  have HDLT := Aside.mk (show ∀ b, (Value.slice da c.data.length dc).ownBlock = some b ∨ (Value.slice pa c.bits.length pc).ownBlock = some b → b < w3.heap.size from fun b e => by
    rcases e with e | e
    · have := (HD2.out.lt b e).2; have := HZ.out.2; omega
    · exact (HP3.out.lt b e).2)
  have HD5 := Aside.mk (hD3.kept K5.out (fun b e h => by have := HDLT.out b (.inl e); omega))
  have HP5 := Aside.mk (hP3.kept K5.out (fun b e h => by have := HDLT.out b (.inr e); omega))
  have hE5 := hA.own
  rw [Nat.zero_add, List.nil_append] at hE5
  rw [Nat.zero_add]
  have HE5 := Aside.mk hE5
  have HT5 := Aside.mk (show TwB w5 w.heap.size c B D E X (.slice pa c.bits.length pc) (.slice da c.data.length dc) (.slice E.a c.ends.length E.c) (.slice X.a c.words.length X.c) from
    ⟨(K5.out.block _ (lt_of_blk HT4.out.k0) (by omega)).trans HT4.out.k0, (K5.out.block _ (lt_of_blk HT4.out.k1) (by omega)).trans HT4.out.k1, (K5.out.block _ (lt_of_blk HT4.out.k2) (by omega)).trans HT4.out.k2⟩)
  have HB5 := Aside.mk (HB4.out.trans (K5.out.to_below HB4.out.size (fun b e => by subst e; have := HZ.out.1; have := HZ.out.2; omega)))
  have hs5 := K5.out.size
  rw [hz4] at hs5
  have HS5 := Aside.mk hs5
  clear hA hE5 hD3 hP3 hz4 hz3 s0 s1 s2 s3 s4 s5 s6 s7 d0 d1 d2 d3 d4 d5 d6 d7 g0 g1 g2 g3 g4 g5 g6 g7 hf0 hl2 hs5
  obtain ⟨d0, d1, d2, d3, d4, d5, d6, d7⟩ := box8 HT5.out.k2
  obtain ⟨g0, g1, g2, g3, g4, g5, g6, g7⟩ := box8 HT5.out.k0
  have hf0 := fun k => frozen_blk (k := k) HT5.out.k2
  have hl2 := lt_of_blk HT5.out.k2
  go_wp2_with fail
  have HT6 := Aside.mk (show TwB (w5.setCell ⟨w.heap.size + 1 + 1, 6, none⟩ (.slice ea c.ends.length ec)) w.heap.size c B D E X (.slice pa c.bits.length pc) (.slice da c.data.length dc) (.slice ea c.ends.length ec) (.slice X.a c.words.length X.c) from ⟨(HT5.out.set 6 _).1, (HT5.out.set 6 _).2, by have h := heap_setCell_at (k := 6) HT5.out.k2 (.slice ea c.ends.length ec); simpa using h⟩)
  have HB6 := Aside.mk (show Below w.heap.size w (w5.setCell ⟨w.heap.size + 1 + 1, 6, none⟩ (.slice ea c.ends.length ec)) from Below.setCell HB5.out (by simp; omega) _)
  have HD6 := Aside.mk (HD5.out.set_other (a := ⟨w.heap.size + 1 + 1, 6, none⟩) (HD5.out.blk_ne HT5.out.k2 (by decide)) (.slice ea c.ends.length ec))
  have HP6 := Aside.mk (HP5.out.set_other (a := ⟨w.heap.size + 1 + 1, 6, none⟩) (HP5.out.blk_ne HT5.out.k2 (by decide)) (.slice ea c.ends.length ec))
  have HE6 := Aside.mk (HE5.out.set_other (a := ⟨w.heap.size + 1 + 1, 6, none⟩) (HE5.out.blk_ne HT5.out.k2 (by decide)) (.slice ea c.ends.length ec))
  have HS6 := Aside.mk (show w3.heap.size + 1 ≤ (w5.setCell ⟨w.heap.size + 1 + 1, 6, none⟩ (.slice ea c.ends.length ec)).heap.size from by simpa using HS5.out)
  clear d0 d1 d2 d3 d4 d5 d6 d7 g0 g1 g2 g3 g4 g5 g6 g7 hf0 hl2
  generalize w5.setCell ⟨w.heap.size + 1 + 1, 6, none⟩ (.slice ea c.ends.length ec) = w6 at *
  refine (twins_any c.words vals X hw hwl w6 (HW.out.below HB6.out).words (HW.out.below HB6.out).each).mono ?_
  rintro e w7 ⟨wa, wc, wvals, rfl, hwo, hwlen, hwe, hwb, hws⟩
  have HT7 := Aside.mk (HT6.out.below hwb)
  have HD7 := Aside.mk (HD6.out.below hwb)
  have HP7 := Aside.mk (HP6.out.below hwb)
  have HE7 := Aside.mk (HE6.out.below hwb)
  have HW7 := Aside.mk (And.intro hwo (And.intro hwlen (And.intro hwe hws)))
  have HB7 := Aside.mk (HB6.out.trans (hwb.mono HB6.out.size))
  clear hwo hwlen hwe hws hwb
  obtain ⟨d0, d1, d2, d3, d4, d5, d6, d7⟩ := box8 HT7.out.k2
  obtain ⟨g0, g1, g2, g3, g4, g5, g6, g7⟩ := box8 HT7.out.k1
  have hf0 := fun k => frozen_blk (k := k) HT7.out.k2
  have hf1 := fun k => frozen_blk (k := k) HT7.out.k1
  have hl2 := lt_of_blk HT7.out.k2
  go_wp2_with fail
  refine bodyPost_ret (v := colV c ⟨pa, pc⟩ ⟨da, dc⟩ ⟨ea, ec⟩ ⟨wa, wc⟩) (by simp [results, Tryz.results27, go_sem, colV, g0, g1, g2, g3, g4, g5, g6, g7]) rfl ?_
  clear d0 d1 d2 d3 d4 d5 d6 d7 g0 g1 g2 g3 g4 g5 g6 g7 hf0 hf1
  have K : Kept (fun b => b = w.heap.size + 1 + 1 ∨ b = w.heap.size + 1) w7 (((((((((w7.setCell ⟨w.heap.size + 1 + 1, 7, none⟩ (.slice wa c.words.length wc)).setCell ⟨w.heap.size + 1, 0, none⟩ (.int .i64 c.k)).setCell ⟨w.heap.size + 1, 1, none⟩ (.int .i64 c.s)).setCell ⟨w.heap.size + 1, 2, none⟩ (.int .i64 c.n)).setCell ⟨w.heap.size + 1, 3, none⟩ (.int .i64 c.m)).setCell ⟨w.heap.size + 1, 4, none⟩ (.slice pa c.bits.length pc)).setCell ⟨w.heap.size + 1, 5, none⟩ (.slice da c.data.length dc)).setCell ⟨w.heap.size + 1, 6, none⟩ (.slice ea c.ends.length ec)).setCell ⟨w.heap.size + 1, 7, none⟩ (.slice wa c.words.length wc)) :=
    Kept.trans ((Kept.setCell w7 _ _).mono (fun b e _ => .inl e)) (kept8 _ (w.heap.size + 1) _ _ _ _ _ _ _ _) (fun b e _ => .inr e)
  generalize (((((((((w7.setCell ⟨w.heap.size + 1 + 1, 7, none⟩ (.slice wa c.words.length wc)).setCell ⟨w.heap.size + 1, 0, none⟩ (.int .i64 c.k)).setCell ⟨w.heap.size + 1, 1, none⟩ (.int .i64 c.s)).setCell ⟨w.heap.size + 1, 2, none⟩ (.int .i64 c.n)).setCell ⟨w.heap.size + 1, 3, none⟩ (.int .i64 c.m)).setCell ⟨w.heap.size + 1, 4, none⟩ (.slice pa c.bits.length pc)).setCell ⟨w.heap.size + 1, 5, none⟩ (.slice da c.data.length dc)).setCell ⟨w.heap.size + 1, 6, none⟩ (.slice ea c.ends.length ec)).setCell ⟨w.heap.size + 1, 7, none⟩ (.slice wa c.words.length wc)) = W at *
  have ty : ∀ {F : TypeId}, F ≠ 63 → ∀ b, (b = w.heap.size + 1 + 1 ∨ b = w.heap.size + 1) → b < w7.heap.size → ∀ cs, w7.heap[b]? ≠ some (.cells cs F (0, 0)) := by
    rintro F hF b (rfl | rfl) hb cs hc
    · rw [HT7.out.k2] at hc; cases hc; exact hF rfl
    · rw [HT7.out.k1] at hc; cases hc; exact hF rfl
  have z0 := HB0.out.size
  have z1 := HZ.out.1
  have z2 := HZ.out.2
  have z6 := HS6.out
  have z7 := HB6.out.size
  have hwe := HW7.out.2.2.1
  have hwl := HW7.out.2.1
  refine ⟨⟨pa, pc⟩, ⟨da, dc⟩, ⟨ea, ec⟩, ⟨wa, wc⟩, wvals, rfl, ⟨(HP7.out.keptT K (ty (by decide))).mono (by omega), (HD7.out.keptT K (ty (by decide))).mono (by omega), (HE7.out.keptT K (ty (by decide))).mono (by omega), (HW7.out.1.keptT K (ty (by decide))).mono (by omega), hwl, fun j t hj ht => ?_, ⟨fun b e => ?_, fun v hv b e => ?_, ?_⟩⟩, HB7.out.trans (K.to_below HB7.out.size (fun b e => by omega))⟩
  · obtain ⟨a, cap, q1, q2⟩ := hwe j t hj ht
    exact ⟨a, cap, q1, (q2.keptT K (ty (by decide))).mono (by omega)⟩
  · rw [← own_len00 pa c.bits.length pc] at e
    rw [← own_len00 da c.data.length dc]
    exact HSEP.out b e
  · obtain ⟨j, hj, rfl⟩ := List.mem_iff_getElem.1 hv
    have hj2 : j < c.words.length := by omega
    obtain ⟨a, cap, q1, q2⟩ := hwe j _ hj2 (List.getElem?_eq_getElem hj2)
    rw [List.getElem?_eq_getElem hj] at q1
    rw [Option.some.inj q1] at e
    have hb := (q2.lt b e).1
    rw [← own_len00 pa c.bits.length pc, ← own_len00 da c.data.length dc]
    exact ⟨fun e2 => by have := HDLT.out b (.inr e2); omega, fun e2 => by have := HDLT.out b (.inl e2); omega⟩
  · rw [hwl]; exact HW7.out.2.2.2
end Go.Proofs.YtmhjjhaipcgbiaaGreat


namespace Go.Proofs.YtmhjjhaipcgbiaaGreat
open Go.RowKit
set_option linter.unusedVariables false
set_option linter.unusedSimpArgs false
set_option maxRecDepth 100000
set_option maxHeartbeats 1000000
theorem tm_neg (n m : Int) (hm : 0 < m) (h : n.tmod m < 0) : n % m = n.tmod m + m ∧ -m < n.tmod m := by
  rw [Int.tmod_eq_emod] at *
  have := Int.emod_nonneg n (show m ≠ 0 by omega)
  have := Int.emod_lt_of_pos n hm
  split at h
  · omega
  · rename_i h2
    rw [if_neg h2]
    have : ((m.natAbs : Nat) : Int) = m := Int.natAbs_of_nonneg (by omega)
    have h3 : n % m ≠ 0 := fun e => h2 (.inr (Int.dvd_of_emod_eq_zero e))
    omega
theorem tm_pos (n m : Int) (hm : 0 < m) (h : ¬ n.tmod m < 0) : n % m = n.tmod m ∧ n.tmod m < m := by
  rw [Int.tmod_eq_emod] at *
  have := Int.emod_nonneg n (show m ≠ 0 by omega)
  have := Int.emod_lt_of_pos n hm
  split at h
  · rename_i h2
    rw [if_pos h2]
    omega
  · rename_i h2
    have : ((m.natAbs : Nat) : Int) = m := Int.natAbs_of_nonneg (by omega)
    omega
def withinI (n lo hi : Int) : Int := lo + n % (hi - lo + 1)
theorem within_any (n lo hi : Int) (h0 : 0 ≤ lo) (h1 : lo ≤ hi) (h2 : hi ≤ 1000000) (w : World) : Calls Tryz.prog 15 #[.int .i64 n, .int .i64 lo, .int .i64 hi] w fun e w' => e = .returned (.int .i64 (withinI n lo hi)) ∧ w = w' := by
  have hm1' : 0 < hi - lo + 1 := by omega
  by_cases ht : n.tmod (hi - lo + 1) < 0
  · have hb := tm_neg n _ hm1' ht
    have hb1 : -1000001 < n.tmod (hi - lo + 1) := by omega
    have hb := Aside.mk hb
    go_enter Tryz.func15, Tryz.ntmps15
    go_wp2
    go_ret
    refine ⟨ret_int ?_, rfl⟩
    have := hb.out
    unfold withinI
    omega
  · have hb := tm_pos n _ hm1' ht
    have hb1 : n.tmod (hi - lo + 1) < 1000001 := by omega
    have hb := Aside.mk hb
    go_enter Tryz.func15, Tryz.ntmps15
    go_wp2
    go_ret
    refine ⟨ret_int ?_, rfl⟩
    have := hb.out
    unfold withinI
    omega
end Go.Proofs.YtmhjjhaipcgbiaaGreat


namespace Go.Proofs.YtmhjjhaipcgbiaaGreat
open Go.RowKit
set_option linter.unusedVariables false
set_option linter.unusedSimpArgs false
set_option maxRecDepth 100000
set_option maxHeartbeats 1000000
def setL (l : List Int) (at_ : Int) (f : Int → Int) : List Int := if l.length = 0 then l else l.set (withinI at_ 0 ((l.length : Int) - 1)).toNat (f (l.getD (withinI at_ 0 ((l.length : Int) - 1)).toNat 0))
def byteI (x : Int) : Int := x % 256
def xorI (x y : Int) : Int := ((x.toNat ^^^ y.toNat : Nat) : Int)
def spoilC (c : Col) (wh wat wby : Int) : Col :=
  if withinI wh 0 9 = 1 then ⟨c.k, c.s, wrap64 (c.n + wby), c.m, c.bits, c.data, c.ends, c.words⟩
  else if withinI wh 0 9 = 2 then ⟨c.k, c.s, c.n, wrap64 (c.m + wby), c.bits, c.data, c.ends, c.words⟩
  else if withinI wh 0 9 = 3 then ⟨c.k, c.s, c.n, c.m, setL c.bits wat (fun x => xorI x (byteI wby)), c.data, c.ends, c.words⟩
  else if withinI wh 0 9 = 4 then ⟨c.k, c.s, c.n, c.m, c.bits, setL c.data wat (fun x => xorI x (byteI wby)), c.ends, c.words⟩
  else if withinI wh 0 9 = 5 then ⟨c.k, c.s, c.n, c.m, c.bits, c.data ++ [byteI wby], c.ends, c.words⟩
  else if withinI wh 0 9 = 6 then ⟨c.k, c.s, c.n, c.m, c.bits, c.data, setL c.ends wat (fun x => wrap64 (x + wby)), c.words⟩
  else if withinI wh 0 9 = 7 then ⟨c.k, c.s, c.n, c.m, c.bits, c.data, c.ends, c.words ++ [[byteI wby]]⟩
  else if withinI wh 0 9 = 8 then ⟨c.k, wby, c.n, c.m, c.bits, c.data, c.ends, c.words⟩
  else if withinI wh 0 9 = 9 then ⟨wby, c.s, c.n, c.m, c.bits, c.data, c.ends, c.words⟩
  else c
end Go.Proofs.YtmhjjhaipcgbiaaGreat
