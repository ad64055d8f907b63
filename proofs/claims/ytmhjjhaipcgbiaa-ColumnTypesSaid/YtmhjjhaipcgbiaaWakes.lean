/- wakes. -/
import Derived.Test.YtmhjjhaipcgbiaaCol
import Derived.Laws.BytesArg
namespace Go.Proofs.Ytmhjjhaipcgbiaa
open Go.RowKit
set_option linter.unusedVariables false
set_option linter.unusedSimpArgs false
set_option maxRecDepth 100000
set_option maxHeartbeats 2000000

theorem conv_rd (v : Value) (n : Nat) (xs : List Int) (hn : xs.length = n) (h0 : 0 < n) (w : World) (h : Rd w 1 v n (xs.map (.int .u8))) : (convert 37 9 v).run Try.prog w = .ok (.string (strOfNums xs)) w := by
  obtain ⟨g, o, d, rfl, _, _, hc⟩ := h.some_ (by rw [List.length_map]; omega)
  exact run_convert_bytes_arg w 37 5 Try.underlying37 Try.underlying5 g o n d xs hn (fun i hi => hc i _ (by
    have : i < xs.length := by omega
    simp [List.getElem?_eq_getElem this, List.getD])) 9 Try.underlying9

theorem same_eq (a b : Option Addr) (n ca cb : Nat) (xs : List Int) (hn : xs.length = n) (h0 : 0 < n) (w : World) (ha : Rd w 1 (.slice a n ca) n (xs.map (.int .u8))) (hb : Rd w 1 (.slice b n cb) n (xs.map (.int .u8))) : Calls Try.prog 20 #[.slice a n ca, .slice b n cb] w fun e w' => e = .returned (.bool true) ∧ w = w' := by
  have h1 := conv_rd _ n xs hn h0 w ha
  have h2 := conv_rd _ n xs hn h0 w hb
  clear ha hb
  go_enter Try.func20, Try.ntmps20
  go_wp2
  go_ret
  exact ⟨rfl, rfl⟩

theorem rd_blk {w : World} {g n : Nat} {cs : Array Value} {T : TypeId} {fr : Nat × Nat} (h : w.heap[g]? = some (.cells cs T fr)) (hn : cs.size = n) (hm : n ≤ maxLen) : Rd w 1 (.slice (some ⟨g, 0, none⟩) n n) n cs.toList :=
  ⟨by simp [hn], some ⟨g, 0, none⟩, n, rfl, Nat.le_refl _, hm, (fun e => by cases e), fun j u hu => ⟨g, 0, rfl, by rw [cell_blk h, Nat.zero_add, ← Array.getElem?_toList]; exact hu⟩⟩

theorem num_err (x : Int) (w : World) : Calls Try.prog 9 #[.int .i64 x] w fun e w' => e = .returned (.int .i64 x) ∧ w = w' := num_any x w

theorem wakes_any (w : World) : Calls Try.prog 16 #[] w fun e w' => e = .returned (.bool true) ∧ Below w.heap.size w w' := by
  go_enter Try.func16, Try.ntmps16
  go_wp2_with (first | (go_at_call 25; refine (new_yes 6 0 _ (by decide)).mono ?_; rintro e w1 ⟨bl, lw, rfl, h1, b1⟩; have H1 := Aside.mk h1; have B1 := Aside.mk b1; clear h1 b1) | (go_at_call 9; refine (num_any _ _).mono ?_; rintro e wn ⟨rfl, rfl⟩))
  refine (put_fixed bl lw w.heap.size 6 0 (by decide) (by decide) [] [] [] _ _ _ 258 (by decide) (by decide) (by decide) (by decide) w1 H1.out B1.out.size).mono ?_
  rintro e w2 ⟨rfl, _, nv2, dv2, h2, k2, _, _⟩
  have H2 := Aside.mk h2
  have B2 := Aside.mk (B1.out.trans (k2.to_below B1.out.size (by
    rintro b (e | e | e)
    · subst e; exact H1.out.bbl
    · exact (H1.out.data.lt _ e).1
    · exact (H1.out.nulls.lt _ e).1)))
  clear h2 k2
  go_wp2_with (fail)
  refine (null_fixed bl lw w.heap.size 6 0 (by decide) (by decide) _ _ _ _ _ _ (by decide) (by decide) w2 H2.out B2.out.size).mono ?_
  rintro e w3 ⟨rfl, nv3, dv3, h3, k3, _, _⟩
  have H3 := Aside.mk h3
  have B3 := Aside.mk (B2.out.trans (k3.to_below B2.out.size (by
    rintro b (e | e | e)
    · subst e; exact H2.out.bbl
    · exact (H2.out.data.lt _ e).1
    · exact (H2.out.nulls.lt _ e).1)))
  clear h3 k3
  go_wp2_with (fail)
  have hcol := column_any (fun v _ => ∃ a n c, v = .slice a n c) bl lw w.heap.size 6 0 _ _ _ _ _ _ w3 H3.out.blk H3.out.nulls H3.out.data H3.out.ends (by decide) (by decide) (by decide) (fun v w1 w2 h _ => h) (fun w5 hb _ => by
    obtain ⟨mvv, hl⟩ := H3.out.lst
    refine (words_empty lw mvv w5 ((hb.block _ (lt_of_blk hl)).trans hl)).mono ?_
    rintro e w6 ⟨v', rfl, ho, hb6⟩
    obtain ⟨a, c, rfl⟩ := ho.form
    exact ⟨a, 0, c, rfl, hb6, a, 0, c, rfl⟩)
  refine hcol.mono ?_
  clear hcol
  rintro e w4 ⟨mv, dv', ev', wv, rfl, hm, hd, he, ⟨wa, wn, wcc, rfl⟩, hb4⟩
  have em : mof ([] ++ [false] ++ [true]) = [2] := by decide
  have ed : ([] ++ lows 258 (widthOf 6).toNat ++ lows 0 (widthOf 6).toNat) = [2, 1, 0, 0] := by decide
  rw [em] at hm
  rw [ed] at hd
  obtain ⟨ma, mc, rfl⟩ := hm.form
  obtain ⟨da, dc, rfl⟩ := hd.form
  obtain ⟨ea, ec, rfl⟩ := he.form
  have HM := Aside.mk hm
  have HD := Aside.mk hd
  have B4 := Aside.mk (B3.out.trans (hb4.mono B3.out.size))
  clear hm hd he hb4 H1 H2 H3 B1 B2 B3
  simp only [List.length_append, List.length_cons, List.length_nil]
  go_wp2_with (first | (go_at_call 9; refine (num_any _ _).mono ?_; rintro e wn ⟨rfl, rfl⟩))
  have hB5 : Below w4.heap.size w4 ((w4.alloc (.cells #[.int .i64 6, .int .i64 0, .int .i64 2, .int .i64 2, .slice ma 1 mc, .slice da 4 dc, .slice ea 0 ec, .slice wa wn wcc] 43)).alloc (.cells #[.int .u8 2, .int .u8 1, .int .u8 0, .int .u8 0] 5)) := ((Below.refl _ _).alloc (Nat.le_refl _) _).alloc (by simp) _
  have hB6 : Below w4.heap.size w4 (((w4.alloc (.cells #[.int .i64 6, .int .i64 0, .int .i64 2, .int .i64 2, .slice ma 1 mc, .slice da 4 dc, .slice ea 0 ec, .slice wa wn wcc] 43)).alloc (.cells #[.int .u8 2, .int .u8 1, .int .u8 0, .int .u8 0] 5)).alloc (.cells #[.int .u8 2] 5)) := hB5.alloc (by simp; omega) _
  refine (same_eq da _ 4 dc _ [2, 1, 0, 0] rfl (by decide) _ (HD.out.below hB5).rd ?_).mono ?_
  · have := heap_alloc_new (w4.alloc (.cells #[.int .i64 6, .int .i64 0, .int .i64 2, .int .i64 2, .slice ma 1 mc, .slice da 4 dc, .slice ea 0 ec, .slice wa wn wcc] 43)) (.cells #[.int .u8 2, .int .u8 1, .int .u8 0, .int .u8 0] 5)
    exact rd_blk (n := 4) (by simpa using this) rfl (by decide)
  rintro e w5 ⟨rfl, rfl⟩
  go_wp2_with (fail)
  refine (same_eq ma _ 1 mc _ [2] rfl (by decide) _ (HM.out.below hB6).rd ?_).mono ?_
  · have := heap_alloc_new ((w4.alloc (.cells #[.int .i64 6, .int .i64 0, .int .i64 2, .int .i64 2, .slice ma 1 mc, .slice da 4 dc, .slice ea 0 ec, .slice wa wn wcc] 43)).alloc (.cells #[.int .u8 2, .int .u8 1, .int .u8 0, .int .u8 0] 5)) (.cells #[.int .u8 2] 5)
    exact rd_blk (n := 1) (by simpa using this) rfl (by decide)
  rintro e w6 ⟨rfl, rfl⟩
  go_wp2_with (fail)
  go_ret
  exact ⟨rfl, B4.out.trans (hB6.mono B4.out.size)⟩
end Go.Proofs.Ytmhjjhaipcgbiaa
