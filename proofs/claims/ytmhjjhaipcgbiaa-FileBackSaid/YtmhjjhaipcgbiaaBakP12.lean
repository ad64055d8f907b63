/- Texts of this claim, one behind the other: Col, MayR, DictC. -/
import Derived.Test.YtmhjjhaipcgbiaaBakP8
import Derived.Test.YtmhjjhaipcgbiaaBakP6
import Derived.Test.YtmhjjhaipcgbiaaBakP11
import Derived.Test.YtmhjjhaipcgbiaaBakP7
import Derived.Test.YtmhjjhaipcgbiaaBakP9

namespace Go.Proofs.Ytmhjjhaipcgbiaa
open Go.RowKit
set_option linter.unusedVariables false
set_option linter.unusedSimpArgs false
set_option maxRecDepth 100000
set_option maxHeartbeats 8000000
theorem below_chain {a y z : World} (h1 : Below a.heap.size a y) (h2 : Below y.heap.size y z) : Below a.heap.size a z := h1.trans (h2.mono h1.size)
theorem undrew {w w' : World} (h : Below w.drew.heap.size w.drew w') : Below w.heap.size w w' := ⟨h.os, h.tape, h.output, h.size, h.block⟩
end Go.Proofs.Ytmhjjhaipcgbiaa


namespace Go.Proofs.Ytmhjjhaipcgbiaa
open Go.RowKit
set_option linter.unusedVariables false
set_option linter.unusedSimpArgs false
set_option maxRecDepth 100000
set_option maxHeartbeats 1000000
def okR (c : Col) (i : Nat) : Bool := !(decide (c.ends.getD i 0 < aheadI c.ends i) || decide ((c.data.length : Int) < c.ends.getD i 0) || (nullB c.bits i && c.ends.getD i 0 != aheadI c.ends i))
theorem mayRunning_eq (c : Col) : mayRunning c = (((c.ends.length : Int) == c.n) && c.words.isEmpty && (List.range c.ends.length).all (okR c) && (aheadI c.ends c.ends.length == (c.data.length : Int))) := rfl
theorem words_pos {ws : List (List Int)} (h : ws.isEmpty = false) : decide (0 < ws.length) = true := by
  cases ws with
  | nil => cases h
  | cons a l => simp
theorem words_zero {ws : List (List Int)} (h : ws.isEmpty = true) : decide (0 < ws.length) = false := by
  cases ws with
  | nil => rfl
  | cons a l => cases h
theorem mayR_any (c : Col) (hc : COK c) (hn : c.n ≤ 8 * (c.bits.length : Int)) (B D E X : SL) (vals : List Value) (w : World) (h : RdC w c B D E X vals) :
    Calls Try.prog 137 #[.agg #[], colV c B D E X] w (BoolP (mayRunning c) w) := by
  obtain ⟨ea, ec⟩ := E
  have HR := Aside.mk h
  have HC := Aside.mk hc
  have HN := Aside.mk hn
  clear h hc hn
  have hbw := (below_new w (.cells #[] 125)).trans ((below_new _ (.cells #[.int .i64 c.k, .int .i64 c.s, .int .i64 c.n, .int .i64 c.m, .slice B.a c.bits.length B.c, .slice D.a c.data.length D.c, .slice ea c.ends.length ec, .slice X.a c.words.length X.c] 43)).mono (by simp))
  have HBW := Aside.mk hbw
  clear hbw
  dsimp only [colV]
  by_cases he : (c.ends.length : Int) = c.n
  rotate_left
  · have he2 : ((c.ends.length : Int) == c.n) = false := by simpa using he
    have HE2 := Aside.mk he2
    have he3 : ((c.ends.length : Int) != c.n) = true := by rw [bne, he2]; rfl
    clear he he2
    go_enter Try.func137, Try.ntmps137
    go_wp2
    go_ret
    exact ⟨ret_bool (by rw [mayRunning_eq, HE2.out]; rfl), HBW.out⟩
  have S2 := Aside.mk he
  have he2 : ((c.ends.length : Int) == c.n) = true := by simpa using he
  have HE2 := Aside.mk he2
  have he3 : ((c.ends.length : Int) != c.n) = false := by rw [bne, he2]; rfl
  clear he he2
  cases hx : c.words.isEmpty with
  | false =>
    have hx2 := words_pos hx
    have HX := Aside.mk hx
    clear hx
    go_enter Try.func137, Try.ntmps137
    go_wp2
    go_ret
    exact ⟨ret_bool (by rw [mayRunning_eq, HE2.out, HX.out]; rfl), HBW.out⟩
  | true =>
    have hx2 := words_zero hx
    have HM := Aside.mk (show mayRunning c = ((List.range c.ends.length).all (okR c) && (aheadI c.ends c.ends.length == (c.data.length : Int))) by rw [mayRunning_eq, HE2.out, hx]; simp)
    clear hx
    have hle := HC.out.le
    have hld := HC.out.ld
    go_enter Try.func137, Try.ntmps137
    go_wp2
    generalize hw1 : ((w.alloc (.cells #[] 125)).alloc (.cells #[.int .i64 c.k, .int .i64 c.s, .int .i64 c.n, .int .i64 c.m, .slice B.a c.bits.length B.c, .slice D.a c.data.length D.c, .slice ea c.ends.length ec, .slice X.a c.words.length X.c] 43)) = w1 at *
    have BX := Aside.mk (show w1.heap[w.heap.size + 1]? = some (.cells #[.int .i64 c.k, .int .i64 c.s, .int .i64 c.n, .int .i64 c.m, .slice B.a c.bits.length B.c, .slice D.a c.data.length D.c, .slice ea c.ends.length ec, .slice X.a c.words.length X.c] 43 (0, 0)) by
      rw [← hw1]; simpa using heap_alloc_new (w.alloc (.cells #[] 125)) (.cells #[.int .i64 c.k, .int .i64 c.s, .int .i64 c.n, .int .i64 c.m, .slice B.a c.bits.length B.c, .slice D.a c.data.length D.c, .slice ea c.ends.length ec, .slice X.a c.words.length X.c] 43))
    clear hw1
    go_loopw [23] (fun iv wr => ∃ i : Nat, i ≤ c.ends.length ∧ iv = .int .i64 (i : Int) ∧ Aside (Below w.heap.size w wr ∧ wr.heap[w.heap.size + 1]? = some (.cells #[.int .i64 c.k, .int .i64 c.s, .int .i64 c.n, .int .i64 c.m, .slice B.a c.bits.length B.c, .slice D.a c.data.length D.c, .slice ea c.ends.length ec, .slice X.a c.words.length X.c] 43 (0, 0)) ∧ ∀ j, j < i → okR c j = true)) (fun iv _ => c.ends.length - (intOf iv).toNat)
    case atStart => exact ⟨0, by omega, rfl, ⟨HBW.out, BX.out, fun j hj => by omega⟩⟩
    case round =>
      clear HBW BX
      obtain ⟨i, hi, rfl, hp⟩ := hrel
      have BW := Aside.mk hp.out.1
      have BX := Aside.mk hp.out.2.1
      have HA := Aside.mk hp.out.2.2
      clear hp
      obtain ⟨c0, c1, c2, c3, c4, c5, c6, c7⟩ := box8 BX.out
      by_cases hlt : i < c.ends.length
      · have hb8 : i / 8 < c.bits.length := by have := S2.out; have := HN.out; omega
        obtain ⟨eb, eo, ecap, hs, hel, hecap, hcE⟩ := rd_get HR.out.ends i hlt
        have hcE2 := (BW.out.cell (p := ⟨eb, eo + i, none⟩) (World.block_lt_of_cell? _ _ hcE)).trans hcE
        clear hcE
        have hahead := Aside.mk (fun (w2 : World) hb => cahead_any c B D ⟨ea, ec⟩ X i (by omega) HC.out.le w2 (HR.out.ends.below hb))
        have hnull := Aside.mk (fun (w2 : World) hb => null_any c B D ⟨ea, ec⟩ X i hb8 HC.out.bits HC.out.lb w2 (HR.out.bits.below hb))
        simp only [Value.slice.injEq, true_and] at hs
        obtain ⟨rfl, rfl⟩ := hs
        have hok := Aside.mk (show okR c i = !(decide (c.ends.getD i 0 < aheadI c.ends i) || decide ((c.data.length : Int) < c.ends.getD i 0) || (nullB c.bits i && c.ends.getD i 0 != aheadI c.ends i)) from rfl)
        generalize c.ends.getD i 0 = ev at *
        generalize aheadI c.ends i = fv at *
        generalize nullB c.bits i = nb at *
        by_cases ha : ev < fv
        · have ha2 : decide (ev < fv) = true := decide_eq_true ha
          go_wp2_with (first | (go_at_call 69; refine (hahead.out _ BW.out).mono ?_; rintro e w2 ⟨rfl, hb2⟩; replace BW := Aside.mk (BW.out.trans (hb2.mono BW.out.size)); replace BX := Aside.mk ((hb2.block _ (lt_of_blk BX.out)).trans BX.out); obtain ⟨c0, c1, c2, c3, c4, c5, c6, c7⟩ := box8 BX.out; clear hb2) | (go_at_call 56; refine (hnull.out _ BW.out).mono ?_; rintro e w2 ⟨rfl, hb2⟩; replace BW := Aside.mk (BW.out.trans (hb2.mono BW.out.size)); replace BX := Aside.mk ((hb2.block _ (lt_of_blk BX.out)).trans BX.out); obtain ⟨c0, c1, c2, c3, c4, c5, c6, c7⟩ := box8 BX.out; clear hb2))
          go_ret
          exact ⟨ret_bool (by rw [HM.out, all_false hlt (by rw [hok.out, ha2]; rfl)]; rfl), BW.out⟩
        have ha2 : decide (ev < fv) = false := decide_eq_false ha
        by_cases hd : (c.data.length : Int) < ev
        · have hd2 : decide ((c.data.length : Int) < ev) = true := decide_eq_true hd
          go_wp2_with (first | (go_at_call 69; refine (hahead.out _ BW.out).mono ?_; rintro e w2 ⟨rfl, hb2⟩; replace BW := Aside.mk (BW.out.trans (hb2.mono BW.out.size)); replace BX := Aside.mk ((hb2.block _ (lt_of_blk BX.out)).trans BX.out); obtain ⟨c0, c1, c2, c3, c4, c5, c6, c7⟩ := box8 BX.out; clear hb2) | (go_at_call 56; refine (hnull.out _ BW.out).mono ?_; rintro e w2 ⟨rfl, hb2⟩; replace BW := Aside.mk (BW.out.trans (hb2.mono BW.out.size)); replace BX := Aside.mk ((hb2.block _ (lt_of_blk BX.out)).trans BX.out); obtain ⟨c0, c1, c2, c3, c4, c5, c6, c7⟩ := box8 BX.out; clear hb2))
          go_ret
          exact ⟨ret_bool (by rw [HM.out, all_false hlt (by rw [hok.out, hd2]; simp)]; rfl), BW.out⟩
        have hd2 : decide ((c.data.length : Int) < ev) = false := decide_eq_false hd
        cases nb with
        | true =>
          by_cases hq : ev = fv
          · subst hq
            go_wp2_with (first | (go_at_call 69; refine (hahead.out _ BW.out).mono ?_; rintro e w2 ⟨rfl, hb2⟩; replace BW := Aside.mk (BW.out.trans (hb2.mono BW.out.size)); replace BX := Aside.mk ((hb2.block _ (lt_of_blk BX.out)).trans BX.out); obtain ⟨c0, c1, c2, c3, c4, c5, c6, c7⟩ := box8 BX.out; clear hb2) | (go_at_call 56; refine (hnull.out _ BW.out).mono ?_; rintro e w2 ⟨rfl, hb2⟩; replace BW := Aside.mk (BW.out.trans (hb2.mono BW.out.size)); replace BX := Aside.mk ((hb2.block _ (lt_of_blk BX.out)).trans BX.out); obtain ⟨c0, c1, c2, c3, c4, c5, c6, c7⟩ := box8 BX.out; clear hb2))
            refine ⟨⟨i + 1, by omega, by simp, ⟨BW.out, BX.out, fun j hj => ?_⟩⟩, by simp [intOf]; omega⟩
            rcases Nat.lt_or_ge j i with h | h
            · exact HA.out j h
            · obtain rfl : j = i := by omega
              rw [hok.out, ha2, hd2]; simp
          · have hq2 : (ev != fv) = true := by simpa using hq
            go_wp2_with (first | (go_at_call 69; refine (hahead.out _ BW.out).mono ?_; rintro e w2 ⟨rfl, hb2⟩; replace BW := Aside.mk (BW.out.trans (hb2.mono BW.out.size)); replace BX := Aside.mk ((hb2.block _ (lt_of_blk BX.out)).trans BX.out); obtain ⟨c0, c1, c2, c3, c4, c5, c6, c7⟩ := box8 BX.out; clear hb2) | (go_at_call 56; refine (hnull.out _ BW.out).mono ?_; rintro e w2 ⟨rfl, hb2⟩; replace BW := Aside.mk (BW.out.trans (hb2.mono BW.out.size)); replace BX := Aside.mk ((hb2.block _ (lt_of_blk BX.out)).trans BX.out); obtain ⟨c0, c1, c2, c3, c4, c5, c6, c7⟩ := box8 BX.out; clear hb2))
            go_ret
            exact ⟨ret_bool (by rw [HM.out, all_false hlt (by rw [hok.out, hq2]; simp)]; rfl), BW.out⟩
        | false =>
          go_wp2_with (first | (go_at_call 69; refine (hahead.out _ BW.out).mono ?_; rintro e w2 ⟨rfl, hb2⟩; replace BW := Aside.mk (BW.out.trans (hb2.mono BW.out.size)); replace BX := Aside.mk ((hb2.block _ (lt_of_blk BX.out)).trans BX.out); obtain ⟨c0, c1, c2, c3, c4, c5, c6, c7⟩ := box8 BX.out; clear hb2) | (go_at_call 56; refine (hnull.out _ BW.out).mono ?_; rintro e w2 ⟨rfl, hb2⟩; replace BW := Aside.mk (BW.out.trans (hb2.mono BW.out.size)); replace BX := Aside.mk ((hb2.block _ (lt_of_blk BX.out)).trans BX.out); obtain ⟨c0, c1, c2, c3, c4, c5, c6, c7⟩ := box8 BX.out; clear hb2))
          refine ⟨⟨i + 1, by omega, by simp, ⟨BW.out, BX.out, fun j hj => ?_⟩⟩, by simp [intOf]; omega⟩
          rcases Nat.lt_or_ge j i with h | h
          · exact HA.out j h
          · obtain rfl : j = i := by omega
            rw [hok.out, ha2, hd2]; rfl
      · obtain rfl : i = c.ends.length := by omega
        have hah : Aside (∀ w2 : World, Below w.heap.size w w2 → Calls Try.prog 69 #[colV c B D ⟨ea, ec⟩ X, .int .i64 c.n] w2 (IntP (aheadI c.ends c.ends.length) w2)) := ⟨fun w2 hb => by
          have := cahead_any c B D ⟨ea, ec⟩ X c.ends.length (Nat.le_refl _) HC.out.le w2 (HR.out.ends.below hb)
          rw [S2.out] at this
          exact this⟩
        have HAL := Aside.mk (all_range HA.out)
        go_wp2
        go_region_law ((refine step_call (P := Try.prog) wr.drew (by rfl) 69 [.tmp 52, .tmp 54] _ (by rfl) [colV c B D ⟨ea, ec⟩ X, .int .i64 c.n] (by rfl) (fun _ _ => rfl) (hah.out wr.drew (BW.out.trans (below_drewN _ _ 1))) ?_; rintro e w2 ⟨rfl, hb2⟩; replace hb2 := undrew hb2; replace BW := Aside.mk (BW.out.trans (hb2.mono BW.out.size)); replace BX := Aside.mk ((hb2.block _ (lt_of_blk BX.out)).trans BX.out); obtain ⟨c0, c1, c2, c3, c4, c5, c6, c7⟩ := box8 BX.out; clear hb2; refine ⟨_, rfl, ?_⟩))
        all_goals
          go_wp2
          go_ret
          exact ⟨ret_bool (by rw [HM.out, HAL.out]; rfl), BW.out⟩
end Go.Proofs.Ytmhjjhaipcgbiaa


namespace Go.Proofs.Ytmhjjhaipcgbiaa
open Go.RowKit
set_option linter.unusedVariables false
set_option linter.unusedSimpArgs false
set_option maxRecDepth 100000
set_option maxHeartbeats 1000000
def dictErr (ws : List (List Int)) : Int := if ws.Nodup then 0 else 180
theorem take_nodup_no {ws : List (List Int)} {i : Nat} (hi : i < ws.length) (h : (ws.take i).contains ws[i] = true) : ¬ ws.Nodup := by
  intro hn
  rw [← List.take_append_drop i ws, List.nodup_append] at hn
  simp at h
  exact hn.2.2 _ h _ (by rw [List.drop_eq_getElem_cons hi]; exact List.mem_cons_self ..) rfl
theorem dictCheck_any (ws : List (List Int)) (W : SL) (vals : List Value) (hl : ws.length ≤ 100000000) (hb : ∀ t ∈ ws, IsBytes t ∧ t.length ≤ 100000000) (w : World) (h : Rd w 1 (.slice W.a ws.length W.c) ws.length vals) (hw : RdWs w vals ws) :
    Calls Try.prog 144 #[.slice W.a ws.length W.c] w (IntP (dictErr ws) w) := by
  obtain ⟨wa, wc⟩ := W
  have HR := Aside.mk h
  have HW := Aside.mk hw
  have HB := Aside.mk hb
  clear h hw hb
  go_enter Try.func144, Try.ntmps144
  go_wp2_with (go_at_call 62; refine (dictNew_any _).mono ?_; rintro e w1 ⟨rfl, rfl⟩)
  go_loopw [9] (fun iv wr => ∃ i : Nat, i ≤ ws.length ∧ iv = .int .i64 (i : Int) ∧ Aside (Below w.heap.size w wr ∧ WL wr (fun b => w.heap.size ≤ b) (w.heap.size + 1) (ws.take i))) (fun iv _ => ws.length - (intOf iv).toNat)
  case atStart => exact ⟨0, by omega, rfl, ⟨((Below.refl _ _).alloc (Nat.le_refl _) _).alloc (by simp) _, wl_new w⟩⟩
  case round =>
    obtain ⟨i, hi, rfl, hp⟩ := hrel
    by_cases hlt : i < ws.length
    · obtain ⟨ta, tc, hv, ht⟩ := HW.out.2 i _ (List.getElem?_eq_getElem hlt)
      have hvl := HW.out.1
      obtain ⟨eb, eo, ecap, hs, hel, hecap, hcE⟩ := HR.out.some_ (by omega)
      simp only [Value.slice.injEq, true_and] at hs
      obtain ⟨rfl, rfl⟩ := hs
      have hc2 := (hp.out.1.cell (p := ⟨eb, eo + i, none⟩) (World.block_lt_of_cell? _ _ (hcE i _ hv))).trans (hcE i _ hv)
      have HT := Aside.mk (ht.below hp.out.1)
      have HTB := Aside.mk (HB.out _ (List.getElem_mem hlt))
      have HTK := Aside.mk (show ws.take (i + 1) = ws.take i ++ [ws[i]] from List.take_succ_eq_append_getElem hlt)
      have HNO := Aside.mk (fun h => take_nodup_no hlt h)
      clear hcE hv ht hvl
      generalize ws[i] = t at *
      have HC := Aside.mk (code_any (fun b => w.heap.size ≤ b) (w.heap.size + 1) (ws.take i) t ta tc HTB.out.1 HTB.out.2 (by rw [List.length_take]; omega) wr hp.out.2 HT.out)
      cases hcon : (ws.take i).contains t with
      | true =>
        have hco := (List.getElem?_eq_some_iff.1 (codeOf_get hcon)).1
        rw [List.length_take] at hco
        have hres := Aside.mk (show (180 : Int) = dictErr ws by rw [dictErr, if_neg (HNO.out hcon)])
        have hd : codeOf (ws.take i) t < i := by omega
        clear hcon
        go_wp2_with (go_at_call 105; refine HC.out.mono ?_; rintro e w2 ⟨rfl, hw2, hk2⟩; have H2 := Aside.mk hk2; clear hw2 hk2)
        go_ret
        exact ⟨ret_int hres.out, hp.out.1.trans (H2.out.to_below hp.out.1.size (fun k h => h))⟩
      | false =>
        have hco := codeOf_new hcon
        rw [List.length_take, Nat.min_eq_left (by omega)] at hco
        have hcon := Aside.mk hcon
        have hcon2 := Aside.mk (addWord_new hcon.out)
        have hd : ¬ codeOf (ws.take i) t < i := by omega
        clear hco
        go_wp2_with (go_at_call 105; refine HC.out.mono ?_; rintro e w2 ⟨rfl, hw2, hk2⟩; have H2 := Aside.mk hk2; have W2 := Aside.mk hw2; clear hw2 hk2)
        refine ⟨⟨i + 1, by omega, by simp, ⟨hp.out.1.trans (H2.out.to_below hp.out.1.size (fun k h => h)), ?_⟩⟩, by simp [intOf]; omega⟩
        rw [HTK.out, ← hcon2.out]
        exact W2.out.mono (fun b h _ => by have := hp.out.1.size; rcases h with h | h <;> omega)
    · obtain rfl : i = ws.length := by omega
      have hnd := Aside.mk (show (0 : Int) = dictErr ws by
        have := hp.out.2.nodup
        rw [List.take_length] at this
        rw [dictErr, if_pos this])
      go_wp2
      go_ret
      exact ⟨ret_int hnd.out, hp.out.1⟩
end Go.Proofs.Ytmhjjhaipcgbiaa
