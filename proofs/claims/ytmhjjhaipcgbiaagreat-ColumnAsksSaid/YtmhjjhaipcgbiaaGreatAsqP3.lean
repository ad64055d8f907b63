/- Texts of this claim, one behind the other: MayR, Code, DictC, MayC, Eq, EqF, OfR, Calm, Check, CheckA, Val, ValR, ValR0, Get0, Get, GetA. -/
import Derived.Test.YtmhjjhaipcgbiaaGreatAsqP2
import Derived.Test.YtmhjjhaipcgbiaaGreatAsqP1
import Derived.BigQuiet
import Derived.Deep.Quiet

namespace Go.Proofs.YtmhjjhaipcgbiaaGreat
open Go.RowKit
set_option linter.unusedVariables false
set_option linter.unusedSimpArgs false
set_option maxRecDepth 100000
set_option maxHeartbeats 1000000
def okR (c : Col) (i : Nat) : Bool := !(decide (c.ends.getD i 0 < aheadI c.ends i) || decide ((c.data.length : Int) < c.ends.getD i 0) || (nullB c.bits i && c.ends.getD i 0 != aheadI c.ends i))
theorem mayRunning_eq (c : Col) : mayRunning c = (((c.ends.length : Int) == c.n) && c.words.isEmpty && (List.range c.ends.length).all (okR c) && (aheadI c.ends c.ends.length == (c.data.length : Int))) := rfl
theorem words_pos {ws : List (List Int)} (h : ws.isEmpty = false) : decide (0 < ws.length) = true := by
  cases ws with
  | nil => cases h
  | cons a l => simp
theorem words_zero {ws : List (List Int)} (h : ws.isEmpty = true) : decide (0 < ws.length) = false := by
  cases ws with
  | nil => rfl
  | cons a l => cases h
theorem mayR_any (c : Col) (hc : COK c) (hn : c.n ≤ 8 * (c.bits.length : Int)) (B D E X : SL) (vals : List Value) (w : World) (h : RdC w c B D E X vals) :
    Calls Tryz.prog 218 #[.agg #[], colV c B D E X] w (BoolP (mayRunning c) w) := by
  obtain ⟨ea, ec⟩ := E
  have HR := Aside.mk h
  have HC := Aside.mk hc
  have HN := Aside.mk hn
  clear h hc hn
  have hbw := (below_new w (.cells #[] 162)).trans ((below_new _ (.cells #[.int .i64 c.k, .int .i64 c.s, .int .i64 c.n, .int .i64 c.m, .slice B.a c.bits.length B.c, .slice D.a c.data.length D.c, .slice ea c.ends.length ec, .slice X.a c.words.length X.c] 63)).mono (by simp))
  have HBW := Aside.mk hbw
  clear hbw
  dsimp only [colV]
  by_cases he : (c.ends.length : Int) = c.n
  rotate_left
  · have he2 : ((c.ends.length : Int) == c.n) = false := by simpa using he
    have HE2 := Aside.mk he2
    have he3 : ((c.ends.length : Int) != c.n) = true := by rw [bne, he2]; rfl
    clear he he2
    go_enter Tryz.func218, Tryz.ntmps218
    go_wp2
    go_ret
    exact ⟨ret_bool (by rw [mayRunning_eq, HE2.out]; rfl), HBW.out⟩
  have S2 := Aside.mk he
  have he2 : ((c.ends.length : Int) == c.n) = true := by simpa using he
  have HE2 := Aside.mk he2
  have he3 : ((c.ends.length : Int) != c.n) = false := by rw [bne, he2]; rfl
  clear he he2
  cases hx : c.words.isEmpty with
  | false =>
    have hx2 := words_pos hx
    have HX := Aside.mk hx
    clear hx
    go_enter Tryz.func218, Tryz.ntmps218
    go_wp2
    go_ret
    exact ⟨ret_bool (by rw [mayRunning_eq, HE2.out, HX.out]; rfl), HBW.out⟩
  | true =>
    have hx2 := words_zero hx
    have HM := Aside.mk (show mayRunning c = ((List.range c.ends.length).all (okR c) && (aheadI c.ends c.ends.length == (c.data.length : Int))) by rw [mayRunning_eq, HE2.out, hx]; simp)
    clear hx
    have hle := HC.out.le
    have hld := HC.out.ld
    go_enter Tryz.func218, Tryz.ntmps218
    go_wp2
    generalize hw1 : ((w.alloc (.cells #[] 162)).alloc (.cells #[.int .i64 c.k, .int .i64 c.s, .int .i64 c.n, .int .i64 c.m, .slice B.a c.bits.length B.c, .slice D.a c.data.length D.c, .slice ea c.ends.length ec, .slice X.a c.words.length X.c] 63)) = w1 at *
    have BX := Aside.mk (show w1.heap[w.heap.size + 1]? = some (.cells #[.int .i64 c.k, .int .i64 c.s, .int .i64 c.n, .int .i64 c.m, .slice B.a c.bits.length B.c, .slice D.a c.data.length D.c, .slice ea c.ends.length ec, .slice X.a c.words.length X.c] 63 (0, 0)) by
      rw [← hw1]; simpa using heap_alloc_new (w.alloc (.cells #[] 162)) (.cells #[.int .i64 c.k, .int .i64 c.s, .int .i64 c.n, .int .i64 c.m, .slice B.a c.bits.length B.c, .slice D.a c.data.length D.c, .slice ea c.ends.length ec, .slice X.a c.words.length X.c] 63))
    clear hw1
    go_loopw [23] (fun iv wr => ∃ i : Nat, i ≤ c.ends.length ∧ iv = .int .i64 (i : Int) ∧ Aside (Below w.heap.size w wr ∧ wr.heap[w.heap.size + 1]? = some (.cells #[.int .i64 c.k, .int .i64 c.s, .int .i64 c.n, .int .i64 c.m, .slice B.a c.bits.length B.c, .slice D.a c.data.length D.c, .slice ea c.ends.length ec, .slice X.a c.words.length X.c] 63 (0, 0)) ∧ ∀ j, j < i → okR c j = true)) (fun iv _ => c.ends.length - (intOf iv).toNat)
    case atStart => exact ⟨0, by omega, rfl, ⟨HBW.out, BX.out, fun j hj => by omega⟩⟩
    case round =>
      clear HBW BX
      obtain ⟨i, hi, rfl, hp⟩ := hrel
      have BW := Aside.mk hp.out.1
      have BX := Aside.mk hp.out.2.1
      have HA := Aside.mk hp.out.2.2
      clear hp
      obtain ⟨c0, c1, c2, c3, c4, c5, c6, c7⟩ := box8 BX.out
      by_cases hlt : i < c.ends.length
      · have hb8 : i / 8 < c.bits.length := by have := S2.out; have := HN.out; omega
        obtain ⟨eb, eo, ecap, hs, hel, hecap, hcE⟩ := rd_get HR.out.ends i hlt
        have hcE2 := (BW.out.cell (p := ⟨eb, eo + i, none⟩) (World.block_lt_of_cell? _ _ hcE)).trans hcE
        clear hcE
        have hahead := Aside.mk (fun (w2 : World) hb => cahead_any c B D ⟨ea, ec⟩ X i (by omega) HC.out.le w2 (HR.out.ends.below hb))
        have hnull := Aside.mk (fun (w2 : World) hb => null_any c B D ⟨ea, ec⟩ X i hb8 HC.out.bits HC.out.lb w2 (HR.out.bits.below hb))
        simp only [Value.slice.injEq, true_and] at hs
        obtain ⟨rfl, rfl⟩ := hs
        have hok := Aside.mk (show okR c i = !(decide (c.ends.getD i 0 < aheadI c.ends i) || decide ((c.data.length : Int) < c.ends.getD i 0) || (nullB c.bits i && c.ends.getD i 0 != aheadI c.ends i)) from rfl)
        generalize c.ends.getD i 0 = ev at *
        generalize aheadI c.ends i = fv at *
        generalize nullB c.bits i = nb at *
        by_cases ha : ev < fv
        · have ha2 : decide (ev < fv) = true := decide_eq_true ha
          go_wp2_with (first | (go_at_call 87; refine (hahead.out _ BW.out).mono ?_; rintro e w2 ⟨rfl, hb2⟩; replace BW := Aside.mk (BW.out.trans (hb2.mono BW.out.size)); replace BX := Aside.mk ((hb2.block _ (lt_of_blk BX.out)).trans BX.out); obtain ⟨c0, c1, c2, c3, c4, c5, c6, c7⟩ := box8 BX.out; clear hb2) | (go_at_call 129; refine (hnull.out _ BW.out).mono ?_; rintro e w2 ⟨rfl, hb2⟩; replace BW := Aside.mk (BW.out.trans (hb2.mono BW.out.size)); replace BX := Aside.mk ((hb2.block _ (lt_of_blk BX.out)).trans BX.out); obtain ⟨c0, c1, c2, c3, c4, c5, c6, c7⟩ := box8 BX.out; clear hb2))
          go_ret
          exact ⟨ret_bool (by rw [HM.out, all_false hlt (by rw [hok.out, ha2]; rfl)]; rfl), BW.out⟩
        have ha2 : decide (ev < fv) = false := decide_eq_false ha
        by_cases hd : (c.data.length : Int) < ev
        · have hd2 : decide ((c.data.length : Int) < ev) = true := decide_eq_true hd
          go_wp2_with (first | (go_at_call 87; refine (hahead.out _ BW.out).mono ?_; rintro e w2 ⟨rfl, hb2⟩; replace BW := Aside.mk (BW.out.trans (hb2.mono BW.out.size)); replace BX := Aside.mk ((hb2.block _ (lt_of_blk BX.out)).trans BX.out); obtain ⟨c0, c1, c2, c3, c4, c5, c6, c7⟩ := box8 BX.out; clear hb2) | (go_at_call 129; refine (hnull.out _ BW.out).mono ?_; rintro e w2 ⟨rfl, hb2⟩; replace BW := Aside.mk (BW.out.trans (hb2.mono BW.out.size)); replace BX := Aside.mk ((hb2.block _ (lt_of_blk BX.out)).trans BX.out); obtain ⟨c0, c1, c2, c3, c4, c5, c6, c7⟩ := box8 BX.out; clear hb2))
          go_ret
          exact ⟨ret_bool (by rw [HM.out, all_false hlt (by rw [hok.out, hd2]; simp)]; rfl), BW.out⟩
        have hd2 : decide ((c.data.length : Int) < ev) = false := decide_eq_false hd
        cases nb with
        | true =>
          by_cases hq : ev = fv
          · subst hq
            go_wp2_with (first | (go_at_call 87; refine (hahead.out _ BW.out).mono ?_; rintro e w2 ⟨rfl, hb2⟩; replace BW := Aside.mk (BW.out.trans (hb2.mono BW.out.size)); replace BX := Aside.mk ((hb2.block _ (lt_of_blk BX.out)).trans BX.out); obtain ⟨c0, c1, c2, c3, c4, c5, c6, c7⟩ := box8 BX.out; clear hb2) | (go_at_call 129; refine (hnull.out _ BW.out).mono ?_; rintro e w2 ⟨rfl, hb2⟩; replace BW := Aside.mk (BW.out.trans (hb2.mono BW.out.size)); replace BX := Aside.mk ((hb2.block _ (lt_of_blk BX.out)).trans BX.out); obtain ⟨c0, c1, c2, c3, c4, c5, c6, c7⟩ := box8 BX.out; clear hb2))
            refine ⟨⟨i + 1, by omega, by simp, ⟨BW.out, BX.out, fun j hj => ?_⟩⟩, by simp [intOf]; omega⟩
            rcases Nat.lt_or_ge j i with h | h
            · exact HA.out j h
            · obtain rfl : j = i := by omega
              rw [hok.out, ha2, hd2]; simp
          · have hq2 : (ev != fv) = true := by simpa using hq
            go_wp2_with (first | (go_at_call 87; refine (hahead.out _ BW.out).mono ?_; rintro e w2 ⟨rfl, hb2⟩; replace BW := Aside.mk (BW.out.trans (hb2.mono BW.out.size)); replace BX := Aside.mk ((hb2.block _ (lt_of_blk BX.out)).trans BX.out); obtain ⟨c0, c1, c2, c3, c4, c5, c6, c7⟩ := box8 BX.out; clear hb2) | (go_at_call 129; refine (hnull.out _ BW.out).mono ?_; rintro e w2 ⟨rfl, hb2⟩; replace BW := Aside.mk (BW.out.trans (hb2.mono BW.out.size)); replace BX := Aside.mk ((hb2.block _ (lt_of_blk BX.out)).trans BX.out); obtain ⟨c0, c1, c2, c3, c4, c5, c6, c7⟩ := box8 BX.out; clear hb2))
            go_ret
            exact ⟨ret_bool (by rw [HM.out, all_false hlt (by rw [hok.out, hq2]; simp)]; rfl), BW.out⟩
        | false =>
          go_wp2_with (first | (go_at_call 87; refine (hahead.out _ BW.out).mono ?_; rintro e w2 ⟨rfl, hb2⟩; replace BW := Aside.mk (BW.out.trans (hb2.mono BW.out.size)); replace BX := Aside.mk ((hb2.block _ (lt_of_blk BX.out)).trans BX.out); obtain ⟨c0, c1, c2, c3, c4, c5, c6, c7⟩ := box8 BX.out; clear hb2) | (go_at_call 129; refine (hnull.out _ BW.out).mono ?_; rintro e w2 ⟨rfl, hb2⟩; replace BW := Aside.mk (BW.out.trans (hb2.mono BW.out.size)); replace BX := Aside.mk ((hb2.block _ (lt_of_blk BX.out)).trans BX.out); obtain ⟨c0, c1, c2, c3, c4, c5, c6, c7⟩ := box8 BX.out; clear hb2))
          refine ⟨⟨i + 1, by omega, by simp, ⟨BW.out, BX.out, fun j hj => ?_⟩⟩, by simp [intOf]; omega⟩
          rcases Nat.lt_or_ge j i with h | h
          · exact HA.out j h
          · obtain rfl : j = i := by omega
            rw [hok.out, ha2, hd2]; rfl
      · obtain rfl : i = c.ends.length := by omega
        have hah : Aside (∀ w2 : World, Below w.heap.size w w2 → Calls Tryz.prog 87 #[colV c B D ⟨ea, ec⟩ X, .int .i64 c.n] w2 (IntP (aheadI c.ends c.ends.length) w2)) := ⟨fun w2 hb => by
          have := cahead_any c B D ⟨ea, ec⟩ X c.ends.length (Nat.le_refl _) HC.out.le w2 (HR.out.ends.below hb)
          rw [S2.out] at this
          exact this⟩
        have HAL := Aside.mk (all_range HA.out)
        go_wp2
        go_region_law ((refine step_call (P := Tryz.prog) wr.drew (by rfl) 87 [.tmp 52, .tmp 54] _ (by rfl) [colV c B D ⟨ea, ec⟩ X, .int .i64 c.n] (by rfl) (fun _ _ => rfl) (hah.out wr.drew (BW.out.trans (below_drewN _ _ 1))) ?_; rintro e w2 ⟨rfl, hb2⟩; replace hb2 := undrew hb2; replace BW := Aside.mk (BW.out.trans (hb2.mono BW.out.size)); replace BX := Aside.mk ((hb2.block _ (lt_of_blk BX.out)).trans BX.out); obtain ⟨c0, c1, c2, c3, c4, c5, c6, c7⟩ := box8 BX.out; clear hb2; refine ⟨_, rfl, ?_⟩))
        all_goals
          go_wp2
          go_ret
          exact ⟨ret_bool (by rw [HM.out, HAL.out]; rfl), BW.out⟩
end Go.Proofs.YtmhjjhaipcgbiaaGreat


namespace Go.Proofs.YtmhjjhaipcgbiaaGreat
open Go.RowKit Go.Maps
set_option linter.unusedVariables false
set_option linter.unusedSimpArgs false
set_option maxRecDepth 100000
set_option maxHeartbeats 1000000
theorem string_law : Keyed Tryz.prog 9 := string_keyed Tryz.underlying9
theorem int_zero (w : World) : (zeroValue 3).run Tryz.prog w = .ok (.int .i64 0) w := by kernel_rfl
theorem bytesinfo : (Tryz.prog.info? 43).map (fun i => (i.zero, i.size, i.bytes)) = some (some (.slice none 0 0), 1, 24) := by kernel_rfl
theorem conv_nil (a : Option Addr) (c : Nat) (w : World) : (convert 43 9 (.slice a 0 c)).run Tryz.prog w = .ok (.string (strOfNums [])) w := by
  cases a <;> kernel_rfl
theorem conv_any (a : Option Addr) (n c : Nat) (xs : List Int) (hn : xs.length = n) (w : World) (h : Rd w 1 (.slice a n c) n (xs.map (.int .u8))) : (convert 43 9 (.slice a n c)).run Tryz.prog w = .ok (.string (strOfNums xs)) w := by
  rcases Nat.eq_zero_or_pos n with h0 | h0
  · subst h0
    obtain rfl : xs = [] := List.eq_nil_of_length_eq_zero hn
    exact conv_nil a c w
  · obtain ⟨g, o, d, e, _, _, hc⟩ := h.some_ (by rw [List.length_map]; omega)
    rw [e]
    exact run_convert_bytes_arg w 43 5 Tryz.underlying43 Tryz.underlying5 g o n d xs hn (fun i hi => hc i _ (by
      have : i < xs.length := by omega
      simp [List.getElem?_eq_getElem this, List.getD])) 9 Tryz.underlying9
theorem look_code {w : World} {T : Nat → Prop} {lw : Nat} {ws : List (List Int)} {wv : Value} {mb : Nat} {vals : List Value} {D : DataW Unit} (h : WLx w T lw ws wv mb vals D) (tx : List Int) (ht : IsBytes tx) (hl : tx.length ≤ 100000000) :
    ∃ c : Int, (Instr.lookup 210 (.map (some mb)) (.string (strOfNums tx)) true).run Tryz.prog w = .ok (.tuple #[.int .i64 c, .bool (ws.contains tx)]) w ∧ (ws.contains tx = true → c = (codeOf ws tx : Int)) := by
  obtain ⟨n, hm, hn⟩ := h.map
  obtain ⟨v, ps, hrun, hv⟩ := hm.look_ok string_law Tryz.underlying210 (int_zero w) (plainElem_int Tryz.underlying3 (by decide)) (wordKey_key tx (by unfold maxLen; omega))
  obtain ⟨c, rfl, hc, _⟩ := plainElem_int_inv Tryz.underlying3 hv
  rw [h.codes.1 tx ht] at hrun
  refine ⟨c, hrun, fun hcon => ?_⟩
  have := h.codes.2 _ tx (codeOf_get hcon)
  have e := congrArg Prod.fst hc
  rw [this] at e
  simp at e
  exact e.symm
theorem wf_len (n : Nat) (h : n ≤ 100000000) : (Lit.int .i64 (n : Int)).wf = true := by
  have h1 : IntKind.i64.min ≤ 0 := by decide
  have h2 : 100000000 ≤ IntKind.i64.max := by decide
  unfold Lit.wf
  simp only [Bool.and_eq_true, decide_eq_true_eq]
  omega
theorem store_code {w : World} {T : Nat → Prop} {lw : Nat} {ws : List (List Int)} {wv : Value} {mb : Nat} {vals : List Value} {D : DataW Unit} (h : WLx w T lw ws wv mb vals D) (tx : List Int) (ht : IsBytes tx) (hl : tx.length ≤ 100000000) (hw : ws.length ≤ 100000000) :
    ∃ w', (Instr.mapUpdate 210 (.map (some mb)) (.string (strOfNums tx)) (.int .i64 (ws.length : Int))).run Tryz.prog w = .ok () w' ∧ (∃ n, w'.ownsMap Tryz.prog 9 (plainElem Tryz.prog 3) mb n (D.put (wordKey tx) (.lit (.int .i64 (ws.length : Int)))) ∧ n ≤ ws.length + 1) ∧ w.grownBy w' (some mb) := by
  obtain ⟨n, hm, hn⟩ := h.map
  obtain ⟨w', h1, h2, h3⟩ := hm.update string_law Tryz.underlying210 (by unfold maxLen; omega) (wordKey_key tx (by unfold maxLen; omega)) (plainElem_int Tryz.underlying3 (q := .i64) (a := (ws.length : Int)) (wf_len _ (by omega)))
  exact ⟨w', h1, ⟨_, h2, by omega⟩, h3⟩
theorem map_ne_cells {w : World} {a b : Nat} {es : Array MapEntry} {k : Nat} {cs : Array Value} {t : TypeId} {f : Nat × Nat} (h1 : w.heap[a]? = some (.map es k)) (h2 : w.heap[b]? = some (.cells cs t f)) : a ≠ b := by
  rintro rfl
  rw [h1] at h2; cases h2
theorem rd_kept2 {S : Nat → Prop} {w w' : World} {sz n : Nat} {v : Value} {xs : List Value} (h : Rd w sz v n xs) (hb : Kept S w w') (hS : ∀ k o u, w.cell? ⟨k, o, none⟩ = some u → v.ownBlock = some k → ¬ S k) : Rd w' sz v n xs := by
  obtain ⟨hl, a, cap, rfl, h1, h2, h3, h4⟩ := h
  refine ⟨hl, a, cap, rfl, h1, h2, h3, fun j u hu => ?_⟩
  obtain ⟨b, off, rfl, hc⟩ := h4 j u hu
  exact ⟨b, off, rfl, hb.cell hc (hS b _ u hc rfl)⟩
theorem own_blk {w : World} {base : Nat} {E : TypeId} {sz n : Nat} {v : Value} {xs : List Value} (h : Own w base E sz v n xs) {b : Nat} (hb : v.ownBlock = some b) : ∃ cur, w.heap[b]? = some (.cells cur E (0, 0)) := by
  rcases h.2 with ⟨rfl, _⟩ | ⟨g, off, cap, cur, rfl, _, hg, _⟩
  · cases hb
  · cases hb; exact ⟨cur, hg⟩
theorem wl_done {w w1 w3 w5 : World} {T : Nat → Prop} {lw : Nat} {ws : List (List Int)} {wv v' v5 : Value} {mb : Nat} {vals : List Value} {D : DataW Unit} {tx : List Int} {n1 : Nat} (H : WLx w T lw ws wv mb vals D) (hb : IsBytes tx) (hcon : ws.contains tx = false)
    (hm1 : w1.ownsMap Tryz.prog 9 (plainElem Tryz.prog 3) mb n1 (D.put (wordKey tx) (.lit (.int .i64 (ws.length : Int))))) (hn1 : n1 ≤ ws.length + 1) (hg1 : w.drew.drew.grownBy w1 (some mb))
    (hb3 : Below w1.heap.size w1 w3) (ho : Own w3 w1.heap.size 5 1 v' tx.length (tx.map (.int .u8)))
    (hgrow : (w3.alloc (.cells #[v'] 43)).grownBy w5 wv.ownBlock) (hown : Own w5 0 43 1 v5 (ws.length + 1) (vals ++ [v'])) (hat : v5.ownBlock = wv.ownBlock ∨ ∃ b, v5.ownBlock = some b ∧ (w3.alloc (.cells #[v'] 43)).heap.size ≤ b) :
    WL (w5.setCell ⟨lw, 0, none⟩ v5) (fun b => T b ∨ w.heap.size ≤ b) lw (addWord ws tx) ∧ Kept T w (w5.setCell ⟨lw, 0, none⟩ v5) := by
  obtain ⟨n0, hm0, _⟩ := H.map
  obtain ⟨es0, ck0, hmb0, _⟩ := hm0
  have hmlt := lt_of_blk hmb0
  have hllt := lt_of_blk H.blk
  have hml : mb ≠ lw := map_ne_cells hmb0 H.blk
  have k1 : Kept (fun b => b = mb) w w1 := ((Kept.of_below (S := fun b => b = mb) (below_drewN w _ 2)).trans (Kept.of_grown hg1) (fun k e _ => by simpa using e))
  have hs1 := k1.size
  have hs3 := hb3.size
  have hmw : ∀ b, wv.ownBlock = some b → b ≠ mb := by
    rintro b e rfl
    obtain ⟨cur, hc⟩ := own_blk H.row e
    exact map_ne_cells hmb0 hc rfl
  have row1 : Own w1 0 43 1 wv ws.length vals := H.row.kept k1 hmw
  have k2 : Kept (fun b => wv.ownBlock = some b) w1 w5 := ((Kept.of_below (S := fun b => wv.ownBlock = some b) hb3).trans (Kept.of_below (S := fun b => wv.ownBlock = some b) (below_new w3 (.cells #[v'] 43))) (fun _ e _ => e)).trans (Kept.of_grown hgrow) (fun _ e _ => e.symm)
  have hs5 := k2.size
  have hl1 := (k1.block lw hllt (fun e => hml e.symm)).trans H.blk
  have nlw : wv.ownBlock ≠ some lw := H.row.blk_ne H.blk (by decide)
  have hl5 := (k2.block lw (lt_of_blk hl1) nlw).trans hl1
  have k3 : Kept (fun b => b = mb ∨ wv.ownBlock = some b ∨ b = lw) w (w5.setCell ⟨lw, 0, none⟩ v5) :=
    ((k1.mono (T := fun b => b = mb ∨ wv.ownBlock = some b ∨ b = lw) (fun k e _ => .inl e)).trans k2 (fun k e _ => .inr (.inl e))).trans (Kept.setCell _ _ _) (fun k e _ => .inr (.inr e))
  have k4 : Kept (fun b => wv.ownBlock = some b ∨ b = lw) w1 (w5.setCell ⟨lw, 0, none⟩ v5) :=
    (k2.mono (T := fun b => wv.ownBlock = some b ∨ b = lw) (fun k e _ => .inl e)).trans (Kept.setCell _ _ _) (fun k e _ => .inr e)
  have k5 : Kept (fun b => wv.ownBlock = some b ∨ b = lw) w3 (w5.setCell ⟨lw, 0, none⟩ v5) :=
    (((Kept.of_below (S := fun b => wv.ownBlock = some b ∨ b = lw) (below_new w3 (.cells #[v'] 43))).trans (Kept.of_grown hgrow) (fun _ e _ => .inl e.symm))).trans (Kept.setCell _ _ _) (fun k e _ => .inr e)
  refine ⟨?_, k3.mono (fun k e _ => by
    rcases e with rfl | e | rfl
    · exact H.tm
    · exact H.tw _ e
    · exact H.tl)⟩
  rw [addWord_new hcon]
  refine ⟨v5, mb, vals ++ [v'], _, ⟨?_, ⟨n1, ?_, by simpa using hn1⟩, codesOK_put H.codes (World.ownsMap.isMap H.map.choose_spec.1) H.bytes hb hcon, ?_, ?_, .inl H.tl, .inl H.tm, ?_, ?_, ?_⟩⟩
  · have := heap_setCell_at (k := 0) hl5 v5
    simpa using this
  · obtain ⟨es, ck, hmb, r⟩ := hm1
    refine ⟨es, ck, (k4.block mb (lt_of_blk hmb) ?_).trans hmb, r⟩
    rintro (e | e)
    · exact hmw _ e rfl
    · exact hml e
  · rw [List.length_append]
    exact hown.set_other (hown.blk_ne hl5 (by decide)) _
  · refine ⟨by simp [H.words.1], fun i t hi => ?_⟩
    rcases Nat.lt_or_ge i ws.length with hlt | hge
    · rw [List.getElem?_append_left hlt] at hi
      obtain ⟨v, h1, h2, h3⟩ := H.words.2 i t hi
      refine ⟨v, by rw [List.getElem?_append_left (by rw [H.words.1]; exact hlt)]; exact h1, h2.kept k3 (fun k e => ?_), fun b e => .inl (h3 b e)⟩
      obtain ⟨cur, hc⟩ := own_blk h2 e
      rintro (e1 | e1 | e1)
      · exact map_ne_cells hmb0 hc e1.symm
      · exact H.row.blk_ne hc (by decide) e1
      · exact blk_ne hc H.blk (by decide) e1
    · rw [List.getElem?_append_right hge] at hi
      have h0 : i - ws.length = 0 := by
        have := (List.getElem?_eq_some_iff.1 hi).1
        simp at this
        omega
      rw [h0] at hi
      simp at hi
      subst hi
      refine ⟨v', ?_, (ho.kept k5 (fun k e => ?_)).mono (Nat.zero_le _), fun b e => .inr (by have := (ho.lt b e).1; omega)⟩
      · rw [List.getElem?_append_right (by rw [H.words.1]; exact hge), H.words.1, h0]; rfl
      · have hlt := (ho.lt k e).1
        rintro (e1 | e1)
        · have := (row1.lt k e1).2; omega
        · have := lt_of_blk hl1; omega
  · intro b e
    rcases hat with h | ⟨b', h, hle⟩
    · rw [h] at e; exact .inl (H.tw b e)
    · rw [h] at e; cases e
      refine .inr ?_
      have : w3.heap.size + 1 ≤ b := by simpa using hle
      omega
  · rw [← addWord_new hcon]; exact addWord_nodup H.nodup tx
  · rw [← addWord_new hcon]; exact addWord_bytes H.bytes hb
def CodeP (T : Nat → Prop) (lw : Nat) (ws : List (List Int)) (tx : List Int) (w : World) (e : Ending) (w' : World) : Prop :=
  e = .returned (.int .i64 (codeOf ws tx : Int)) ∧ WL w' (fun b => T b ∨ w.heap.size ≤ b) lw (addWord ws tx) ∧ Kept T w w'
theorem code_any (T : Nat → Prop) (lw : Nat) (ws : List (List Int)) (tx : List Int) (ta : Option Addr) (tc : Nat) (hb : IsBytes tx) (hl : tx.length ≤ 100000000) (hw : ws.length ≤ 100000000) (w : World) (h : WL w T lw ws) (ht : Rd w 1 (.slice ta tx.length tc) tx.length (tx.map (.int .u8))) :
    Calls Tryz.prog 134 #[.pointer (some ⟨lw, 0, none⟩), .slice ta tx.length tc] w (CodeP T lw ws tx w) := by
  obtain ⟨wv, mb, vals, D, h⟩ := h
  have hc0 := cell_blk (k := 0) h.blk
  have hc1 := cell_blk (k := 1) h.blk
  have hf0 := frozen_blk (k := 0) h.blk
  simp at hc0 hc1
  have hlw := lt_of_blk h.blk
  obtain ⟨c, hlook, hceq⟩ := look_code (show WLx w.drew T lw ws wv mb vals D from h.kept (Kept.of_below (S := fun _ => False) (below_drewN _ _ 1)) (fun _ _ _ e => e)) tx hb hl
  have hconv := conv_any ta _ tc tx rfl w.drew (ht.below (below_drewN _ _ 1))
  obtain ⟨wa, wc, rfl⟩ := h.row.form
  have H := Aside.mk h
  have HT := Aside.mk ht
  cases hcon : ws.contains tx with
  | true =>
    rw [hcon] at hlook
    have hce := hceq hcon
    subst hce
    have hcon := Aside.mk hcon
    clear h ht hceq
    go_enter Tryz.func134, Tryz.ntmps134
    go_wp2
    go_region
    go_wp2
    go_ret
    refine ⟨rfl, ?_, Kept.of_below (below_drewN _ _ 1)⟩
    rw [addWord_old hcon.out]
    exact ⟨_, mb, vals, D, (H.out.kept (Kept.of_below (S := fun _ => False) (below_drewN w _ 1)) (fun _ _ _ e => e)).mono (fun b hb _ => .inl hb)⟩
  | false =>
    rw [hcon] at hlook
    have hce := codeOf_new hcon
    have hcon := Aside.mk hcon
    have H1 := (show WLx w.drew.drew T lw ws (.slice wa ws.length wc) mb vals D from h.kept (Kept.of_below (S := fun _ => False) (below_drewN _ _ 2)) (fun _ _ _ e => e))
    have hconv2 := conv_any ta _ tc tx rfl w.drew.drew (ht.below (below_drewN _ _ 2))
    obtain ⟨w1, hupd, ⟨n1, hm1, hn1⟩, hg1⟩ := store_code H1 tx hb hl hw
    have HM := Aside.mk (And.intro hm1 (And.intro hn1 hg1))
    clear h ht hceq hm1 hn1 hg1 H1
    go_enter Tryz.func134, Tryz.ntmps134
    go_wp2
    go_region
    go_wp2
    go_region
    obtain ⟨es0, ck0, hmb0, _⟩ := H.out.map.choose_spec.1
    have hml : mb ≠ lw := map_ne_cells hmb0 H.out.blk
    have k1 : Kept (fun b => b = mb) w w1 := ((Kept.of_below (S := fun b => b = mb) (below_drewN w _ 2)).trans (Kept.of_grown HM.out.2.2) (fun k e _ => by simpa using e))
    have hl1 := (k1.block lw hlw (fun e => hml e.symm)).trans H.out.blk
    have hmw : ∀ b, Value.ownBlock (.slice wa ws.length wc) = some b → b ≠ mb := by
      rintro b e rfl
      obtain ⟨cur, hc⟩ := own_blk H.out.row e
      exact map_ne_cells hmb0 hc rfl
    have row1 := Aside.mk (show Own w1 0 43 1 (.slice wa ws.length wc) ws.length vals from H.out.row.kept k1 hmw)
    have hc0 := cell_blk (k := 0) hl1
    have hf0 := frozen_blk (k := 0) hl1
    simp at hc0
    have hlw1 := lt_of_blk hl1
    have nlw := Aside.mk (show Value.ownBlock (.slice wa ws.length wc) ≠ some lw from H.out.row.blk_ne H.out.blk (by decide))
    have HL1 := Aside.mk hl1
    have HT1 := Aside.mk (show Rd w1.drew 1 (.slice ta tx.length tc) tx.length (tx.map (.int .u8)) from (rd_kept2 HT.out k1 (fun b o u hu _ e => by
      subst e
      simp [World.cell?, hmb0] at hu)).below (below_drewN _ _ 1))
    have h1c := Aside.mk (one_map (fun x : Int => Value.int .u8 x) (fun _ => rfl) tx)
    clear hl1 k1 hmw hmb0 hconv hconv2 hlook hupd
    go_wp2
    go_region_law (first
      | (refine step_call (P := Tryz.prog) w1.drew (by rfl) 91 [.tmp 36] _ (by rfl) [.slice ta tx.length tc] (by rfl) (fun _ _ => rfl) (clone_bytes (.slice ta tx.length tc) tx.length _ w1.drew (by omega) HT1.out h1c.out) ?_; rintro e w3 ⟨v', rfl, ho, hb3⟩; obtain ⟨va, vc, rfl⟩ := ho.form; replace hb3 : Below w1.heap.size w1 w3 := (below_drewN w1 _ 1).trans hb3; have hl3 := (hb3.block lw hlw1).trans HL1.out; have hc03 := cell_blk (k := 0) hl3; have hf03 := frozen_blk (k := 0) hl3; simp at hc03; have hlw3 := lt_of_blk hl3; have HO := Aside.mk ho; have HB3 := Aside.mk hb3; have HL3 := Aside.mk hl3; clear ho hb3 hl3; refine ⟨_, rfl, ?_⟩)
      | (refine step_app (P := Tryz.prog) _ (by rfl) (.tmp 35) (.tmp 38) 37 37 (by rfl) 0 43 (.slice none 0 0) 1 24 Tryz.underlying37 bytesinfo (by rfl) (.slice wa ws.length wc) ws.length vals (by rfl) ((row1.out.below HB3.out).alloc _) (.slice (some ⟨_, 0, none⟩) 1 1) 1 [.slice va tx.length vc] (by rfl) (src_one Tryz.underlying37 _ (.slice va tx.length vc) 43 rfl rfl) (by unfold maxLen; omega) (by omega) (Nat.zero_le _) ?_; intro v5 w5 hown' hgrow _ hat; obtain ⟨a5, c5, rfl⟩ := hown'.form; have hb5 := (hgrow.block lw (by simp; omega) (fun e => nlw.out e.symm)).trans ((Below.heap_alloc _ (.cells #[.slice va tx.length vc] 43) _ hlw3).trans HL3.out); have hc5 := cell_blk (k := 0) hb5; have hf5 := frozen_blk (k := 0) hb5; simp at hc5; have HG5 := Aside.mk (And.intro hown' (And.intro hgrow hat)); clear hown' hgrow hat hb5))
    all_goals
      go_wp2
      go_ret
      refine ⟨by rw [hce]; rfl, ?_⟩
      exact wl_done H.out hb hcon.out HM.out.1 HM.out.2.1 HM.out.2.2 HB3.out (HO.out.mono (by show _ ≤ w1.heap.size; exact Nat.le_refl _)) HG5.out.2.1 HG5.out.1 HG5.out.2.2
end Go.Proofs.YtmhjjhaipcgbiaaGreat


namespace Go.Proofs.YtmhjjhaipcgbiaaGreat
open Go.RowKit
set_option linter.unusedVariables false
set_option linter.unusedSimpArgs false
set_option maxRecDepth 100000
set_option maxHeartbeats 1000000
def dictErr (ws : List (List Int)) : Int := if ws.Nodup then 0 else 180
theorem take_nodup_no {ws : List (List Int)} {i : Nat} (hi : i < ws.length) (h : (ws.take i).contains ws[i] = true) : ¬ ws.Nodup := by
  intro hn
  rw [← List.take_append_drop i ws, List.nodup_append] at hn
  simp at h
  exact hn.2.2 _ h _ (by rw [List.drop_eq_getElem_cons hi]; exact List.mem_cons_self ..) rfl
theorem dictCheck_any (ws : List (List Int)) (W : SL) (vals : List Value) (hl : ws.length ≤ 100000000) (hb : ∀ t ∈ ws, IsBytes t ∧ t.length ≤ 100000000) (w : World) (h : Rd w 1 (.slice W.a ws.length W.c) ws.length vals) (hw : RdWs w vals ws) :
    Calls Tryz.prog 225 #[.slice W.a ws.length W.c] w (IntP (dictErr ws) w) := by
  obtain ⟨wa, wc⟩ := W
  have HR := Aside.mk h
  have HW := Aside.mk hw
  have HB := Aside.mk hb
  clear h hw hb
  go_enter Tryz.func225, Tryz.ntmps225
  go_wp2_with (go_at_call 71; refine (dictNew_any _).mono ?_; rintro e w1 ⟨rfl, rfl⟩)
  go_loopw [9] (fun iv wr => ∃ i : Nat, i ≤ ws.length ∧ iv = .int .i64 (i : Int) ∧ Aside (Below w.heap.size w wr ∧ WL wr (fun b => w.heap.size ≤ b) (w.heap.size + 1) (ws.take i))) (fun iv _ => ws.length - (intOf iv).toNat)
  case atStart => exact ⟨0, by omega, rfl, ⟨((Below.refl _ _).alloc (Nat.le_refl _) _).alloc (by simp) _, wl_new w⟩⟩
  case round =>
    obtain ⟨i, hi, rfl, hp⟩ := hrel
    by_cases hlt : i < ws.length
    · obtain ⟨ta, tc, hv, ht⟩ := HW.out.2 i _ (List.getElem?_eq_getElem hlt)
      have hvl := HW.out.1
      obtain ⟨eb, eo, ecap, hs, hel, hecap, hcE⟩ := HR.out.some_ (by omega)
      simp only [Value.slice.injEq, true_and] at hs
      obtain ⟨rfl, rfl⟩ := hs
      have hc2 := (hp.out.1.cell (p := ⟨eb, eo + i, none⟩) (World.block_lt_of_cell? _ _ (hcE i _ hv))).trans (hcE i _ hv)
      have HT := Aside.mk (ht.below hp.out.1)
      have HTB := Aside.mk (HB.out _ (List.getElem_mem hlt))
      have HTK := Aside.mk (show ws.take (i + 1) = ws.take i ++ [ws[i]] from List.take_succ_eq_append_getElem hlt)
      have HNO := Aside.mk (fun h => take_nodup_no hlt h)
      clear hcE hv ht hvl
      generalize ws[i] = t at *
      have HC := Aside.mk (code_any (fun b => w.heap.size ≤ b) (w.heap.size + 1) (ws.take i) t ta tc HTB.out.1 HTB.out.2 (by rw [List.length_take]; omega) wr hp.out.2 HT.out)
      cases hcon : (ws.take i).contains t with
      | true =>
        have hco := (List.getElem?_eq_some_iff.1 (codeOf_get hcon)).1
        rw [List.length_take] at hco
        have hres := Aside.mk (show (180 : Int) = dictErr ws by rw [dictErr, if_neg (HNO.out hcon)])
        have hd : codeOf (ws.take i) t < i := by omega
        clear hcon
        go_wp2_with (go_at_call 134; refine HC.out.mono ?_; rintro e w2 ⟨rfl, hw2, hk2⟩; have H2 := Aside.mk hk2; clear hw2 hk2)
        go_ret
        exact ⟨ret_int hres.out, hp.out.1.trans (H2.out.to_below hp.out.1.size (fun k h => h))⟩
      | false =>
        have hco := codeOf_new hcon
        rw [List.length_take, Nat.min_eq_left (by omega)] at hco
        have hcon := Aside.mk hcon
        have hcon2 := Aside.mk (addWord_new hcon.out)
        have hd : ¬ codeOf (ws.take i) t < i := by omega
        clear hco
        go_wp2_with (go_at_call 134; refine HC.out.mono ?_; rintro e w2 ⟨rfl, hw2, hk2⟩; have H2 := Aside.mk hk2; have W2 := Aside.mk hw2; clear hw2 hk2)
        refine ⟨⟨i + 1, by omega, by simp, ⟨hp.out.1.trans (H2.out.to_below hp.out.1.size (fun k h => h)), ?_⟩⟩, by simp [intOf]; omega⟩
        rw [HTK.out, ← hcon2.out]
        exact W2.out.mono (fun b h _ => by have := hp.out.1.size; rcases h with h | h <;> omega)
    · obtain rfl : i = ws.length := by omega
      have hnd := Aside.mk (show (0 : Int) = dictErr ws by
        have := hp.out.2.nodup
        rw [List.take_length] at this
        rw [dictErr, if_pos this])
      go_wp2
      go_ret
      exact ⟨ret_int hnd.out, hp.out.1⟩
end Go.Proofs.YtmhjjhaipcgbiaaGreat


namespace Go.Proofs.YtmhjjhaipcgbiaaGreat
open Go.RowKit
set_option linter.unusedVariables false
set_option linter.unusedSimpArgs false
set_option maxRecDepth 100000
set_option maxHeartbeats 1000000
theorem codedRun_none {c : Col} {i next : Nat} (h : codedRun c i = some next) (hs : codedStep c i next = none) : ∀ N, i < N → codedRun c N = none
  | 0, hN => by omega
  | N + 1, hN => by
    rw [codedRun]
    rcases Nat.lt_or_ge i N with hlt | hge
    · rw [codedRun_none h hs N hlt]; rfl
    · obtain rfl : N = i := by omega
      rw [h, Option.bind_some, hs]
theorem mayC_any (c : Col) (hc : COK c) (hn : c.n ≤ 8 * (c.bits.length : Int)) (B D E X : SL) (vals : List Value) (w : World) (h : RdC w c B D E X vals) :
    Calls Tryz.prog 223 #[.agg #[.int .i64 4], colV c B D E X] w (BoolP (mayCoded c) w) := by
  have HR := Aside.mk h
  have HC := Aside.mk hc
  have HN := Aside.mk hn
  clear h hc hn
  dsimp only [colV]
  go_enter Tryz.func223, Tryz.ntmps223
  go_wp2_with fail
  generalize hw1 : ((w.alloc (.cells #[.int .i64 4] 167)).alloc (.cells #[.int .i64 c.k, .int .i64 c.s, .int .i64 c.n, .int .i64 c.m, .slice B.a c.bits.length B.c, .slice D.a c.data.length D.c, .slice E.a c.ends.length E.c, .slice X.a c.words.length X.c] 63)) = w1 at *
  have BW := Aside.mk (show Below w.heap.size w w1 from hw1 ▸ ((below_new w _).trans ((below_new _ _).mono (by simp))))
  have BF := Aside.mk (show w1.heap[w.heap.size]? = some (.cells #[.int .i64 4] 167 (0, 0)) by
    rw [← hw1, Below.heap_alloc _ _ _ (by simp)]; exact heap_alloc_new _ _)
  have BX := Aside.mk (show w1.heap[w.heap.size + 1]? = some (.cells #[.int .i64 c.k, .int .i64 c.s, .int .i64 c.n, .int .i64 c.m, .slice B.a c.bits.length B.c, .slice D.a c.data.length D.c, .slice E.a c.ends.length E.c, .slice X.a c.words.length X.c] 63 (0, 0)) by
    rw [← hw1]; simpa using heap_alloc_new (w.alloc (.cells #[.int .i64 4] 167)) (.cells #[.int .i64 c.k, .int .i64 c.s, .int .i64 c.n, .int .i64 c.m, .slice B.a c.bits.length B.c, .slice D.a c.data.length D.c, .slice E.a c.ends.length E.c, .slice X.a c.words.length X.c] 63))
  clear hw1
  refine (sized_4 c B D E X HC.out.ld w1).mono ?_
  rintro e w2 ⟨rfl, hb2⟩
  replace BW := Aside.mk (BW.out.trans (hb2.mono BW.out.size)); replace BF := Aside.mk ((hb2.block _ (lt_of_blk BF.out)).trans BF.out); replace BX := Aside.mk ((hb2.block _ (lt_of_blk BX.out)).trans BX.out); obtain ⟨c0, c1, c2, c3, c4, c5, c6, c7⟩ := box8 BX.out; have cf := cell_blk (k := 0) BF.out; simp at cf; clear hb2
  cases hs : sizedB 4 c with
  | false =>
    go_wp2
    go_ret
    exact ⟨ret_bool (by unfold mayCoded; rw [hs]; rfl), BW.out⟩
  | true =>
    have hdict := Aside.mk (fun (w2 : World) hb => dictCheck_any c.words X vals HC.out.lw HC.out.words w2 (HR.out.words.below hb) (HR.out.each.below hb))
    by_cases hnd : c.words.Nodup
    rotate_left
    · have HD := Aside.mk (show dictErr c.words = 180 by rw [dictErr, if_neg hnd])
      have HM := Aside.mk (show false = mayCoded c by unfold mayCoded; simp [hnd])
      clear hs hnd
      go_wp2_with (go_at_call 225; refine (hdict.out _ BW.out).mono ?_; rintro e w2 ⟨rfl, hb2⟩; rw [HD.out]; replace BW := Aside.mk (BW.out.trans (hb2.mono BW.out.size)); replace BF := Aside.mk ((hb2.block _ (lt_of_blk BF.out)).trans BF.out); replace BX := Aside.mk ((hb2.block _ (lt_of_blk BX.out)).trans BX.out); obtain ⟨c0, c1, c2, c3, c4, c5, c6, c7⟩ := box8 BX.out; have cf := cell_blk (k := 0) BF.out; simp at cf; clear hb2)
      go_ret
      exact ⟨ret_bool HM.out, BW.out⟩
    · have HD := Aside.mk (show dictErr c.words = 0 by rw [dictErr, if_pos hnd])
      obtain ⟨s1, s2⟩ := sized_nat hs
      generalize hN : c.data.length / 4 = N at *
      have hNb : N ≤ 100000000 := by rw [← hN]; exact Nat.le_trans (Nat.div_le_self _ _) HC.out.ld
      have S2 := Aside.mk s2
      have HM := Aside.mk (show mayCoded c = (codedRun c N == some c.words.length) by unfold mayCoded; rw [hs, s2]; simp [hnd])
      have HS := Aside.mk hs
      clear hN s1 s2 hs hnd
      go_wp2_with (go_at_call 225; refine (hdict.out _ BW.out).mono ?_; rintro e w2 ⟨rfl, hb2⟩; rw [HD.out]; replace BW := Aside.mk (BW.out.trans (hb2.mono BW.out.size)); replace BF := Aside.mk ((hb2.block _ (lt_of_blk BF.out)).trans BF.out); replace BX := Aside.mk ((hb2.block _ (lt_of_blk BX.out)).trans BX.out); obtain ⟨c0, c1, c2, c3, c4, c5, c6, c7⟩ := box8 BX.out; have cf := cell_blk (k := 0) BF.out; simp at cf; clear hb2)
      go_loopw [5, 21] (fun nv iv wr => ∃ i next : Nat, i ≤ N ∧ next ≤ i ∧ nv = .int .i64 (next : Int) ∧ iv = .int .i64 (i : Int) ∧ Aside (Below w.heap.size w wr ∧ wr.heap[w.heap.size]? = some (.cells #[.int .i64 4] 167 (0, 0)) ∧ wr.heap[w.heap.size + 1]? = some (.cells #[.int .i64 c.k, .int .i64 c.s, .int .i64 c.n, .int .i64 c.m, .slice B.a c.bits.length B.c, .slice D.a c.data.length D.c, .slice E.a c.ends.length E.c, .slice X.a c.words.length X.c] 63 (0, 0)) ∧ codedRun c i = some next)) (fun nv iv _ => N - (intOf iv).toNat)
      case atStart => exact ⟨0, 0, by omega, by omega, rfl, rfl, ⟨BW.out, BF.out, BX.out, rfl⟩⟩
      case round =>
        clear BW BF BX c0 c1 c2 c3 c4 c5 c6 c7 cf hdict
        obtain ⟨i, next, hi, hni, rfl, rfl, hp⟩ := hrel
        have BW := Aside.mk hp.out.1
        have BF := Aside.mk hp.out.2.1
        have BX := Aside.mk hp.out.2.2.1
        have HA := Aside.mk hp.out.2.2.2
        clear hp
        obtain ⟨c0, c1, c2, c3, c4, c5, c6, c7⟩ := box8 BX.out
        have cf := cell_blk (k := 0) BF.out
        simp at cf
        by_cases hlt : i < N
        · have hlt2 : (i : Int) < c.n := by have := S2.out; omega
          have hb8 : i / 8 < c.bits.length := by have := S2.out; have := HN.out; omega
          have hroom := sized_room HS.out i (by have := S2.out; omega)
          have hword := Aside.mk (fun (w2 : World) hb => fword_4 c B D E X i hroom HC.out.data HC.out.ld w2 (HR.out.data.below hb))
          have hnull := Aside.mk (fun (w2 : World) hb => null_any c B D E X i hb8 HC.out.bits HC.out.lb w2 (HR.out.bits.below hb))
          have hx32 : wordAt c.data (i * 4) 4 < 4294967296 := by
            have h1 := wordAt_lt HC.out.data (i * 4) 4
            have h2 : (256 : Nat) ^ 4 = 4294967296 := by decide
            rw [h2] at h1
            exact h1
          have hok := Aside.mk (show codedStep c i next = if (nullB c.bits i && wordAt c.data (i * 4) 4 != 0) || decide (next < wordAt c.data (i * 4) 4) then none else if !nullB c.bits i && wordAt c.data (i * 4) 4 == next then some (next + 1) else some next from rfl)
          have HNO := Aside.mk (fun h => codedRun_none HA.out h N hlt)
          have HYES := Aside.mk (fun n2 h => show codedRun c (i + 1) = some n2 by rw [codedRun, HA.out, Option.bind_some]; exact h)
          clear hroom
          generalize wordAt c.data (i * 4) 4 = x at *
          generalize nullB c.bits i = nb at *
          cases nb with
          | true =>
            by_cases hx0 : x = 0
            · subst hx0
              have HY := Aside.mk (HYES.out next (by rw [hok.out]; simp))
              go_wp2_with (first | (go_at_call 88; refine (hword.out _ BW.out).mono ?_; rintro e w2 ⟨rfl, hb2⟩; replace BW := Aside.mk (BW.out.trans (hb2.mono BW.out.size)); replace BF := Aside.mk ((hb2.block _ (lt_of_blk BF.out)).trans BF.out); replace BX := Aside.mk ((hb2.block _ (lt_of_blk BX.out)).trans BX.out); obtain ⟨c0, c1, c2, c3, c4, c5, c6, c7⟩ := box8 BX.out; have cf := cell_blk (k := 0) BF.out; simp at cf; clear hb2) | (go_at_call 129; refine (hnull.out _ BW.out).mono ?_; rintro e w2 ⟨rfl, hb2⟩; replace BW := Aside.mk (BW.out.trans (hb2.mono BW.out.size)); replace BF := Aside.mk ((hb2.block _ (lt_of_blk BF.out)).trans BF.out); replace BX := Aside.mk ((hb2.block _ (lt_of_blk BX.out)).trans BX.out); obtain ⟨c0, c1, c2, c3, c4, c5, c6, c7⟩ := box8 BX.out; have cf := cell_blk (k := 0) BF.out; simp at cf; clear hb2))
              exact ⟨⟨i + 1, next, by omega, by omega, rfl, by simp, ⟨BW.out, BF.out, BX.out, HY.out⟩⟩, by simp [intOf]; omega⟩
            · have hx1 : (((x : Int)) == 0) = false := by simp; omega
              have HY := Aside.mk (HNO.out (by rw [hok.out]; simp [hx0]))
              have hx4 : ((x : Int) != 0) = true := by rw [bne, hx1]; rfl
              clear hx0 hx1
              go_wp2_with (first | (go_at_call 88; refine (hword.out _ BW.out).mono ?_; rintro e w2 ⟨rfl, hb2⟩; replace BW := Aside.mk (BW.out.trans (hb2.mono BW.out.size)); replace BF := Aside.mk ((hb2.block _ (lt_of_blk BF.out)).trans BF.out); replace BX := Aside.mk ((hb2.block _ (lt_of_blk BX.out)).trans BX.out); obtain ⟨c0, c1, c2, c3, c4, c5, c6, c7⟩ := box8 BX.out; have cf := cell_blk (k := 0) BF.out; simp at cf; clear hb2) | (go_at_call 129; refine (hnull.out _ BW.out).mono ?_; rintro e w2 ⟨rfl, hb2⟩; replace BW := Aside.mk (BW.out.trans (hb2.mono BW.out.size)); replace BF := Aside.mk ((hb2.block _ (lt_of_blk BF.out)).trans BF.out); replace BX := Aside.mk ((hb2.block _ (lt_of_blk BX.out)).trans BX.out); obtain ⟨c0, c1, c2, c3, c4, c5, c6, c7⟩ := box8 BX.out; have cf := cell_blk (k := 0) BF.out; simp at cf; clear hb2))
              go_ret
              exact ⟨ret_bool (by rw [HM.out, HY.out]; rfl), BW.out⟩
          | false =>
            by_cases hgt : next < x
            · have HY := Aside.mk (HNO.out (by rw [hok.out]; simp [hgt]))
              go_wp2_with (first | (go_at_call 88; refine (hword.out _ BW.out).mono ?_; rintro e w2 ⟨rfl, hb2⟩; replace BW := Aside.mk (BW.out.trans (hb2.mono BW.out.size)); replace BF := Aside.mk ((hb2.block _ (lt_of_blk BF.out)).trans BF.out); replace BX := Aside.mk ((hb2.block _ (lt_of_blk BX.out)).trans BX.out); obtain ⟨c0, c1, c2, c3, c4, c5, c6, c7⟩ := box8 BX.out; have cf := cell_blk (k := 0) BF.out; simp at cf; clear hb2) | (go_at_call 129; refine (hnull.out _ BW.out).mono ?_; rintro e w2 ⟨rfl, hb2⟩; replace BW := Aside.mk (BW.out.trans (hb2.mono BW.out.size)); replace BF := Aside.mk ((hb2.block _ (lt_of_blk BF.out)).trans BF.out); replace BX := Aside.mk ((hb2.block _ (lt_of_blk BX.out)).trans BX.out); obtain ⟨c0, c1, c2, c3, c4, c5, c6, c7⟩ := box8 BX.out; have cf := cell_blk (k := 0) BF.out; simp at cf; clear hb2))
              go_ret
              exact ⟨ret_bool (by rw [HM.out, HY.out]; rfl), BW.out⟩
            · by_cases hq : x = next
              · subst hq
                have HY := Aside.mk (HYES.out (x + 1) (by rw [hok.out]; simp))
                go_wp2_with (first | (go_at_call 88; refine (hword.out _ BW.out).mono ?_; rintro e w2 ⟨rfl, hb2⟩; replace BW := Aside.mk (BW.out.trans (hb2.mono BW.out.size)); replace BF := Aside.mk ((hb2.block _ (lt_of_blk BF.out)).trans BF.out); replace BX := Aside.mk ((hb2.block _ (lt_of_blk BX.out)).trans BX.out); obtain ⟨c0, c1, c2, c3, c4, c5, c6, c7⟩ := box8 BX.out; have cf := cell_blk (k := 0) BF.out; simp at cf; clear hb2) | (go_at_call 129; refine (hnull.out _ BW.out).mono ?_; rintro e w2 ⟨rfl, hb2⟩; replace BW := Aside.mk (BW.out.trans (hb2.mono BW.out.size)); replace BF := Aside.mk ((hb2.block _ (lt_of_blk BF.out)).trans BF.out); replace BX := Aside.mk ((hb2.block _ (lt_of_blk BX.out)).trans BX.out); obtain ⟨c0, c1, c2, c3, c4, c5, c6, c7⟩ := box8 BX.out; have cf := cell_blk (k := 0) BF.out; simp at cf; clear hb2))
                exact ⟨⟨i + 1, x + 1, by omega, by omega, by simp, by simp, ⟨BW.out, BF.out, BX.out, HY.out⟩⟩, by simp [intOf]; omega⟩
              · have HY := Aside.mk (HYES.out next (by rw [hok.out]; simp [hgt, hq]))
                have hq2 : (x == next) = false := by simpa using hq
                have hq3 : ((x : Int) == (next : Int)) = false := by simp; omega
                go_wp2_with (first | (go_at_call 88; refine (hword.out _ BW.out).mono ?_; rintro e w2 ⟨rfl, hb2⟩; replace BW := Aside.mk (BW.out.trans (hb2.mono BW.out.size)); replace BF := Aside.mk ((hb2.block _ (lt_of_blk BF.out)).trans BF.out); replace BX := Aside.mk ((hb2.block _ (lt_of_blk BX.out)).trans BX.out); obtain ⟨c0, c1, c2, c3, c4, c5, c6, c7⟩ := box8 BX.out; have cf := cell_blk (k := 0) BF.out; simp at cf; clear hb2) | (go_at_call 129; refine (hnull.out _ BW.out).mono ?_; rintro e w2 ⟨rfl, hb2⟩; replace BW := Aside.mk (BW.out.trans (hb2.mono BW.out.size)); replace BF := Aside.mk ((hb2.block _ (lt_of_blk BF.out)).trans BF.out); replace BX := Aside.mk ((hb2.block _ (lt_of_blk BX.out)).trans BX.out); obtain ⟨c0, c1, c2, c3, c4, c5, c6, c7⟩ := box8 BX.out; have cf := cell_blk (k := 0) BF.out; simp at cf; clear hb2))
                exact ⟨⟨i + 1, next, by omega, by omega, rfl, by simp, ⟨BW.out, BF.out, BX.out, HY.out⟩⟩, by simp [intOf]; omega⟩
        · obtain rfl : i = N := by omega
          have hlt2 : ¬ (i : Int) < c.n := by have := S2.out; omega
          go_wp2
          go_ret
          refine ⟨ret_bool ?_, BW.out⟩
          rw [HM.out, HA.out, Bool.eq_iff_iff]
          simp
          try omega
end Go.Proofs.YtmhjjhaipcgbiaaGreat


namespace Go.Proofs.YtmhjjhaipcgbiaaGreat
open Go.RowKit
set_option linter.unusedVariables false
set_option linter.unusedSimpArgs false
set_option maxRecDepth 100000
set_option maxHeartbeats 1000000
theorem take_ext {xs ys : List Int} {i : Nat} (h1 : i < xs.length) (h2 : i < ys.length) (h : xs.take i = ys.take i) (e : xs.getD i 0 = ys.getD i 0) : xs.take (i + 1) = ys.take (i + 1) := by
  rw [List.take_succ_eq_append_getElem h1, List.take_succ_eq_append_getElem h2, h]
  simp only [List.getD_eq_getElem?_getD, List.getElem?_eq_getElem h1, List.getElem?_eq_getElem h2, Option.getD_some] at e
  rw [e]
theorem getD_ne {xs ys : List Int} {i : Nat} (e : xs.getD i 0 ≠ ys.getD i 0) : xs ≠ ys := fun h => e (by rw [h])
theorem len_ne {xs ys : List Int} (h : xs.length ≠ ys.length) : xs ≠ ys := fun e => h (by rw [e])
theorem full_eq {xs ys : List Int} (hl : xs.length = ys.length) (h : xs.take xs.length = ys.take xs.length) : xs = ys := by
  rw [List.take_length, hl, List.take_length] at h
  exact h
theorem equal_bytes (xs ys : List Int) (A B : SL) (hl : xs.length ≤ 1000000000) (w : World) (ha : Rd w 1 (.slice A.a xs.length A.c) xs.length (xs.map (.int .u8))) (hb : Rd w 1 (.slice B.a ys.length B.c) ys.length (ys.map (.int .u8))) :
    Calls Tryz.prog 166 #[.slice A.a xs.length A.c, .slice B.a ys.length B.c] w (BoolP (decide (xs = ys)) w) := by
  obtain ⟨aa, ac⟩ := A
  obtain ⟨ba, bc⟩ := B
  have HA := Aside.mk ha
  have HB := Aside.mk hb
  clear ha hb
  by_cases hlen : xs.length = ys.length
  rotate_left
  · have h1 : ((xs.length : Int) != (ys.length : Int)) = true := by simp; omega
    have HD := Aside.mk (show true = true ∧ false = decide (xs = ys) from ⟨rfl, by simp [len_ne hlen]⟩)
    clear hlen
    generalize xs.length = n at *
    generalize ys.length = m at *
    go_enter Tryz.func166, Tryz.ntmps166
    go_wp2
    go_ret
    exact ⟨ret_bool HD.out.2, Below.refl _ _⟩
  · have h1 : ((xs.length : Int) != (ys.length : Int)) = false := by simp; omega
    have HL := Aside.mk hlen
    clear hlen
    go_enter Tryz.func166, Tryz.ntmps166
    go_wp2
    go_loopw [13] (fun iv wr => ∃ i : Nat, i ≤ xs.length ∧ iv = .int .i64 (i : Int) ∧ Aside (Below w.heap.size w wr ∧ xs.take i = ys.take i)) (fun iv _ => xs.length - (intOf iv).toNat)
    case atStart => exact ⟨0, by omega, rfl, ⟨Below.refl _ _, rfl⟩⟩
    case round =>
      obtain ⟨i, hi, rfl, hp⟩ := hrel
      by_cases hlt : i < xs.length
      · have hlt2 : i < ys.length := by have := HL.out; omega
        obtain ⟨g1, o1, k1, hs, hel, hecap, hc⟩ := rd_get HA.out i hlt
        simp only [Value.slice.injEq, true_and] at hs
        obtain ⟨rfl, rfl⟩ := hs
        obtain ⟨g2, o2, k2, hs, hel2, hecap2, hd⟩ := rd_get HB.out i hlt2
        simp only [Value.slice.injEq, true_and] at hs
        obtain ⟨rfl, rfl⟩ := hs
        have hc2 := (hp.out.1.cell (p := ⟨g1, o1 + i, none⟩) (World.block_lt_of_cell? _ _ hc)).trans hc
        have hd2 := (hp.out.1.cell (p := ⟨g2, o2 + i, none⟩) (World.block_lt_of_cell? _ _ hd)).trans hd
        have hlx := hlt
        clear hc hd
        by_cases hq : xs.getD i 0 = ys.getD i 0
        · have HT := Aside.mk (take_ext hlt hlt2 hp.out.2 hq)
          rw [← hq] at hd2
          clear hq
          generalize xs.getD i 0 = x at *
          go_wp2
          go_quiet (fail)
          go_wp2
          refine ⟨⟨i + 1, by omega, by simp, ⟨hp.out.1.trans (below_drewN _ _ _), HT.out⟩⟩, by simp [intOf]; omega⟩
        · have HT := Aside.mk (getD_ne hq)
          have hq2 : (xs.getD i 0 != ys.getD i 0) = true := by simpa using hq
          clear hq
          generalize xs.getD i 0 = x at *
          generalize ys.getD i 0 = y at *
          go_wp2
          go_quiet (fail)
          go_wp2
          go_ret
          exact ⟨ret_bool (by simp [HT.out]), hp.out.1.trans (below_drewN _ _ _)⟩
      · obtain rfl : i = xs.length := by omega
        have HD := Aside.mk (show true = decide (xs = ys) by simp [full_eq HL.out hp.out.2])
        go_wp2
        go_ret
        exact ⟨ret_bool HD.out, hp.out.1⟩
theorem equal_ints (xs ys : List Int) (A B : SL) (hl : xs.length ≤ 1000000000) (w : World) (ha : Rd w 1 (.slice A.a xs.length A.c) xs.length (xs.map (.int .i64))) (hb : Rd w 1 (.slice B.a ys.length B.c) ys.length (ys.map (.int .i64))) :
    Calls Tryz.prog 167 #[.slice A.a xs.length A.c, .slice B.a ys.length B.c] w (BoolP (decide (xs = ys)) w) := by
  obtain ⟨aa, ac⟩ := A
  obtain ⟨ba, bc⟩ := B
  have HA := Aside.mk ha
  have HB := Aside.mk hb
  clear ha hb
  by_cases hlen : xs.length = ys.length
  rotate_left
  · have h1 : ((xs.length : Int) != (ys.length : Int)) = true := by simp; omega
    have HD := Aside.mk (show true = true ∧ false = decide (xs = ys) from ⟨rfl, by simp [len_ne hlen]⟩)
    clear hlen
    generalize xs.length = n at *
    generalize ys.length = m at *
    go_enter Tryz.func167, Tryz.ntmps167
    go_wp2
    go_ret
    exact ⟨ret_bool HD.out.2, Below.refl _ _⟩
  · have h1 : ((xs.length : Int) != (ys.length : Int)) = false := by simp; omega
    have HL := Aside.mk hlen
    clear hlen
    go_enter Tryz.func167, Tryz.ntmps167
    go_wp2
    go_loopw [13] (fun iv wr => ∃ i : Nat, i ≤ xs.length ∧ iv = .int .i64 (i : Int) ∧ Aside (Below w.heap.size w wr ∧ xs.take i = ys.take i)) (fun iv _ => xs.length - (intOf iv).toNat)
    case atStart => exact ⟨0, by omega, rfl, ⟨Below.refl _ _, rfl⟩⟩
    case round =>
      obtain ⟨i, hi, rfl, hp⟩ := hrel
      by_cases hlt : i < xs.length
      · have hlt2 : i < ys.length := by have := HL.out; omega
        obtain ⟨g1, o1, k1, hs, hel, hecap, hc⟩ := rd_get HA.out i hlt
        simp only [Value.slice.injEq, true_and] at hs
        obtain ⟨rfl, rfl⟩ := hs
        obtain ⟨g2, o2, k2, hs, hel2, hecap2, hd⟩ := rd_get HB.out i hlt2
        simp only [Value.slice.injEq, true_and] at hs
        obtain ⟨rfl, rfl⟩ := hs
        have hc2 := (hp.out.1.cell (p := ⟨g1, o1 + i, none⟩) (World.block_lt_of_cell? _ _ hc)).trans hc
        have hd2 := (hp.out.1.cell (p := ⟨g2, o2 + i, none⟩) (World.block_lt_of_cell? _ _ hd)).trans hd
        have hlx := hlt
        clear hc hd
        by_cases hq : xs.getD i 0 = ys.getD i 0
        · have HT := Aside.mk (take_ext hlt hlt2 hp.out.2 hq)
          rw [← hq] at hd2
          clear hq
          generalize xs.getD i 0 = x at *
          go_wp2
          go_quiet (fail)
          go_wp2
          refine ⟨⟨i + 1, by omega, by simp, ⟨hp.out.1.trans (below_drewN _ _ _), HT.out⟩⟩, by simp [intOf]; omega⟩
        · have HT := Aside.mk (getD_ne hq)
          have hq2 : (xs.getD i 0 != ys.getD i 0) = true := by simpa using hq
          clear hq
          generalize xs.getD i 0 = x at *
          generalize ys.getD i 0 = y at *
          go_wp2
          go_quiet (fail)
          go_wp2
          go_ret
          exact ⟨ret_bool (by simp [HT.out]), hp.out.1.trans (below_drewN _ _ _)⟩
      · obtain rfl : i = xs.length := by omega
        have HD := Aside.mk (show true = decide (xs = ys) by simp [full_eq HL.out hp.out.2])
        go_wp2
        go_ret
        exact ⟨ret_bool HD.out, hp.out.1⟩
end Go.Proofs.YtmhjjhaipcgbiaaGreat


namespace Go.Proofs.YtmhjjhaipcgbiaaGreat
open Go.RowKit
set_option linter.unusedVariables false
set_option linter.unusedSimpArgs false
set_option maxRecDepth 100000
set_option maxHeartbeats 1000000
theorem take_extW {xs ys : List (List Int)} {i : Nat} (h1 : i < xs.length) (h2 : i < ys.length) (h : xs.take i = ys.take i) (e : xs[i] = ys[i]) : xs.take (i + 1) = ys.take (i + 1) := by
  rw [List.take_succ_eq_append_getElem h1, List.take_succ_eq_append_getElem h2, h, e]
theorem get_neW {xs ys : List (List Int)} {i : Nat} (h1 : i < xs.length) (h2 : i < ys.length) (e : xs[i] ≠ ys[i]) : xs ≠ ys := fun h => e (by subst h; rfl)
theorem len_neW {xs ys : List (List Int)} (h : xs.length ≠ ys.length) : xs ≠ ys := fun e => h (by rw [e])
theorem full_eqW {xs ys : List (List Int)} (hl : xs.length = ys.length) (h : xs.take xs.length = ys.take xs.length) : xs = ys := by
  rw [List.take_length, hl, List.take_length] at h
  exact h
theorem equal_words (xs ys : List (List Int)) (A B : SL) (v1 v2 : List Value) (hl : xs.length ≤ 1000000000) (hw : ∀ t ∈ xs, t.length ≤ 100000000) (w : World) (ha : Rd w 1 (.slice A.a xs.length A.c) xs.length v1) (hb : Rd w 1 (.slice B.a ys.length B.c) ys.length v2) (hA : RdWs w v1 xs) (hB : RdWs w v2 ys) :
    Calls Tryz.prog 168 #[.slice A.a xs.length A.c, .slice B.a ys.length B.c, .func (.func 166) #[] #[]] w (BoolP (decide (xs = ys)) w) := by
  obtain ⟨aa, ac⟩ := A
  obtain ⟨ba, bc⟩ := B
  have HA := Aside.mk ha
  have HB := Aside.mk hb
  have WA := Aside.mk hA
  have WB := Aside.mk hB
  clear ha hb hA hB
  by_cases hlen : xs.length = ys.length
  rotate_left
  · have h1 : ((xs.length : Int) != (ys.length : Int)) = true := by simp; omega
    have HD := Aside.mk (show true = true ∧ false = decide (xs = ys) from ⟨rfl, by simp [len_neW hlen]⟩)
    clear hlen
    generalize xs.length = n at *
    generalize ys.length = m at *
    go_enter Tryz.func168, Tryz.ntmps168
    go_wp2
    go_ret
    exact ⟨ret_bool HD.out.2, Below.refl _ _⟩
  · have h1 : ((xs.length : Int) != (ys.length : Int)) = false := by simp; omega
    have HL := Aside.mk hlen
    have hw := Aside.mk hw
    clear hlen
    go_enter Tryz.func168, Tryz.ntmps168
    go_wp2
    go_loopw [17] (fun iv wr => ∃ i : Nat, i ≤ xs.length ∧ iv = .int .i64 (i : Int) ∧ Aside (Below w.heap.size w wr ∧ xs.take i = ys.take i)) (fun iv _ => xs.length - (intOf iv).toNat)
    case atStart => exact ⟨0, by omega, rfl, ⟨Below.refl _ _, rfl⟩⟩
    case round =>
      obtain ⟨i, hi, rfl, hp⟩ := hrel
      by_cases hlt : i < xs.length
      · have hlt2 : i < ys.length := by have := HL.out; omega
        obtain ⟨ta, tc, hv, ht⟩ := WA.out.2 i _ (List.getElem?_eq_getElem hlt)
        obtain ⟨ua, uc, hu, hr⟩ := WB.out.2 i _ (List.getElem?_eq_getElem hlt2)
        have hvl := WA.out.1
        have hul := WB.out.1
        obtain ⟨g1, o1, k1, hs, hel, hecap, hc⟩ := HA.out.some_ (by omega)
        simp only [Value.slice.injEq, true_and] at hs
        obtain ⟨rfl, rfl⟩ := hs
        obtain ⟨g2, o2, k2, hs, hel2, hecap2, hd⟩ := HB.out.some_ (by omega)
        simp only [Value.slice.injEq, true_and] at hs
        obtain ⟨rfl, rfl⟩ := hs
        have hc2 := (hp.out.1.cell (p := ⟨g1, o1 + i, none⟩) (World.block_lt_of_cell? _ _ (hc i _ hv))).trans (hc i _ hv)
        have hd2 := (hp.out.1.cell (p := ⟨g2, o2 + i, none⟩) (World.block_lt_of_cell? _ _ (hd i _ hu))).trans (hd i _ hu)
        have HC := Aside.mk (equal_bytes xs[i] ys[i] ⟨ta, tc⟩ ⟨ua, uc⟩ (Nat.le_trans (hw.out _ (List.getElem_mem hlt)) (by decide)) wr (ht.below hp.out.1) (hr.below hp.out.1))
        have HT := Aside.mk (fun e => take_extW hlt hlt2 hp.out.2 e)
        have HU := Aside.mk (fun e => get_neW hlt hlt2 e)
        clear hc hd hv ht hu hr hvl hul
        generalize xs[i] = x at *
        generalize ys[i] = y at *
        by_cases hq : x = y
        · have HQ := Aside.mk (show decide (x = y) = true from decide_eq_true hq)
          have HT2 := Aside.mk (HT.out hq)
          clear hq
          go_wp2_with (go_at_call 166; refine HC.out.mono ?_; rintro e w2 ⟨rfl, hb2⟩; rw [HQ.out]; have B2 := Aside.mk hb2; clear hb2)
          exact ⟨⟨i + 1, by omega, by simp, ⟨hp.out.1.trans (B2.out.mono hp.out.1.size), HT2.out⟩⟩, by simp [intOf]; omega⟩
        · have HQ := Aside.mk (show decide (x = y) = false from decide_eq_false hq)
          have HT2 := Aside.mk (HU.out hq)
          clear hq
          go_wp2_with (go_at_call 166; refine HC.out.mono ?_; rintro e w2 ⟨rfl, hb2⟩; rw [HQ.out]; have B2 := Aside.mk hb2; clear hb2)
          go_ret
          exact ⟨ret_bool (by simp [HT2.out]), hp.out.1.trans (B2.out.mono hp.out.1.size)⟩
      · obtain rfl : i = xs.length := by omega
        have HD := Aside.mk (show true = decide (xs = ys) by simp [full_eqW HL.out hp.out.2])
        go_wp2
        go_ret
        exact ⟨ret_bool HD.out, hp.out.1⟩
def maskErr (m : Int) (bs : List Int) : Int := if maskOK m bs then 0 else 160
theorem maskOK_no {m : Int} {bs : List Int} (h : ¬ (0 ≤ m ∧ m ≤ 8 * (bs.length : Int) ∧ 8 * ((bs.length : Int) - 1) < m ∧ (0 < m % 8 → (bs.getD (bs.length - 1) 0).toNat / 2 ^ (m % 8).toNat = 0))) : (160 : Int) = maskErr m bs := by
  rw [maskErr, if_neg]
  unfold maskOK
  rw [decide_eq_true_eq]
  exact h
theorem maskOK_yes {m : Int} {bs : List Int} (h : 0 ≤ m ∧ m ≤ 8 * (bs.length : Int) ∧ 8 * ((bs.length : Int) - 1) < m ∧ (0 < m % 8 → (bs.getD (bs.length - 1) 0).toNat / 2 ^ (m % 8).toNat = 0)) : (0 : Int) = maskErr m bs := by
  rw [maskErr, if_pos]
  unfold maskOK
  rw [decide_eq_true_eq]
  exact h
theorem maskCheck_any (m : Int) (bs : List Int) (B : SL) (hl : bs.length ≤ 100000000) (hb : IsBytes bs) (w : World) (h : Rd w 1 (.slice B.a bs.length B.c) bs.length (bs.map (.int .u8))) :
    Calls Tryz.prog 149 #[.agg #[.int .i64 m, .slice B.a bs.length B.c]] w (IntP (maskErr m bs) w) := by
  obtain ⟨ba, bc⟩ := B
  have HB0 := Aside.mk (below_new w (.cells #[.int .i64 m, .slice ba bs.length bc] 60))
  have HR := Aside.mk h
  clear h
  dsimp only
  by_cases h1 : m < 0
  · have HD := Aside.mk (maskOK_no (m := m) (bs := bs) (by omega))
    go_enter Tryz.func149, Tryz.ntmps149
    go_wp2
    go_ret
    exact ⟨ret_int HD.out, HB0.out⟩
  by_cases h2 : 8 * (bs.length : Int) < m
  · have HD := Aside.mk (maskOK_no (m := m) (bs := bs) (by omega))
    go_enter Tryz.func149, Tryz.ntmps149
    go_wp2
    go_ret
    exact ⟨ret_int HD.out, HB0.out⟩
  by_cases h3 : m ≤ 8 * ((bs.length : Int) - 1)
  · have HD := Aside.mk (maskOK_no (m := m) (bs := bs) (by omega))
    go_enter Tryz.func149, Tryz.ntmps149
    go_wp2
    go_ret
    exact ⟨ret_int HD.out, HB0.out⟩
  by_cases h4 : 0 < m % 8
  · obtain ⟨g, off, cap, hs, hel, hecap, hc⟩ := rd_get HR.out (bs.length - 1) (by omega)
    simp only [Value.slice.injEq, true_and] at hs
    obtain ⟨rfl, rfl⟩ := hs
    have hc2 := (HB0.out.cell (p := ⟨g, off + (bs.length - 1), none⟩) (World.block_lt_of_cell? _ _ hc)).trans hc
    have hv := getD_byte hb (bs.length - 1)
    have HY := Aside.mk (fun (h : (bs.getD (bs.length - 1) 0).toNat / 2 ^ (m % 8).toNat = 0) => maskOK_yes (m := m) (bs := bs) ⟨by omega, by omega, by omega, fun _ => h⟩)
    have HZ := Aside.mk (fun (h : ¬ (bs.getD (bs.length - 1) 0).toNat / 2 ^ (m % 8).toNat = 0) => maskOK_no (m := m) (bs := bs) (fun h2 => h (h2.2.2.2 h4)))
    obtain ⟨M, rfl⟩ := Int.eq_ofNat_of_zero_le (show 0 ≤ m by omega)
    clear HR
    clear hc
    generalize bs.getD (bs.length - 1) 0 = y at *
    generalize bs.length = n at *
    cases n with
    | zero => omega
    | succ n =>
      simp only [Nat.add_sub_cancel] at hc2
      obtain ⟨Y, rfl⟩ := Int.eq_ofNat_of_zero_le hv.1
      have e1 : ((M : Int) % 8).toNat = M % 8 := by omega
      have e2 : (Y : Int) / 2 ^ (M % 8) = ((Y / 2 ^ (M % 8) : Nat) : Int) := by simp
      rw [e1, Int.toNat_natCast] at HY HZ
      by_cases hz : Y / 2 ^ (M % 8) = 0
      · have HQ := Aside.mk (HY.out hz)
        have hq : ((Y : Int) / 2 ^ (M % 8) != 0) = false := by rw [e2, hz]; rfl
        clear e1 e2 hz HY HZ
        go_enter Tryz.func149, Tryz.ntmps149
        go_wp2
        go_quiet (fail)
        go_wp2
        go_ret
        exact ⟨ret_int HQ.out, HB0.out.trans (below_drewN _ _ _)⟩
      · have HQ := Aside.mk (HZ.out hz)
        have hq : ((Y : Int) / 2 ^ (M % 8) != 0) = true := by rw [e2]; simp only [bne_iff_ne, ne_eq]; omega
        clear e1 e2 hz HY HZ
        go_enter Tryz.func149, Tryz.ntmps149
        go_wp2
        go_quiet (fail)
        go_wp2
        go_ret
        exact ⟨ret_int HQ.out, HB0.out.trans (below_drewN _ _ _)⟩
  · have HD := Aside.mk (maskOK_yes (m := m) (bs := bs) ⟨by omega, by omega, by omega, fun h => absurd h h4⟩)
    have h5 : decide (0 < m % 8) = false := decide_eq_false h4
    have h6 : 0 ≤ m := by omega
    go_enter Tryz.func149, Tryz.ntmps149
    go_wp2
    go_quiet (fail)
    go_wp2
    go_ret
    exact ⟨ret_int HD.out, HB0.out.trans (below_drewN _ _ _)⟩
end Go.Proofs.YtmhjjhaipcgbiaaGreat


namespace Go.Proofs.YtmhjjhaipcgbiaaGreat
open Go.RowKit
set_option maxRecDepth 100000
set_option maxHeartbeats 1000000
theorem of_running (s : Int) (w : World) : Calls Tryz.prog 86 #[.agg #[.int .i64 15, .int .i64 s]] w fun e w' => e = .returned (.iface 162 (.agg #[])) ∧ w' = w.alloc (.cells #[.int .i64 15, .int .i64 s] 23) := by
  go_enter Tryz.func86, Tryz.ntmps86
  go_wp2
  go_ret
  exact ⟨rfl, rfl⟩
end Go.Proofs.YtmhjjhaipcgbiaaGreat


namespace Go.Proofs.YtmhjjhaipcgbiaaGreat
open Go.RowKit
section
variable {P : Program} {ops : Array Oper} {C : World → Prop} {Q : Act → Prop} {a : Act} {o : Oper} {rest : List Oper}
theorem calm_skip (hw : Region.wanted o (yielded ops a.tmps) = false) (h : wpQuiet P ops C Q rest (a.put o.dst undef)) : wpQuiet P ops C Q (o :: rest) a := by
  unfold wpQuiet
  rw [hw]
  exact h
theorem calm_take (hw : Region.wanted o (yielded ops a.tmps) = true) (v : Value) (hy : ∀ w', C w' → (execOp a.eval o).run P w' = .ok (.value v) w') (h : wpQuiet P ops C Q rest (a.put o.dst v)) : wpQuiet P ops C Q (o :: rest) a := by
  unfold wpQuiet
  rw [hw]
  refine ⟨v, fun w' hC => ?_, h⟩
  unfold Oper.quietAt
  rw [hy w' hC]
  exact ⟨rfl, rfl⟩
theorem calm_call (hw : Region.wanted o (yielded ops a.tmps) = true) (v : Value) (nx : Next) (hr : ∀ w', (execOp a.eval o).run P w' = .ok nx w') (f : FuncId) (args : Array Value) (hn : nx = .enter f args) (hc : ∀ w', C w' → Calls P f args w' (fun e w'' => e = .returned v ∧ C w'')) (h : wpQuiet P ops C Q rest (a.put o.dst v)) : wpQuiet P ops C Q (o :: rest) a := by
  unfold wpQuiet
  rw [hw]
  refine ⟨v, fun w' hC => ?_, h⟩
  unfold Oper.quietAt
  rw [hr w', hn]
  exact ⟨rfl, hc w' hC⟩
end
theorem wp_region_calm {P : Program} {id : Nat} {Q : Exit → Act → World → Prop} {a : Act} {w : World} {l : List Oper} (hm : P.follows .mixedOrders = true) (hB : Region.lexB .any l.toArray = true)
    (h : wpQuiet P l.toArray (fun w' => Below w.heap.size w w') (fun a' => ∀ w', Below w.heap.size w w' → Q .normal a' w') l a) : (Code.region id l.toArray true).wp P Q a w :=
  wp_region_quiet (C := fun w' => Below w.heap.size w w') hm hB (below_drewN w _ 1) (by simpa using h)
end Go.Proofs.YtmhjjhaipcgbiaaGreat


namespace Go.Proofs.YtmhjjhaipcgbiaaGreat
open Go.RowKit
set_option linter.unusedVariables false
set_option linter.unusedSimpArgs false
set_option maxRecDepth 100000
set_option maxHeartbeats 6000000
theorem of_coded (s : Int) (w : World) : Calls Tryz.prog 86 #[.agg #[.int .i64 16, .int .i64 s]] w fun e w' => e = .returned (.iface 167 (.agg #[.int .i64 4])) ∧ w' = w.alloc (.cells #[.int .i64 16, .int .i64 s] 23) := by
  go_enter Tryz.func86, Tryz.ntmps86
  go_wp2_with (go_at_call 153; refine (width_any _ _).mono ?_; rintro e w1 ⟨rfl, rfl⟩)
  go_ret
  exact ⟨rfl, rfl⟩
def IfP (v : Value) (w : World) (e : Ending) (w' : World) : Prop := e = .returned v ∧ Below w.heap.size w w'
theorem of_c (s : Int) (w : World) : Calls Tryz.prog 86 #[.agg #[.int .i64 16, .int .i64 s]] w (IfP (.iface 167 (.agg #[.int .i64 4])) w) :=
  (of_coded s w).mono (by rintro e w' ⟨rfl, rfl⟩; exact ⟨rfl, below_new _ _⟩)
theorem of_r (s : Int) (w : World) : Calls Tryz.prog 86 #[.agg #[.int .i64 15, .int .i64 s]] w (IfP (.iface 162 (.agg #[])) w) :=
  (of_running s w).mono (by rintro e w' ⟨rfl, rfl⟩; exact ⟨rfl, below_new _ _⟩)
theorem of_f (k s : Int) (h1 : k ≠ 15) (h2 : k ≠ 16) {W : Nat} (hW : widthOf k = (W : Int)) (w : World) : Calls Tryz.prog 86 #[.agg #[.int .i64 k, .int .i64 s]] w (IfP (.iface 165 (.agg #[.int .i64 (W : Int)])) w) :=
  (of_fixed k s (by simpa using h1) (by simpa using h2) w).mono (by rintro e w' ⟨rfl, rfl⟩; exact ⟨by rw [hW], below_new _ _⟩)
def Cells8 (b : Nat) (x0 x1 x2 x3 x4 x5 x6 x7 : Value) (w : World) : Prop :=
  w.cell? ⟨b, 0, none⟩ = some x0 ∧ w.cell? ⟨b, 1, none⟩ = some x1 ∧ w.cell? ⟨b, 2, none⟩ = some x2 ∧ w.cell? ⟨b, 3, none⟩ = some x3 ∧ w.cell? ⟨b, 4, none⟩ = some x4 ∧ w.cell? ⟨b, 5, none⟩ = some x5 ∧ w.cell? ⟨b, 6, none⟩ = some x6 ∧ w.cell? ⟨b, 7, none⟩ = some x7
theorem cells8_next {b : Nat} {x0 x1 x2 x3 x4 x5 x6 x7 : Value} {w1 w2 : World} (h : Cells8 b x0 x1 x2 x3 x4 x5 x6 x7 w1) (hb : Below w1.heap.size w1 w2) : Cells8 b x0 x1 x2 x3 x4 x5 x6 x7 w2 := by
  obtain ⟨h0, h1, h2, h3, h4, h5, h6, h7⟩ := h
  have hl := World.block_lt_of_cell? _ _ h0
  exact ⟨(hb.cell (p := ⟨b, 0, none⟩) hl).trans h0, (hb.cell (p := ⟨b, 1, none⟩) hl).trans h1, (hb.cell (p := ⟨b, 2, none⟩) hl).trans h2, (hb.cell (p := ⟨b, 3, none⟩) hl).trans h3, (hb.cell (p := ⟨b, 4, none⟩) hl).trans h4, (hb.cell (p := ⟨b, 5, none⟩) hl).trans h5, (hb.cell (p := ⟨b, 6, none⟩) hl).trans h6, (hb.cell (p := ⟨b, 7, none⟩) hl).trans h7⟩
theorem check_f2 (k s : Int) (w : World) : Calls Tryz.prog 70 #[.agg #[.int .i64 k, .int .i64 s]] w (IntP (if okType k s then 0 else 170) w) := checkType_any k s w
theorem checkC_type {c : Col} (h : okType c.k c.s = false) : (170 : Int) = checkC c := by unfold checkC; rw [if_pos h]
theorem checkC_mask {c : Col} (h : okType c.k c.s = true) (h2 : maskOK c.m c.bits = false) : (171 : Int) = checkC c := by unfold checkC; rw [if_neg (by simp [h])]; simp [h2]
theorem checkC_len {c : Col} (h : okType c.k c.s = true) (h2 : c.m ≠ c.n) : (171 : Int) = checkC c := by unfold checkC; rw [if_neg (by simp [h])]; simp [h2]
theorem checkC_may {c : Col} (h : okType c.k c.s = true) (h2 : maskOK c.m c.bits = true) (h3 : c.m = c.n) : (if mayB c then 0 else 171) = checkC c := by unfold checkC; cases hm : mayB c <;> simp [h, h2, ← h3, hm]
theorem mask_room {m : Int} {bs : List Int} (h : maskOK m bs = true) : m ≤ 8 * (bs.length : Int) := by
  unfold maskOK at h
  rw [decide_eq_true_eq] at h
  exact h.2.1
theorem check_no (c : Col) (h : okType c.k c.s = false) (B D E X : SL) (w : World) : Calls Tryz.prog 82 #[colV c B D E X] w (IntP (checkC c) w) := by
  have HD := Aside.mk (checkC_type h)
  have hct := Aside.mk (fun w2 => by have := check_f2 c.k c.s w2; rw [h] at this; exact this)
  have hbw := below_new w (.cells #[.int .i64 c.k, .int .i64 c.s, .int .i64 c.n, .int .i64 c.m, .slice B.a c.bits.length B.c, .slice D.a c.data.length D.c, .slice E.a c.ends.length E.c, .slice X.a c.words.length X.c] 63)
  have HBW := Aside.mk hbw
  clear hbw h
  dsimp only [colV]
  go_enter Tryz.func82, Tryz.ntmps82
  go_wp2_with (go_at_call 70; refine (hct.out _).mono ?_; rintro e w2 ⟨rfl, hb2⟩; have H2 := Aside.mk hb2; clear hb2)
  go_ret
  exact ⟨ret_int HD.out, HBW.out.trans (H2.out.mono (by simp))⟩
theorem check_r (c : Col) (hk : c.k = 15) (ho : okType c.k c.s = true) (hc : COK c) (B D E X : SL) (vals : List Value) (w : World) (h : RdC w c B D E X vals) : Calls Tryz.prog 82 #[colV c B D E X] w (IntP (checkC c) w) := by
  have HR := Aside.mk h
  have HC := Aside.mk hc
  have hmay := Aside.mk (fun (hn : c.n ≤ 8 * (c.bits.length : Int)) (w2 : World) (hb : Below w.heap.size w w2) => mayR_any c HC.out hn B D E X vals w2 (HR.out.below hb))
  have hmask := Aside.mk (fun (w2 : World) (hb : Below w.heap.size w w2) => maskCheck_any c.m c.bits B HC.out.lb HC.out.bits w2 (HR.out.bits.below hb))
  have hct := Aside.mk (fun w2 => by have := check_f2 c.k c.s w2; rw [ho] at this; exact this)
  have HMB := Aside.mk (show mayB c = mayRunning c by unfold mayB; rw [hk]; rfl)
  have HO := Aside.mk ho
  have HK := Aside.mk hk
  have HCV := Aside.mk (show colV c B D E X = .agg #[.int .i64 15, .int .i64 c.s, .int .i64 c.n, .int .i64 c.m, .slice B.a c.bits.length B.c, .slice D.a c.data.length D.c, .slice E.a c.ends.length E.c, .slice X.a c.words.length X.c] by rw [colV, hk])
  rw [hk] at hct
  rw [HCV.out] at hmay ⊢
  clear h hc ho hk
  go_enter Tryz.func82, Tryz.ntmps82
  go_wp2_with fail
  have HBW := Aside.mk (below_new w (.cells #[.int .i64 15, .int .i64 c.s, .int .i64 c.n, .int .i64 c.m, .slice B.a c.bits.length B.c, .slice D.a c.data.length D.c, .slice E.a c.ends.length E.c, .slice X.a c.words.length X.c] 63))
  have HS := Aside.mk (show Cells8 w.heap.size (.int .i64 15) (.int .i64 c.s) (.int .i64 c.n) (.int .i64 c.m) (.slice B.a c.bits.length B.c) (.slice D.a c.data.length D.c) (.slice E.a c.ends.length E.c) (.slice X.a c.words.length X.c) (w.alloc (.cells #[.int .i64 15, .int .i64 c.s, .int .i64 c.n, .int .i64 c.m, .slice B.a c.bits.length B.c, .slice D.a c.data.length D.c, .slice E.a c.ends.length E.c, .slice X.a c.words.length X.c] 63)) from box8 (heap_alloc_new w _))
  generalize hw1 : w.alloc (.cells #[.int .i64 15, .int .i64 c.s, .int .i64 c.n, .int .i64 c.m, .slice B.a c.bits.length B.c, .slice D.a c.data.length D.c, .slice E.a c.ends.length E.c, .slice X.a c.words.length X.c] 63) = w1 at *
  clear hw1
  refine (hct.out _).mono ?_
  rintro e w2 ⟨rfl, hb2⟩
  replace HBW := Aside.mk (HBW.out.trans (hb2.mono HBW.out.size))
  replace HS := Aside.mk (cells8_next HS.out hb2)
  clear hb2
  go_wp2
  obtain ⟨p0, p1, p2, p3, p4, p5, p6, p7⟩ := HS.out
  by_cases hm : maskOK c.m c.bits = true
  rotate_left
  · have hme : maskErr c.m c.bits = 160 := by rw [maskErr, if_neg hm]
    have HD := Aside.mk (checkC_mask HO.out (by simpa using hm))
    clear hm
    refine wp_region_calm (by kernel_rfl) (by kernel_rfl) ?_
    refine calm_take (by rfl) ?v1000 (fun w' hw' => ?hy1000) ?rest1000
    case hy1000 => go_simp <;> first | rfl | skip
    simp only [Act.put, List.setIfInBounds_toArray, List.set_cons_zero, List.set_cons_succ]
    refine calm_take (by rfl) ?v1001 (fun w' hw' => ?hy1001) ?rest1001
    case hy1001 => obtain ⟨r0, r1, r2, r3, r4, r5, r6, r7⟩ := cells8_next HS.out hw'; go_simp <;> first | rfl | skip
    simp only [Act.put, List.setIfInBounds_toArray, List.set_cons_zero, List.set_cons_succ]
    refine' calm_call (by rfl) (.int .i64 160) ?nx1002 (fun w' => ?hr1002) _ _ ?hn1002 (fun w' hw' => ?hc1002) ?rest1002
    case hr1002 => go_simp <;> rfl
    case hn1002 => rfl
    case hc1002 => exact (hmask.out w' (HBW.out.trans (hw'.mono HBW.out.size))).mono (by rintro e w3 ⟨rfl, hb3⟩; rw [hme]; exact ⟨rfl, below_chain hw' hb3⟩)
    simp only [Act.put, List.setIfInBounds_toArray, List.set_cons_zero, List.set_cons_succ]
    refine calm_take (by rfl) ?v1003 (fun w' hw' => ?hy1003) ?rest1003
    case hy1003 => go_simp <;> first | rfl | skip
    simp only [Act.put, List.setIfInBounds_toArray, List.set_cons_zero, List.set_cons_succ]
    refine calm_take (by rfl) ?v1004 (fun w' hw' => ?hy1004) ?rest1004
    case hy1004 => go_simp <;> first | rfl | skip
    simp only [Act.put, List.setIfInBounds_toArray, List.set_cons_zero, List.set_cons_succ]
    refine calm_skip (by rfl) ?_
    simp only [Act.put, List.setIfInBounds_toArray, List.set_cons_zero, List.set_cons_succ]
    refine calm_skip (by rfl) ?_
    simp only [Act.put, List.setIfInBounds_toArray, List.set_cons_zero, List.set_cons_succ]
    refine calm_skip (by rfl) ?_
    simp only [Act.put, List.setIfInBounds_toArray, List.set_cons_zero, List.set_cons_succ]
    refine calm_skip (by rfl) ?_
    simp only [Act.put, List.setIfInBounds_toArray, List.set_cons_zero, List.set_cons_succ]
    refine calm_skip (by rfl) ?_
    simp only [Act.put, List.setIfInBounds_toArray, List.set_cons_zero, List.set_cons_succ]
    refine calm_skip (by rfl) ?_
    simp only [Act.put, List.setIfInBounds_toArray, List.set_cons_zero, List.set_cons_succ]
    refine calm_take (by rfl) ?v1011 (fun w' hw' => ?hy1011) ?rest1011
    case hy1011 => go_simp <;> first | rfl | skip
    simp only [Act.put, List.setIfInBounds_toArray, List.set_cons_zero, List.set_cons_succ]
    refine calm_take (by rfl) ?v1012 (fun w' hw' => ?hy1012) ?rest1012
    case hy1012 => go_simp <;> first | rfl | skip
    simp only [Act.put, List.setIfInBounds_toArray, List.set_cons_zero, List.set_cons_succ]
    refine calm_skip (by rfl) ?_
    simp only [Act.put, List.setIfInBounds_toArray, List.set_cons_zero, List.set_cons_succ]
    refine calm_skip (by rfl) ?_
    simp only [Act.put, List.setIfInBounds_toArray, List.set_cons_zero, List.set_cons_succ]
    refine calm_skip (by rfl) ?_
    simp only [Act.put, List.setIfInBounds_toArray, List.set_cons_zero, List.set_cons_succ]
    refine calm_skip (by rfl) ?_
    simp only [Act.put, List.setIfInBounds_toArray, List.set_cons_zero, List.set_cons_succ]
    refine calm_skip (by rfl) ?_
    simp only [Act.put, List.setIfInBounds_toArray, List.set_cons_zero, List.set_cons_succ]
    refine calm_skip (by rfl) ?_
    simp only [Act.put, List.setIfInBounds_toArray, List.set_cons_zero, List.set_cons_succ]
    refine calm_take (by rfl) ?v1019 (fun w' hw' => ?hy1019) ?rest1019
    case hy1019 => go_simp <;> first | rfl | skip
    simp only [Act.put, List.setIfInBounds_toArray, List.set_cons_zero, List.set_cons_succ]
    refine calm_take (by rfl) ?v1020 (fun w' hw' => ?hy1020) ?rest1020
    case hy1020 => go_simp <;> first | rfl | skip
    simp only [Act.put, List.setIfInBounds_toArray, List.set_cons_zero, List.set_cons_succ]
    refine wpQuiet_nil (fun w' hw' => ?_)
    go_wp2
    go_ret
    exact ⟨ret_int HD.out, HBW.out.trans (hw'.mono HBW.out.size)⟩
  · have hme : maskErr c.m c.bits = 0 := by rw [maskErr, if_pos hm]
    by_cases hmn : c.m = c.n
    rotate_left
    · have hmn2 : (c.m != c.n) = true := by simpa using hmn
      have HD := Aside.mk (checkC_len HO.out hmn)
      clear hm hmn
      refine wp_region_calm (by kernel_rfl) (by kernel_rfl) ?_
      refine calm_take (by rfl) ?v2000 (fun w' hw' => ?hy2000) ?rest2000
      case hy2000 => go_simp <;> first | rfl | skip
      simp only [Act.put, List.setIfInBounds_toArray, List.set_cons_zero, List.set_cons_succ]
      refine calm_take (by rfl) ?v2001 (fun w' hw' => ?hy2001) ?rest2001
      case hy2001 => obtain ⟨r0, r1, r2, r3, r4, r5, r6, r7⟩ := cells8_next HS.out hw'; go_simp <;> first | rfl | skip
      simp only [Act.put, List.setIfInBounds_toArray, List.set_cons_zero, List.set_cons_succ]
      refine' calm_call (by rfl) (.int .i64 0) ?nx2002 (fun w' => ?hr2002) _ _ ?hn2002 (fun w' hw' => ?hc2002) ?rest2002
      case hr2002 => go_simp <;> rfl
      case hn2002 => rfl
      case hc2002 => exact (hmask.out w' (HBW.out.trans (hw'.mono HBW.out.size))).mono (by rintro e w3 ⟨rfl, hb3⟩; rw [hme]; exact ⟨rfl, below_chain hw' hb3⟩)
      simp only [Act.put, List.setIfInBounds_toArray, List.set_cons_zero, List.set_cons_succ]
      refine calm_take (by rfl) ?v2003 (fun w' hw' => ?hy2003) ?rest2003
      case hy2003 => go_simp <;> first | rfl | skip
      simp only [Act.put, List.setIfInBounds_toArray, List.set_cons_zero, List.set_cons_succ]
      refine calm_take (by rfl) ?v2004 (fun w' hw' => ?hy2004) ?rest2004
      case hy2004 => go_simp <;> first | rfl | skip
      simp only [Act.put, List.setIfInBounds_toArray, List.set_cons_zero, List.set_cons_succ]
      refine calm_take (by rfl) ?v2005 (fun w' hw' => ?hy2005) ?rest2005
      case hy2005 => go_simp <;> first | rfl | skip
      simp only [Act.put, List.setIfInBounds_toArray, List.set_cons_zero, List.set_cons_succ]
      refine calm_take (by rfl) ?v2006 (fun w' hw' => ?hy2006) ?rest2006
      case hy2006 => go_simp <;> first | rfl | skip
      simp only [Act.put, List.setIfInBounds_toArray, List.set_cons_zero, List.set_cons_succ]
      refine calm_take (by rfl) ?v2007 (fun w' hw' => ?hy2007) ?rest2007
      case hy2007 => obtain ⟨r0, r1, r2, r3, r4, r5, r6, r7⟩ := cells8_next HS.out hw'; go_simp <;> first | rfl | skip
      simp only [Act.put, List.setIfInBounds_toArray, List.set_cons_zero, List.set_cons_succ]
      refine calm_take (by rfl) ?v2008 (fun w' hw' => ?hy2008) ?rest2008
      case hy2008 => go_simp <;> first | rfl | skip
      simp only [Act.put, List.setIfInBounds_toArray, List.set_cons_zero, List.set_cons_succ]
      refine calm_take (by rfl) ?v2009 (fun w' hw' => ?hy2009) ?rest2009
      case hy2009 => obtain ⟨r0, r1, r2, r3, r4, r5, r6, r7⟩ := cells8_next HS.out hw'; go_simp <;> first | rfl | skip
      simp only [Act.put, List.setIfInBounds_toArray, List.set_cons_zero, List.set_cons_succ]
      refine calm_take (by rfl) ?v2010 (fun w' hw' => ?hy2010) ?rest2010
      case hy2010 => go_simp <;> first | rfl | skip
      simp only [Act.put, List.setIfInBounds_toArray, List.set_cons_zero, List.set_cons_succ]
      refine calm_take (by rfl) ?v2011 (fun w' hw' => ?hy2011) ?rest2011
      case hy2011 => go_simp <;> first | rfl | skip
      simp only [Act.put, List.setIfInBounds_toArray, List.set_cons_zero, List.set_cons_succ]
      refine calm_take (by rfl) ?v2012 (fun w' hw' => ?hy2012) ?rest2012
      case hy2012 => go_simp <;> first | rfl | skip
      simp only [Act.put, List.setIfInBounds_toArray, List.set_cons_zero, List.set_cons_succ]
      refine calm_skip (by rfl) ?_
      simp only [Act.put, List.setIfInBounds_toArray, List.set_cons_zero, List.set_cons_succ]
      refine calm_skip (by rfl) ?_
      simp only [Act.put, List.setIfInBounds_toArray, List.set_cons_zero, List.set_cons_succ]
      refine calm_skip (by rfl) ?_
      simp only [Act.put, List.setIfInBounds_toArray, List.set_cons_zero, List.set_cons_succ]
      refine calm_skip (by rfl) ?_
      simp only [Act.put, List.setIfInBounds_toArray, List.set_cons_zero, List.set_cons_succ]
      refine calm_skip (by rfl) ?_
      simp only [Act.put, List.setIfInBounds_toArray, List.set_cons_zero, List.set_cons_succ]
      refine calm_skip (by rfl) ?_
      simp only [Act.put, List.setIfInBounds_toArray, List.set_cons_zero, List.set_cons_succ]
      refine calm_take (by rfl) ?v2019 (fun w' hw' => ?hy2019) ?rest2019
      case hy2019 => go_simp <;> first | rfl | skip
      simp only [Act.put, List.setIfInBounds_toArray, List.set_cons_zero, List.set_cons_succ]
      refine calm_take (by rfl) ?v2020 (fun w' hw' => ?hy2020) ?rest2020
      case hy2020 => go_simp <;> first | rfl | skip
      simp only [Act.put, List.setIfInBounds_toArray, List.set_cons_zero, List.set_cons_succ]
      refine wpQuiet_nil (fun w' hw' => ?_)
      go_wp2
      go_ret
      exact ⟨ret_int HD.out, HBW.out.trans (hw'.mono HBW.out.size)⟩
    · have hmn2 : (c.m != c.n) = false := by simpa using hmn
      have HD := Aside.mk (checkC_may HO.out hm hmn)
      have hmay2 := Aside.mk (hmay.out (by rw [← hmn]; exact mask_room hm))
      rw [HMB.out] at HD
      clear hm hmn hmay
      generalize mayRunning c = mb at *
      cases mb with
      | true =>
        refine wp_region_calm (by kernel_rfl) (by kernel_rfl) ?_
        refine calm_take (by rfl) ?v3000 (fun w' hw' => ?hy3000) ?rest3000
        case hy3000 => go_simp <;> first | rfl | skip
        simp only [Act.put, List.setIfInBounds_toArray, List.set_cons_zero, List.set_cons_succ]
        refine calm_take (by rfl) ?v3001 (fun w' hw' => ?hy3001) ?rest3001
        case hy3001 => obtain ⟨r0, r1, r2, r3, r4, r5, r6, r7⟩ := cells8_next HS.out hw'; go_simp <;> first | rfl | skip
        simp only [Act.put, List.setIfInBounds_toArray, List.set_cons_zero, List.set_cons_succ]
        refine' calm_call (by rfl) (.int .i64 0) ?nx3002 (fun w' => ?hr3002) _ _ ?hn3002 (fun w' hw' => ?hc3002) ?rest3002
        case hr3002 => go_simp <;> rfl
        case hn3002 => rfl
        case hc3002 => exact (hmask.out w' (HBW.out.trans (hw'.mono HBW.out.size))).mono (by rintro e w3 ⟨rfl, hb3⟩; rw [hme]; exact ⟨rfl, below_chain hw' hb3⟩)
        simp only [Act.put, List.setIfInBounds_toArray, List.set_cons_zero, List.set_cons_succ]
        refine calm_take (by rfl) ?v3003 (fun w' hw' => ?hy3003) ?rest3003
        case hy3003 => go_simp <;> first | rfl | skip
        simp only [Act.put, List.setIfInBounds_toArray, List.set_cons_zero, List.set_cons_succ]
        refine calm_take (by rfl) ?v3004 (fun w' hw' => ?hy3004) ?rest3004
        case hy3004 => go_simp <;> first | rfl | skip
        simp only [Act.put, List.setIfInBounds_toArray, List.set_cons_zero, List.set_cons_succ]
        refine calm_take (by rfl) ?v3005 (fun w' hw' => ?hy3005) ?rest3005
        case hy3005 => go_simp <;> first | rfl | skip
        simp only [Act.put, List.setIfInBounds_toArray, List.set_cons_zero, List.set_cons_succ]
        refine calm_take (by rfl) ?v3006 (fun w' hw' => ?hy3006) ?rest3006
        case hy3006 => go_simp <;> first | rfl | skip
        simp only [Act.put, List.setIfInBounds_toArray, List.set_cons_zero, List.set_cons_succ]
        refine calm_take (by rfl) ?v3007 (fun w' hw' => ?hy3007) ?rest3007
        case hy3007 => obtain ⟨r0, r1, r2, r3, r4, r5, r6, r7⟩ := cells8_next HS.out hw'; go_simp <;> first | rfl | skip
        simp only [Act.put, List.setIfInBounds_toArray, List.set_cons_zero, List.set_cons_succ]
        refine calm_take (by rfl) ?v3008 (fun w' hw' => ?hy3008) ?rest3008
        case hy3008 => go_simp <;> first | rfl | skip
        simp only [Act.put, List.setIfInBounds_toArray, List.set_cons_zero, List.set_cons_succ]
        refine calm_take (by rfl) ?v3009 (fun w' hw' => ?hy3009) ?rest3009
        case hy3009 => obtain ⟨r0, r1, r2, r3, r4, r5, r6, r7⟩ := cells8_next HS.out hw'; go_simp <;> first | rfl | skip
        simp only [Act.put, List.setIfInBounds_toArray, List.set_cons_zero, List.set_cons_succ]
        refine calm_take (by rfl) ?v3010 (fun w' hw' => ?hy3010) ?rest3010
        case hy3010 => go_simp <;> first | rfl | skip
        simp only [Act.put, List.setIfInBounds_toArray, List.set_cons_zero, List.set_cons_succ]
        refine calm_take (by rfl) ?v3011 (fun w' hw' => ?hy3011) ?rest3011
        case hy3011 => go_simp <;> first | rfl | skip
        simp only [Act.put, List.setIfInBounds_toArray, List.set_cons_zero, List.set_cons_succ]
        refine calm_take (by rfl) ?v3012 (fun w' hw' => ?hy3012) ?rest3012
        case hy3012 => go_simp <;> first | rfl | skip
        simp only [Act.put, List.setIfInBounds_toArray, List.set_cons_zero, List.set_cons_succ]
        refine calm_take (by rfl) ?v3013 (fun w' hw' => ?hy3013) ?rest3013
        case hy3013 => go_simp <;> first | rfl | skip
        simp only [Act.put, List.setIfInBounds_toArray, List.set_cons_zero, List.set_cons_succ]
        refine calm_take (by rfl) ?v3014 (fun w' hw' => ?hy3014) ?rest3014
        case hy3014 => obtain ⟨r0, r1, r2, r3, r4, r5, r6, r7⟩ := cells8_next HS.out hw'; go_simp <;> first | rfl | skip
        simp only [Act.put, List.setIfInBounds_toArray, List.set_cons_zero, List.set_cons_succ]
        refine' calm_call (by rfl) (.iface 162 (.agg #[])) ?nx3015 (fun w' => ?hr3015) _ _ ?hn3015 (fun w' hw' => ?hc3015) ?rest3015
        case hr3015 => go_simp <;> rfl
        case hn3015 => rfl
        case hc3015 => exact (of_r c.s _).mono (by rintro e w3 ⟨rfl, hb3⟩; exact ⟨rfl, below_chain hw' hb3⟩)
        simp only [Act.put, List.setIfInBounds_toArray, List.set_cons_zero, List.set_cons_succ]
        refine calm_take (by rfl) ?v3016 (fun w' hw' => ?hy3016) ?rest3016
        case hy3016 => obtain ⟨r0, r1, r2, r3, r4, r5, r6, r7⟩ := cells8_next HS.out hw'; go_simp <;> first | rfl | skip
        simp only [Act.put, List.setIfInBounds_toArray, List.set_cons_zero, List.set_cons_succ]
        refine' calm_call (by rfl) (.bool true) ?nx3017 (fun w' => ?hr3017) _ _ ?hn3017 (fun w' hw' => ?hc3017) ?rest3017
        case hr3017 => go_simp <;> rfl
        case hn3017 => rfl
        case hc3017 => exact (hmay2.out w' (HBW.out.trans (hw'.mono HBW.out.size))).mono (by rintro e w3 ⟨rfl, hb3⟩; exact ⟨rfl, below_chain hw' hb3⟩)
        simp only [Act.put, List.setIfInBounds_toArray, List.set_cons_zero, List.set_cons_succ]
        refine calm_take (by rfl) ?v3018 (fun w' hw' => ?hy3018) ?rest3018
        case hy3018 => go_simp <;> first | rfl | skip
        simp only [Act.put, List.setIfInBounds_toArray, List.set_cons_zero, List.set_cons_succ]
        refine calm_take (by rfl) ?v3019 (fun w' hw' => ?hy3019) ?rest3019
        case hy3019 => go_simp <;> first | rfl | skip
        simp only [Act.put, List.setIfInBounds_toArray, List.set_cons_zero, List.set_cons_succ]
        refine calm_take (by rfl) ?v3020 (fun w' hw' => ?hy3020) ?rest3020
        case hy3020 => go_simp <;> first | rfl | skip
        simp only [Act.put, List.setIfInBounds_toArray, List.set_cons_zero, List.set_cons_succ]
        refine wpQuiet_nil (fun w' hw' => ?_)
        go_wp2
        go_ret
        exact ⟨ret_int HD.out, HBW.out.trans (hw'.mono HBW.out.size)⟩
      | false =>
        refine wp_region_calm (by kernel_rfl) (by kernel_rfl) ?_
        refine calm_take (by rfl) ?v4000 (fun w' hw' => ?hy4000) ?rest4000
        case hy4000 => go_simp <;> first | rfl | skip
        simp only [Act.put, List.setIfInBounds_toArray, List.set_cons_zero, List.set_cons_succ]
        refine calm_take (by rfl) ?v4001 (fun w' hw' => ?hy4001) ?rest4001
        case hy4001 => obtain ⟨r0, r1, r2, r3, r4, r5, r6, r7⟩ := cells8_next HS.out hw'; go_simp <;> first | rfl | skip
        simp only [Act.put, List.setIfInBounds_toArray, List.set_cons_zero, List.set_cons_succ]
        refine' calm_call (by rfl) (.int .i64 0) ?nx4002 (fun w' => ?hr4002) _ _ ?hn4002 (fun w' hw' => ?hc4002) ?rest4002
        case hr4002 => go_simp <;> rfl
        case hn4002 => rfl
        case hc4002 => exact (hmask.out w' (HBW.out.trans (hw'.mono HBW.out.size))).mono (by rintro e w3 ⟨rfl, hb3⟩; rw [hme]; exact ⟨rfl, below_chain hw' hb3⟩)
        simp only [Act.put, List.setIfInBounds_toArray, List.set_cons_zero, List.set_cons_succ]
        refine calm_take (by rfl) ?v4003 (fun w' hw' => ?hy4003) ?rest4003
        case hy4003 => go_simp <;> first | rfl | skip
        simp only [Act.put, List.setIfInBounds_toArray, List.set_cons_zero, List.set_cons_succ]
        refine calm_take (by rfl) ?v4004 (fun w' hw' => ?hy4004) ?rest4004
        case hy4004 => go_simp <;> first | rfl | skip
        simp only [Act.put, List.setIfInBounds_toArray, List.set_cons_zero, List.set_cons_succ]
        refine calm_take (by rfl) ?v4005 (fun w' hw' => ?hy4005) ?rest4005
        case hy4005 => go_simp <;> first | rfl | skip
        simp only [Act.put, List.setIfInBounds_toArray, List.set_cons_zero, List.set_cons_succ]
        refine calm_take (by rfl) ?v4006 (fun w' hw' => ?hy4006) ?rest4006
        case hy4006 => go_simp <;> first | rfl | skip
        simp only [Act.put, List.setIfInBounds_toArray, List.set_cons_zero, List.set_cons_succ]
        refine calm_take (by rfl) ?v4007 (fun w' hw' => ?hy4007) ?rest4007
        case hy4007 => obtain ⟨r0, r1, r2, r3, r4, r5, r6, r7⟩ := cells8_next HS.out hw'; go_simp <;> first | rfl | skip
        simp only [Act.put, List.setIfInBounds_toArray, List.set_cons_zero, List.set_cons_succ]
        refine calm_take (by rfl) ?v4008 (fun w' hw' => ?hy4008) ?rest4008
        case hy4008 => go_simp <;> first | rfl | skip
        simp only [Act.put, List.setIfInBounds_toArray, List.set_cons_zero, List.set_cons_succ]
        refine calm_take (by rfl) ?v4009 (fun w' hw' => ?hy4009) ?rest4009
        case hy4009 => obtain ⟨r0, r1, r2, r3, r4, r5, r6, r7⟩ := cells8_next HS.out hw'; go_simp <;> first | rfl | skip
        simp only [Act.put, List.setIfInBounds_toArray, List.set_cons_zero, List.set_cons_succ]
        refine calm_take (by rfl) ?v4010 (fun w' hw' => ?hy4010) ?rest4010
        case hy4010 => go_simp <;> first | rfl | skip
        simp only [Act.put, List.setIfInBounds_toArray, List.set_cons_zero, List.set_cons_succ]
        refine calm_take (by rfl) ?v4011 (fun w' hw' => ?hy4011) ?rest4011
        case hy4011 => go_simp <;> first | rfl | skip
        simp only [Act.put, List.setIfInBounds_toArray, List.set_cons_zero, List.set_cons_succ]
        refine calm_take (by rfl) ?v4012 (fun w' hw' => ?hy4012) ?rest4012
        case hy4012 => go_simp <;> first | rfl | skip
        simp only [Act.put, List.setIfInBounds_toArray, List.set_cons_zero, List.set_cons_succ]
        refine calm_take (by rfl) ?v4013 (fun w' hw' => ?hy4013) ?rest4013
        case hy4013 => go_simp <;> first | rfl | skip
        simp only [Act.put, List.setIfInBounds_toArray, List.set_cons_zero, List.set_cons_succ]
        refine calm_take (by rfl) ?v4014 (fun w' hw' => ?hy4014) ?rest4014
        case hy4014 => obtain ⟨r0, r1, r2, r3, r4, r5, r6, r7⟩ := cells8_next HS.out hw'; go_simp <;> first | rfl | skip
        simp only [Act.put, List.setIfInBounds_toArray, List.set_cons_zero, List.set_cons_succ]
        refine' calm_call (by rfl) (.iface 162 (.agg #[])) ?nx4015 (fun w' => ?hr4015) _ _ ?hn4015 (fun w' hw' => ?hc4015) ?rest4015
        case hr4015 => go_simp <;> rfl
        case hn4015 => rfl
        case hc4015 => exact (of_r c.s _).mono (by rintro e w3 ⟨rfl, hb3⟩; exact ⟨rfl, below_chain hw' hb3⟩)
        simp only [Act.put, List.setIfInBounds_toArray, List.set_cons_zero, List.set_cons_succ]
        refine calm_take (by rfl) ?v4016 (fun w' hw' => ?hy4016) ?rest4016
        case hy4016 => obtain ⟨r0, r1, r2, r3, r4, r5, r6, r7⟩ := cells8_next HS.out hw'; go_simp <;> first | rfl | skip
        simp only [Act.put, List.setIfInBounds_toArray, List.set_cons_zero, List.set_cons_succ]
        refine' calm_call (by rfl) (.bool false) ?nx4017 (fun w' => ?hr4017) _ _ ?hn4017 (fun w' hw' => ?hc4017) ?rest4017
        case hr4017 => go_simp <;> rfl
        case hn4017 => rfl
        case hc4017 => exact (hmay2.out w' (HBW.out.trans (hw'.mono HBW.out.size))).mono (by rintro e w3 ⟨rfl, hb3⟩; exact ⟨rfl, below_chain hw' hb3⟩)
        simp only [Act.put, List.setIfInBounds_toArray, List.set_cons_zero, List.set_cons_succ]
        refine calm_take (by rfl) ?v4018 (fun w' hw' => ?hy4018) ?rest4018
        case hy4018 => go_simp <;> first | rfl | skip
        simp only [Act.put, List.setIfInBounds_toArray, List.set_cons_zero, List.set_cons_succ]
        refine calm_take (by rfl) ?v4019 (fun w' hw' => ?hy4019) ?rest4019
        case hy4019 => go_simp <;> first | rfl | skip
        simp only [Act.put, List.setIfInBounds_toArray, List.set_cons_zero, List.set_cons_succ]
        refine calm_take (by rfl) ?v4020 (fun w' hw' => ?hy4020) ?rest4020
        case hy4020 => go_simp <;> first | rfl | skip
        simp only [Act.put, List.setIfInBounds_toArray, List.set_cons_zero, List.set_cons_succ]
        refine wpQuiet_nil (fun w' hw' => ?_)
        go_wp2
        go_ret
        exact ⟨ret_int HD.out, HBW.out.trans (hw'.mono HBW.out.size)⟩
theorem check_c (c : Col) (hk : c.k = 16) (ho : okType c.k c.s = true) (hc : COK c) (B D E X : SL) (vals : List Value) (w : World) (h : RdC w c B D E X vals) : Calls Tryz.prog 82 #[colV c B D E X] w (IntP (checkC c) w) := by
  have HR := Aside.mk h
  have HC := Aside.mk hc
  have hmay := Aside.mk (fun (hn : c.n ≤ 8 * (c.bits.length : Int)) (w2 : World) (hb : Below w.heap.size w w2) => mayC_any c HC.out hn B D E X vals w2 (HR.out.below hb))
  have hmask := Aside.mk (fun (w2 : World) (hb : Below w.heap.size w w2) => maskCheck_any c.m c.bits B HC.out.lb HC.out.bits w2 (HR.out.bits.below hb))
  have hct := Aside.mk (fun w2 => by have := check_f2 c.k c.s w2; rw [ho] at this; exact this)
  have HMB := Aside.mk (show mayB c = mayCoded c by unfold mayB; rw [hk]; rfl)
  have HO := Aside.mk ho
  have HK := Aside.mk hk
  have HCV := Aside.mk (show colV c B D E X = .agg #[.int .i64 16, .int .i64 c.s, .int .i64 c.n, .int .i64 c.m, .slice B.a c.bits.length B.c, .slice D.a c.data.length D.c, .slice E.a c.ends.length E.c, .slice X.a c.words.length X.c] by rw [colV, hk])
  rw [hk] at hct
  rw [HCV.out] at hmay ⊢
  clear h hc ho hk
  go_enter Tryz.func82, Tryz.ntmps82
  go_wp2_with fail
  have HBW := Aside.mk (below_new w (.cells #[.int .i64 16, .int .i64 c.s, .int .i64 c.n, .int .i64 c.m, .slice B.a c.bits.length B.c, .slice D.a c.data.length D.c, .slice E.a c.ends.length E.c, .slice X.a c.words.length X.c] 63))
  have HS := Aside.mk (show Cells8 w.heap.size (.int .i64 16) (.int .i64 c.s) (.int .i64 c.n) (.int .i64 c.m) (.slice B.a c.bits.length B.c) (.slice D.a c.data.length D.c) (.slice E.a c.ends.length E.c) (.slice X.a c.words.length X.c) (w.alloc (.cells #[.int .i64 16, .int .i64 c.s, .int .i64 c.n, .int .i64 c.m, .slice B.a c.bits.length B.c, .slice D.a c.data.length D.c, .slice E.a c.ends.length E.c, .slice X.a c.words.length X.c] 63)) from box8 (heap_alloc_new w _))
  generalize hw1 : w.alloc (.cells #[.int .i64 16, .int .i64 c.s, .int .i64 c.n, .int .i64 c.m, .slice B.a c.bits.length B.c, .slice D.a c.data.length D.c, .slice E.a c.ends.length E.c, .slice X.a c.words.length X.c] 63) = w1 at *
  clear hw1
  refine (hct.out _).mono ?_
  rintro e w2 ⟨rfl, hb2⟩
  replace HBW := Aside.mk (HBW.out.trans (hb2.mono HBW.out.size))
  replace HS := Aside.mk (cells8_next HS.out hb2)
  clear hb2
  go_wp2
  obtain ⟨p0, p1, p2, p3, p4, p5, p6, p7⟩ := HS.out
  by_cases hm : maskOK c.m c.bits = true
  rotate_left
  · have hme : maskErr c.m c.bits = 160 := by rw [maskErr, if_neg hm]
    have HD := Aside.mk (checkC_mask HO.out (by simpa using hm))
    clear hm
    refine wp_region_calm (by kernel_rfl) (by kernel_rfl) ?_
    refine calm_take (by rfl) ?v5000 (fun w' hw' => ?hy5000) ?rest5000
    case hy5000 => go_simp <;> first | rfl | skip
    simp only [Act.put, List.setIfInBounds_toArray, List.set_cons_zero, List.set_cons_succ]
    refine calm_take (by rfl) ?v5001 (fun w' hw' => ?hy5001) ?rest5001
    case hy5001 => obtain ⟨r0, r1, r2, r3, r4, r5, r6, r7⟩ := cells8_next HS.out hw'; go_simp <;> first | rfl | skip
    simp only [Act.put, List.setIfInBounds_toArray, List.set_cons_zero, List.set_cons_succ]
    refine' calm_call (by rfl) (.int .i64 160) ?nx5002 (fun w' => ?hr5002) _ _ ?hn5002 (fun w' hw' => ?hc5002) ?rest5002
    case hr5002 => go_simp <;> rfl
    case hn5002 => rfl
    case hc5002 => exact (hmask.out w' (HBW.out.trans (hw'.mono HBW.out.size))).mono (by rintro e w3 ⟨rfl, hb3⟩; rw [hme]; exact ⟨rfl, below_chain hw' hb3⟩)
    simp only [Act.put, List.setIfInBounds_toArray, List.set_cons_zero, List.set_cons_succ]
    refine calm_take (by rfl) ?v5003 (fun w' hw' => ?hy5003) ?rest5003
    case hy5003 => go_simp <;> first | rfl | skip
    simp only [Act.put, List.setIfInBounds_toArray, List.set_cons_zero, List.set_cons_succ]
    refine calm_take (by rfl) ?v5004 (fun w' hw' => ?hy5004) ?rest5004
    case hy5004 => go_simp <;> first | rfl | skip
    simp only [Act.put, List.setIfInBounds_toArray, List.set_cons_zero, List.set_cons_succ]
    refine calm_skip (by rfl) ?_
    simp only [Act.put, List.setIfInBounds_toArray, List.set_cons_zero, List.set_cons_succ]
    refine calm_skip (by rfl) ?_
    simp only [Act.put, List.setIfInBounds_toArray, List.set_cons_zero, List.set_cons_succ]
    refine calm_skip (by rfl) ?_
    simp only [Act.put, List.setIfInBounds_toArray, List.set_cons_zero, List.set_cons_succ]
    refine calm_skip (by rfl) ?_
    simp only [Act.put, List.setIfInBounds_toArray, List.set_cons_zero, List.set_cons_succ]
    refine calm_skip (by rfl) ?_
    simp only [Act.put, List.setIfInBounds_toArray, List.set_cons_zero, List.set_cons_succ]
    refine calm_skip (by rfl) ?_
    simp only [Act.put, List.setIfInBounds_toArray, List.set_cons_zero, List.set_cons_succ]
    refine calm_take (by rfl) ?v5011 (fun w' hw' => ?hy5011) ?rest5011
    case hy5011 => go_simp <;> first | rfl | skip
    simp only [Act.put, List.setIfInBounds_toArray, List.set_cons_zero, List.set_cons_succ]
    refine calm_take (by rfl) ?v5012 (fun w' hw' => ?hy5012) ?rest5012
    case hy5012 => go_simp <;> first | rfl | skip
    simp only [Act.put, List.setIfInBounds_toArray, List.set_cons_zero, List.set_cons_succ]
    refine calm_skip (by rfl) ?_
    simp only [Act.put, List.setIfInBounds_toArray, List.set_cons_zero, List.set_cons_succ]
    refine calm_skip (by rfl) ?_
    simp only [Act.put, List.setIfInBounds_toArray, List.set_cons_zero, List.set_cons_succ]
    refine calm_skip (by rfl) ?_
    simp only [Act.put, List.setIfInBounds_toArray, List.set_cons_zero, List.set_cons_succ]
    refine calm_skip (by rfl) ?_
    simp only [Act.put, List.setIfInBounds_toArray, List.set_cons_zero, List.set_cons_succ]
    refine calm_skip (by rfl) ?_
    simp only [Act.put, List.setIfInBounds_toArray, List.set_cons_zero, List.set_cons_succ]
    refine calm_skip (by rfl) ?_
    simp only [Act.put, List.setIfInBounds_toArray, List.set_cons_zero, List.set_cons_succ]
    refine calm_take (by rfl) ?v5019 (fun w' hw' => ?hy5019) ?rest5019
    case hy5019 => go_simp <;> first | rfl | skip
    simp only [Act.put, List.setIfInBounds_toArray, List.set_cons_zero, List.set_cons_succ]
    refine calm_take (by rfl) ?v5020 (fun w' hw' => ?hy5020) ?rest5020
    case hy5020 => go_simp <;> first | rfl | skip
    simp only [Act.put, List.setIfInBounds_toArray, List.set_cons_zero, List.set_cons_succ]
    refine wpQuiet_nil (fun w' hw' => ?_)
    go_wp2
    go_ret
    exact ⟨ret_int HD.out, HBW.out.trans (hw'.mono HBW.out.size)⟩
  · have hme : maskErr c.m c.bits = 0 := by rw [maskErr, if_pos hm]
    by_cases hmn : c.m = c.n
    rotate_left
    · have hmn2 : (c.m != c.n) = true := by simpa using hmn
      have HD := Aside.mk (checkC_len HO.out hmn)
      clear hm hmn
      refine wp_region_calm (by kernel_rfl) (by kernel_rfl) ?_
      refine calm_take (by rfl) ?v6000 (fun w' hw' => ?hy6000) ?rest6000
      case hy6000 => go_simp <;> first | rfl | skip
      simp only [Act.put, List.setIfInBounds_toArray, List.set_cons_zero, List.set_cons_succ]
      refine calm_take (by rfl) ?v6001 (fun w' hw' => ?hy6001) ?rest6001
      case hy6001 => obtain ⟨r0, r1, r2, r3, r4, r5, r6, r7⟩ := cells8_next HS.out hw'; go_simp <;> first | rfl | skip
      simp only [Act.put, List.setIfInBounds_toArray, List.set_cons_zero, List.set_cons_succ]
      refine' calm_call (by rfl) (.int .i64 0) ?nx6002 (fun w' => ?hr6002) _ _ ?hn6002 (fun w' hw' => ?hc6002) ?rest6002
      case hr6002 => go_simp <;> rfl
      case hn6002 => rfl
      case hc6002 => exact (hmask.out w' (HBW.out.trans (hw'.mono HBW.out.size))).mono (by rintro e w3 ⟨rfl, hb3⟩; rw [hme]; exact ⟨rfl, below_chain hw' hb3⟩)
      simp only [Act.put, List.setIfInBounds_toArray, List.set_cons_zero, List.set_cons_succ]
      refine calm_take (by rfl) ?v6003 (fun w' hw' => ?hy6003) ?rest6003
      case hy6003 => go_simp <;> first | rfl | skip
      simp only [Act.put, List.setIfInBounds_toArray, List.set_cons_zero, List.set_cons_succ]
      refine calm_take (by rfl) ?v6004 (fun w' hw' => ?hy6004) ?rest6004
      case hy6004 => go_simp <;> first | rfl | skip
      simp only [Act.put, List.setIfInBounds_toArray, List.set_cons_zero, List.set_cons_succ]
      refine calm_take (by rfl) ?v6005 (fun w' hw' => ?hy6005) ?rest6005
      case hy6005 => go_simp <;> first | rfl | skip
      simp only [Act.put, List.setIfInBounds_toArray, List.set_cons_zero, List.set_cons_succ]
      refine calm_take (by rfl) ?v6006 (fun w' hw' => ?hy6006) ?rest6006
      case hy6006 => go_simp <;> first | rfl | skip
      simp only [Act.put, List.setIfInBounds_toArray, List.set_cons_zero, List.set_cons_succ]
      refine calm_take (by rfl) ?v6007 (fun w' hw' => ?hy6007) ?rest6007
      case hy6007 => obtain ⟨r0, r1, r2, r3, r4, r5, r6, r7⟩ := cells8_next HS.out hw'; go_simp <;> first | rfl | skip
      simp only [Act.put, List.setIfInBounds_toArray, List.set_cons_zero, List.set_cons_succ]
      refine calm_take (by rfl) ?v6008 (fun w' hw' => ?hy6008) ?rest6008
      case hy6008 => go_simp <;> first | rfl | skip
      simp only [Act.put, List.setIfInBounds_toArray, List.set_cons_zero, List.set_cons_succ]
      refine calm_take (by rfl) ?v6009 (fun w' hw' => ?hy6009) ?rest6009
      case hy6009 => obtain ⟨r0, r1, r2, r3, r4, r5, r6, r7⟩ := cells8_next HS.out hw'; go_simp <;> first | rfl | skip
      simp only [Act.put, List.setIfInBounds_toArray, List.set_cons_zero, List.set_cons_succ]
      refine calm_take (by rfl) ?v6010 (fun w' hw' => ?hy6010) ?rest6010
      case hy6010 => go_simp <;> first | rfl | skip
      simp only [Act.put, List.setIfInBounds_toArray, List.set_cons_zero, List.set_cons_succ]
      refine calm_take (by rfl) ?v6011 (fun w' hw' => ?hy6011) ?rest6011
      case hy6011 => go_simp <;> first | rfl | skip
      simp only [Act.put, List.setIfInBounds_toArray, List.set_cons_zero, List.set_cons_succ]
      refine calm_take (by rfl) ?v6012 (fun w' hw' => ?hy6012) ?rest6012
      case hy6012 => go_simp <;> first | rfl | skip
      simp only [Act.put, List.setIfInBounds_toArray, List.set_cons_zero, List.set_cons_succ]
      refine calm_skip (by rfl) ?_
      simp only [Act.put, List.setIfInBounds_toArray, List.set_cons_zero, List.set_cons_succ]
      refine calm_skip (by rfl) ?_
      simp only [Act.put, List.setIfInBounds_toArray, List.set_cons_zero, List.set_cons_succ]
      refine calm_skip (by rfl) ?_
      simp only [Act.put, List.setIfInBounds_toArray, List.set_cons_zero, List.set_cons_succ]
      refine calm_skip (by rfl) ?_
      simp only [Act.put, List.setIfInBounds_toArray, List.set_cons_zero, List.set_cons_succ]
      refine calm_skip (by rfl) ?_
      simp only [Act.put, List.setIfInBounds_toArray, List.set_cons_zero, List.set_cons_succ]
      refine calm_skip (by rfl) ?_
      simp only [Act.put, List.setIfInBounds_toArray, List.set_cons_zero, List.set_cons_succ]
      refine calm_take (by rfl) ?v6019 (fun w' hw' => ?hy6019) ?rest6019
      case hy6019 => go_simp <;> first | rfl | skip
      simp only [Act.put, List.setIfInBounds_toArray, List.set_cons_zero, List.set_cons_succ]
      refine calm_take (by rfl) ?v6020 (fun w' hw' => ?hy6020) ?rest6020
      case hy6020 => go_simp <;> first | rfl | skip
      simp only [Act.put, List.setIfInBounds_toArray, List.set_cons_zero, List.set_cons_succ]
      refine wpQuiet_nil (fun w' hw' => ?_)
      go_wp2
      go_ret
      exact ⟨ret_int HD.out, HBW.out.trans (hw'.mono HBW.out.size)⟩
    · have hmn2 : (c.m != c.n) = false := by simpa using hmn
      have HD := Aside.mk (checkC_may HO.out hm hmn)
      have hmay2 := Aside.mk (hmay.out (by rw [← hmn]; exact mask_room hm))
      rw [HMB.out] at HD
      clear hm hmn hmay
      generalize mayCoded c = mb at *
      cases mb with
      | true =>
        refine wp_region_calm (by kernel_rfl) (by kernel_rfl) ?_
        refine calm_take (by rfl) ?v7000 (fun w' hw' => ?hy7000) ?rest7000
        case hy7000 => go_simp <;> first | rfl | skip
        simp only [Act.put, List.setIfInBounds_toArray, List.set_cons_zero, List.set_cons_succ]
        refine calm_take (by rfl) ?v7001 (fun w' hw' => ?hy7001) ?rest7001
        case hy7001 => obtain ⟨r0, r1, r2, r3, r4, r5, r6, r7⟩ := cells8_next HS.out hw'; go_simp <;> first | rfl | skip
        simp only [Act.put, List.setIfInBounds_toArray, List.set_cons_zero, List.set_cons_succ]
        refine' calm_call (by rfl) (.int .i64 0) ?nx7002 (fun w' => ?hr7002) _ _ ?hn7002 (fun w' hw' => ?hc7002) ?rest7002
        case hr7002 => go_simp <;> rfl
        case hn7002 => rfl
        case hc7002 => exact (hmask.out w' (HBW.out.trans (hw'.mono HBW.out.size))).mono (by rintro e w3 ⟨rfl, hb3⟩; rw [hme]; exact ⟨rfl, below_chain hw' hb3⟩)
        simp only [Act.put, List.setIfInBounds_toArray, List.set_cons_zero, List.set_cons_succ]
        refine calm_take (by rfl) ?v7003 (fun w' hw' => ?hy7003) ?rest7003
        case hy7003 => go_simp <;> first | rfl | skip
        simp only [Act.put, List.setIfInBounds_toArray, List.set_cons_zero, List.set_cons_succ]
        refine calm_take (by rfl) ?v7004 (fun w' hw' => ?hy7004) ?rest7004
        case hy7004 => go_simp <;> first | rfl | skip
        simp only [Act.put, List.setIfInBounds_toArray, List.set_cons_zero, List.set_cons_succ]
        refine calm_take (by rfl) ?v7005 (fun w' hw' => ?hy7005) ?rest7005
        case hy7005 => go_simp <;> first | rfl | skip
        simp only [Act.put, List.setIfInBounds_toArray, List.set_cons_zero, List.set_cons_succ]
        refine calm_take (by rfl) ?v7006 (fun w' hw' => ?hy7006) ?rest7006
        case hy7006 => go_simp <;> first | rfl | skip
        simp only [Act.put, List.setIfInBounds_toArray, List.set_cons_zero, List.set_cons_succ]
        refine calm_take (by rfl) ?v7007 (fun w' hw' => ?hy7007) ?rest7007
        case hy7007 => obtain ⟨r0, r1, r2, r3, r4, r5, r6, r7⟩ := cells8_next HS.out hw'; go_simp <;> first | rfl | skip
        simp only [Act.put, List.setIfInBounds_toArray, List.set_cons_zero, List.set_cons_succ]
        refine calm_take (by rfl) ?v7008 (fun w' hw' => ?hy7008) ?rest7008
        case hy7008 => go_simp <;> first | rfl | skip
        simp only [Act.put, List.setIfInBounds_toArray, List.set_cons_zero, List.set_cons_succ]
        refine calm_take (by rfl) ?v7009 (fun w' hw' => ?hy7009) ?rest7009
        case hy7009 => obtain ⟨r0, r1, r2, r3, r4, r5, r6, r7⟩ := cells8_next HS.out hw'; go_simp <;> first | rfl | skip
        simp only [Act.put, List.setIfInBounds_toArray, List.set_cons_zero, List.set_cons_succ]
        refine calm_take (by rfl) ?v7010 (fun w' hw' => ?hy7010) ?rest7010
        case hy7010 => go_simp <;> first | rfl | skip
        simp only [Act.put, List.setIfInBounds_toArray, List.set_cons_zero, List.set_cons_succ]
        refine calm_take (by rfl) ?v7011 (fun w' hw' => ?hy7011) ?rest7011
        case hy7011 => go_simp <;> first | rfl | skip
        simp only [Act.put, List.setIfInBounds_toArray, List.set_cons_zero, List.set_cons_succ]
        refine calm_take (by rfl) ?v7012 (fun w' hw' => ?hy7012) ?rest7012
        case hy7012 => go_simp <;> first | rfl | skip
        simp only [Act.put, List.setIfInBounds_toArray, List.set_cons_zero, List.set_cons_succ]
        refine calm_take (by rfl) ?v7013 (fun w' hw' => ?hy7013) ?rest7013
        case hy7013 => go_simp <;> first | rfl | skip
        simp only [Act.put, List.setIfInBounds_toArray, List.set_cons_zero, List.set_cons_succ]
        refine calm_take (by rfl) ?v7014 (fun w' hw' => ?hy7014) ?rest7014
        case hy7014 => obtain ⟨r0, r1, r2, r3, r4, r5, r6, r7⟩ := cells8_next HS.out hw'; go_simp <;> first | rfl | skip
        simp only [Act.put, List.setIfInBounds_toArray, List.set_cons_zero, List.set_cons_succ]
        refine' calm_call (by rfl) (.iface 167 (.agg #[.int .i64 4])) ?nx7015 (fun w' => ?hr7015) _ _ ?hn7015 (fun w' hw' => ?hc7015) ?rest7015
        case hr7015 => go_simp <;> rfl
        case hn7015 => rfl
        case hc7015 => exact (of_c c.s _).mono (by rintro e w3 ⟨rfl, hb3⟩; exact ⟨rfl, below_chain hw' hb3⟩)
        simp only [Act.put, List.setIfInBounds_toArray, List.set_cons_zero, List.set_cons_succ]
        refine calm_take (by rfl) ?v7016 (fun w' hw' => ?hy7016) ?rest7016
        case hy7016 => obtain ⟨r0, r1, r2, r3, r4, r5, r6, r7⟩ := cells8_next HS.out hw'; go_simp <;> first | rfl | skip
        simp only [Act.put, List.setIfInBounds_toArray, List.set_cons_zero, List.set_cons_succ]
        refine' calm_call (by rfl) (.bool true) ?nx7017 (fun w' => ?hr7017) _ _ ?hn7017 (fun w' hw' => ?hc7017) ?rest7017
        case hr7017 => go_simp <;> rfl
        case hn7017 => rfl
        case hc7017 => exact (hmay2.out w' (HBW.out.trans (hw'.mono HBW.out.size))).mono (by rintro e w3 ⟨rfl, hb3⟩; exact ⟨rfl, below_chain hw' hb3⟩)
        simp only [Act.put, List.setIfInBounds_toArray, List.set_cons_zero, List.set_cons_succ]
        refine calm_take (by rfl) ?v7018 (fun w' hw' => ?hy7018) ?rest7018
        case hy7018 => go_simp <;> first | rfl | skip
        simp only [Act.put, List.setIfInBounds_toArray, List.set_cons_zero, List.set_cons_succ]
        refine calm_take (by rfl) ?v7019 (fun w' hw' => ?hy7019) ?rest7019
        case hy7019 => go_simp <;> first | rfl | skip
        simp only [Act.put, List.setIfInBounds_toArray, List.set_cons_zero, List.set_cons_succ]
        refine calm_take (by rfl) ?v7020 (fun w' hw' => ?hy7020) ?rest7020
        case hy7020 => go_simp <;> first | rfl | skip
        simp only [Act.put, List.setIfInBounds_toArray, List.set_cons_zero, List.set_cons_succ]
        refine wpQuiet_nil (fun w' hw' => ?_)
        go_wp2
        go_ret
        exact ⟨ret_int HD.out, HBW.out.trans (hw'.mono HBW.out.size)⟩
      | false =>
        refine wp_region_calm (by kernel_rfl) (by kernel_rfl) ?_
        refine calm_take (by rfl) ?v8000 (fun w' hw' => ?hy8000) ?rest8000
        case hy8000 => go_simp <;> first | rfl | skip
        simp only [Act.put, List.setIfInBounds_toArray, List.set_cons_zero, List.set_cons_succ]
        refine calm_take (by rfl) ?v8001 (fun w' hw' => ?hy8001) ?rest8001
        case hy8001 => obtain ⟨r0, r1, r2, r3, r4, r5, r6, r7⟩ := cells8_next HS.out hw'; go_simp <;> first | rfl | skip
        simp only [Act.put, List.setIfInBounds_toArray, List.set_cons_zero, List.set_cons_succ]
        refine' calm_call (by rfl) (.int .i64 0) ?nx8002 (fun w' => ?hr8002) _ _ ?hn8002 (fun w' hw' => ?hc8002) ?rest8002
        case hr8002 => go_simp <;> rfl
        case hn8002 => rfl
        case hc8002 => exact (hmask.out w' (HBW.out.trans (hw'.mono HBW.out.size))).mono (by rintro e w3 ⟨rfl, hb3⟩; rw [hme]; exact ⟨rfl, below_chain hw' hb3⟩)
        simp only [Act.put, List.setIfInBounds_toArray, List.set_cons_zero, List.set_cons_succ]
        refine calm_take (by rfl) ?v8003 (fun w' hw' => ?hy8003) ?rest8003
        case hy8003 => go_simp <;> first | rfl | skip
        simp only [Act.put, List.setIfInBounds_toArray, List.set_cons_zero, List.set_cons_succ]
        refine calm_take (by rfl) ?v8004 (fun w' hw' => ?hy8004) ?rest8004
        case hy8004 => go_simp <;> first | rfl | skip
        simp only [Act.put, List.setIfInBounds_toArray, List.set_cons_zero, List.set_cons_succ]
        refine calm_take (by rfl) ?v8005 (fun w' hw' => ?hy8005) ?rest8005
        case hy8005 => go_simp <;> first | rfl | skip
        simp only [Act.put, List.setIfInBounds_toArray, List.set_cons_zero, List.set_cons_succ]
        refine calm_take (by rfl) ?v8006 (fun w' hw' => ?hy8006) ?rest8006
        case hy8006 => go_simp <;> first | rfl | skip
        simp only [Act.put, List.setIfInBounds_toArray, List.set_cons_zero, List.set_cons_succ]
        refine calm_take (by rfl) ?v8007 (fun w' hw' => ?hy8007) ?rest8007
        case hy8007 => obtain ⟨r0, r1, r2, r3, r4, r5, r6, r7⟩ := cells8_next HS.out hw'; go_simp <;> first | rfl | skip
        simp only [Act.put, List.setIfInBounds_toArray, List.set_cons_zero, List.set_cons_succ]
        refine calm_take (by rfl) ?v8008 (fun w' hw' => ?hy8008) ?rest8008
        case hy8008 => go_simp <;> first | rfl | skip
        simp only [Act.put, List.setIfInBounds_toArray, List.set_cons_zero, List.set_cons_succ]
        refine calm_take (by rfl) ?v8009 (fun w' hw' => ?hy8009) ?rest8009
        case hy8009 => obtain ⟨r0, r1, r2, r3, r4, r5, r6, r7⟩ := cells8_next HS.out hw'; go_simp <;> first | rfl | skip
        simp only [Act.put, List.setIfInBounds_toArray, List.set_cons_zero, List.set_cons_succ]
        refine calm_take (by rfl) ?v8010 (fun w' hw' => ?hy8010) ?rest8010
        case hy8010 => go_simp <;> first | rfl | skip
        simp only [Act.put, List.setIfInBounds_toArray, List.set_cons_zero, List.set_cons_succ]
        refine calm_take (by rfl) ?v8011 (fun w' hw' => ?hy8011) ?rest8011
        case hy8011 => go_simp <;> first | rfl | skip
        simp only [Act.put, List.setIfInBounds_toArray, List.set_cons_zero, List.set_cons_succ]
        refine calm_take (by rfl) ?v8012 (fun w' hw' => ?hy8012) ?rest8012
        case hy8012 => go_simp <;> first | rfl | skip
        simp only [Act.put, List.setIfInBounds_toArray, List.set_cons_zero, List.set_cons_succ]
        refine calm_take (by rfl) ?v8013 (fun w' hw' => ?hy8013) ?rest8013
        case hy8013 => go_simp <;> first | rfl | skip
        simp only [Act.put, List.setIfInBounds_toArray, List.set_cons_zero, List.set_cons_succ]
        refine calm_take (by rfl) ?v8014 (fun w' hw' => ?hy8014) ?rest8014
        case hy8014 => obtain ⟨r0, r1, r2, r3, r4, r5, r6, r7⟩ := cells8_next HS.out hw'; go_simp <;> first | rfl | skip
        simp only [Act.put, List.setIfInBounds_toArray, List.set_cons_zero, List.set_cons_succ]
        refine' calm_call (by rfl) (.iface 167 (.agg #[.int .i64 4])) ?nx8015 (fun w' => ?hr8015) _ _ ?hn8015 (fun w' hw' => ?hc8015) ?rest8015
        case hr8015 => go_simp <;> rfl
        case hn8015 => rfl
        case hc8015 => exact (of_c c.s _).mono (by rintro e w3 ⟨rfl, hb3⟩; exact ⟨rfl, below_chain hw' hb3⟩)
        simp only [Act.put, List.setIfInBounds_toArray, List.set_cons_zero, List.set_cons_succ]
        refine calm_take (by rfl) ?v8016 (fun w' hw' => ?hy8016) ?rest8016
        case hy8016 => obtain ⟨r0, r1, r2, r3, r4, r5, r6, r7⟩ := cells8_next HS.out hw'; go_simp <;> first | rfl | skip
        simp only [Act.put, List.setIfInBounds_toArray, List.set_cons_zero, List.set_cons_succ]
        refine' calm_call (by rfl) (.bool false) ?nx8017 (fun w' => ?hr8017) _ _ ?hn8017 (fun w' hw' => ?hc8017) ?rest8017
        case hr8017 => go_simp <;> rfl
        case hn8017 => rfl
        case hc8017 => exact (hmay2.out w' (HBW.out.trans (hw'.mono HBW.out.size))).mono (by rintro e w3 ⟨rfl, hb3⟩; exact ⟨rfl, below_chain hw' hb3⟩)
        simp only [Act.put, List.setIfInBounds_toArray, List.set_cons_zero, List.set_cons_succ]
        refine calm_take (by rfl) ?v8018 (fun w' hw' => ?hy8018) ?rest8018
        case hy8018 => go_simp <;> first | rfl | skip
        simp only [Act.put, List.setIfInBounds_toArray, List.set_cons_zero, List.set_cons_succ]
        refine calm_take (by rfl) ?v8019 (fun w' hw' => ?hy8019) ?rest8019
        case hy8019 => go_simp <;> first | rfl | skip
        simp only [Act.put, List.setIfInBounds_toArray, List.set_cons_zero, List.set_cons_succ]
        refine calm_take (by rfl) ?v8020 (fun w' hw' => ?hy8020) ?rest8020
        case hy8020 => go_simp <;> first | rfl | skip
        simp only [Act.put, List.setIfInBounds_toArray, List.set_cons_zero, List.set_cons_succ]
        refine wpQuiet_nil (fun w' hw' => ?_)
        go_wp2
        go_ret
        exact ⟨ret_int HD.out, HBW.out.trans (hw'.mono HBW.out.size)⟩
theorem check_f (c : Col) (h1 : c.k ≠ 15) (h2 : c.k ≠ 16) {W : Nat} (hW : widthOf c.k = (W : Int)) (hW8 : W = 1 ∨ W = 2 ∨ W = 4 ∨ W = 8) (ho : okType c.k c.s = true) (hc : COK c) (B D E X : SL) (vals : List Value) (w : World) (h : RdC w c B D E X vals) : Calls Tryz.prog 82 #[colV c B D E X] w (IntP (checkC c) w) := by
  have HR := Aside.mk h
  have HC := Aside.mk hc
  have hmay := Aside.mk (fun (hn : c.n ≤ 8 * (c.bits.length : Int)) (w2 : World) (hb : Below w.heap.size w w2) => mayF_any W hW8 c HC.out hn B D E X vals w2 (HR.out.below hb))
  have hmask := Aside.mk (fun (w2 : World) (hb : Below w.heap.size w w2) => maskCheck_any c.m c.bits B HC.out.lb HC.out.bits w2 (HR.out.bits.below hb))
  have hct := Aside.mk (fun w2 => by have := check_f2 c.k c.s w2; rw [ho] at this; exact this)
  have HMB := Aside.mk (show mayB c = mayFixed c.k c.s W c by unfold mayB; rw [if_neg h1, if_neg h2, hW]; rfl)
  have HO := Aside.mk ho
  have H1 := Aside.mk h1
  have H2 := Aside.mk h2
  have HWW := Aside.mk hW
  clear h hc ho h1 h2 hW
  dsimp only [colV] at hmay ⊢
  go_enter Tryz.func82, Tryz.ntmps82
  go_wp2_with fail
  have HBW := Aside.mk (below_new w (.cells #[.int .i64 c.k, .int .i64 c.s, .int .i64 c.n, .int .i64 c.m, .slice B.a c.bits.length B.c, .slice D.a c.data.length D.c, .slice E.a c.ends.length E.c, .slice X.a c.words.length X.c] 63))
  have HS := Aside.mk (show Cells8 w.heap.size (.int .i64 c.k) (.int .i64 c.s) (.int .i64 c.n) (.int .i64 c.m) (.slice B.a c.bits.length B.c) (.slice D.a c.data.length D.c) (.slice E.a c.ends.length E.c) (.slice X.a c.words.length X.c) (w.alloc (.cells #[.int .i64 c.k, .int .i64 c.s, .int .i64 c.n, .int .i64 c.m, .slice B.a c.bits.length B.c, .slice D.a c.data.length D.c, .slice E.a c.ends.length E.c, .slice X.a c.words.length X.c] 63)) from box8 (heap_alloc_new w _))
  generalize hw1 : w.alloc (.cells #[.int .i64 c.k, .int .i64 c.s, .int .i64 c.n, .int .i64 c.m, .slice B.a c.bits.length B.c, .slice D.a c.data.length D.c, .slice E.a c.ends.length E.c, .slice X.a c.words.length X.c] 63) = w1 at *
  clear hw1
  refine (hct.out _).mono ?_
  rintro e w2 ⟨rfl, hb2⟩
  replace HBW := Aside.mk (HBW.out.trans (hb2.mono HBW.out.size))
  replace HS := Aside.mk (cells8_next HS.out hb2)
  clear hb2
  go_wp2
  obtain ⟨p0, p1, p2, p3, p4, p5, p6, p7⟩ := HS.out
  by_cases hm : maskOK c.m c.bits = true
  rotate_left
  · have hme : maskErr c.m c.bits = 160 := by rw [maskErr, if_neg hm]
    have HD := Aside.mk (checkC_mask HO.out (by simpa using hm))
    clear hm
    refine wp_region_calm (by kernel_rfl) (by kernel_rfl) ?_
    refine calm_take (by rfl) ?v9000 (fun w' hw' => ?hy9000) ?rest9000
    case hy9000 => go_simp <;> first | rfl | skip
    simp only [Act.put, List.setIfInBounds_toArray, List.set_cons_zero, List.set_cons_succ]
    refine calm_take (by rfl) ?v9001 (fun w' hw' => ?hy9001) ?rest9001
    case hy9001 => obtain ⟨r0, r1, r2, r3, r4, r5, r6, r7⟩ := cells8_next HS.out hw'; go_simp <;> first | rfl | skip
    simp only [Act.put, List.setIfInBounds_toArray, List.set_cons_zero, List.set_cons_succ]
    refine' calm_call (by rfl) (.int .i64 160) ?nx9002 (fun w' => ?hr9002) _ _ ?hn9002 (fun w' hw' => ?hc9002) ?rest9002
    case hr9002 => go_simp <;> rfl
    case hn9002 => rfl
    case hc9002 => exact (hmask.out w' (HBW.out.trans (hw'.mono HBW.out.size))).mono (by rintro e w3 ⟨rfl, hb3⟩; rw [hme]; exact ⟨rfl, below_chain hw' hb3⟩)
    simp only [Act.put, List.setIfInBounds_toArray, List.set_cons_zero, List.set_cons_succ]
    refine calm_take (by rfl) ?v9003 (fun w' hw' => ?hy9003) ?rest9003
    case hy9003 => go_simp <;> first | rfl | skip
    simp only [Act.put, List.setIfInBounds_toArray, List.set_cons_zero, List.set_cons_succ]
    refine calm_take (by rfl) ?v9004 (fun w' hw' => ?hy9004) ?rest9004
    case hy9004 => go_simp <;> first | rfl | skip
    simp only [Act.put, List.setIfInBounds_toArray, List.set_cons_zero, List.set_cons_succ]
    refine calm_skip (by rfl) ?_
    simp only [Act.put, List.setIfInBounds_toArray, List.set_cons_zero, List.set_cons_succ]
    refine calm_skip (by rfl) ?_
    simp only [Act.put, List.setIfInBounds_toArray, List.set_cons_zero, List.set_cons_succ]
    refine calm_skip (by rfl) ?_
    simp only [Act.put, List.setIfInBounds_toArray, List.set_cons_zero, List.set_cons_succ]
    refine calm_skip (by rfl) ?_
    simp only [Act.put, List.setIfInBounds_toArray, List.set_cons_zero, List.set_cons_succ]
    refine calm_skip (by rfl) ?_
    simp only [Act.put, List.setIfInBounds_toArray, List.set_cons_zero, List.set_cons_succ]
    refine calm_skip (by rfl) ?_
    simp only [Act.put, List.setIfInBounds_toArray, List.set_cons_zero, List.set_cons_succ]
    refine calm_take (by rfl) ?v9011 (fun w' hw' => ?hy9011) ?rest9011
    case hy9011 => go_simp <;> first | rfl | skip
    simp only [Act.put, List.setIfInBounds_toArray, List.set_cons_zero, List.set_cons_succ]
    refine calm_take (by rfl) ?v9012 (fun w' hw' => ?hy9012) ?rest9012
    case hy9012 => go_simp <;> first | rfl | skip
    simp only [Act.put, List.setIfInBounds_toArray, List.set_cons_zero, List.set_cons_succ]
    refine calm_skip (by rfl) ?_
    simp only [Act.put, List.setIfInBounds_toArray, List.set_cons_zero, List.set_cons_succ]
    refine calm_skip (by rfl) ?_
    simp only [Act.put, List.setIfInBounds_toArray, List.set_cons_zero, List.set_cons_succ]
    refine calm_skip (by rfl) ?_
    simp only [Act.put, List.setIfInBounds_toArray, List.set_cons_zero, List.set_cons_succ]
    refine calm_skip (by rfl) ?_
    simp only [Act.put, List.setIfInBounds_toArray, List.set_cons_zero, List.set_cons_succ]
    refine calm_skip (by rfl) ?_
    simp only [Act.put, List.setIfInBounds_toArray, List.set_cons_zero, List.set_cons_succ]
    refine calm_skip (by rfl) ?_
    simp only [Act.put, List.setIfInBounds_toArray, List.set_cons_zero, List.set_cons_succ]
    refine calm_take (by rfl) ?v9019 (fun w' hw' => ?hy9019) ?rest9019
    case hy9019 => go_simp <;> first | rfl | skip
    simp only [Act.put, List.setIfInBounds_toArray, List.set_cons_zero, List.set_cons_succ]
    refine calm_take (by rfl) ?v9020 (fun w' hw' => ?hy9020) ?rest9020
    case hy9020 => go_simp <;> first | rfl | skip
    simp only [Act.put, List.setIfInBounds_toArray, List.set_cons_zero, List.set_cons_succ]
    refine wpQuiet_nil (fun w' hw' => ?_)
    go_wp2
    go_ret
    exact ⟨ret_int HD.out, HBW.out.trans (hw'.mono HBW.out.size)⟩
  · have hme : maskErr c.m c.bits = 0 := by rw [maskErr, if_pos hm]
    by_cases hmn : c.m = c.n
    rotate_left
    · have hmn2 : (c.m != c.n) = true := by simpa using hmn
      have HD := Aside.mk (checkC_len HO.out hmn)
      clear hm hmn
      refine wp_region_calm (by kernel_rfl) (by kernel_rfl) ?_
      refine calm_take (by rfl) ?v10000 (fun w' hw' => ?hy10000) ?rest10000
      case hy10000 => go_simp <;> first | rfl | skip
      simp only [Act.put, List.setIfInBounds_toArray, List.set_cons_zero, List.set_cons_succ]
      refine calm_take (by rfl) ?v10001 (fun w' hw' => ?hy10001) ?rest10001
      case hy10001 => obtain ⟨r0, r1, r2, r3, r4, r5, r6, r7⟩ := cells8_next HS.out hw'; go_simp <;> first | rfl | skip
      simp only [Act.put, List.setIfInBounds_toArray, List.set_cons_zero, List.set_cons_succ]
      refine' calm_call (by rfl) (.int .i64 0) ?nx10002 (fun w' => ?hr10002) _ _ ?hn10002 (fun w' hw' => ?hc10002) ?rest10002
      case hr10002 => go_simp <;> rfl
      case hn10002 => rfl
      case hc10002 => exact (hmask.out w' (HBW.out.trans (hw'.mono HBW.out.size))).mono (by rintro e w3 ⟨rfl, hb3⟩; rw [hme]; exact ⟨rfl, below_chain hw' hb3⟩)
      simp only [Act.put, List.setIfInBounds_toArray, List.set_cons_zero, List.set_cons_succ]
      refine calm_take (by rfl) ?v10003 (fun w' hw' => ?hy10003) ?rest10003
      case hy10003 => go_simp <;> first | rfl | skip
      simp only [Act.put, List.setIfInBounds_toArray, List.set_cons_zero, List.set_cons_succ]
      refine calm_take (by rfl) ?v10004 (fun w' hw' => ?hy10004) ?rest10004
      case hy10004 => go_simp <;> first | rfl | skip
      simp only [Act.put, List.setIfInBounds_toArray, List.set_cons_zero, List.set_cons_succ]
      refine calm_take (by rfl) ?v10005 (fun w' hw' => ?hy10005) ?rest10005
      case hy10005 => go_simp <;> first | rfl | skip
      simp only [Act.put, List.setIfInBounds_toArray, List.set_cons_zero, List.set_cons_succ]
      refine calm_take (by rfl) ?v10006 (fun w' hw' => ?hy10006) ?rest10006
      case hy10006 => go_simp <;> first | rfl | skip
      simp only [Act.put, List.setIfInBounds_toArray, List.set_cons_zero, List.set_cons_succ]
      refine calm_take (by rfl) ?v10007 (fun w' hw' => ?hy10007) ?rest10007
      case hy10007 => obtain ⟨r0, r1, r2, r3, r4, r5, r6, r7⟩ := cells8_next HS.out hw'; go_simp <;> first | rfl | skip
      simp only [Act.put, List.setIfInBounds_toArray, List.set_cons_zero, List.set_cons_succ]
      refine calm_take (by rfl) ?v10008 (fun w' hw' => ?hy10008) ?rest10008
      case hy10008 => go_simp <;> first | rfl | skip
      simp only [Act.put, List.setIfInBounds_toArray, List.set_cons_zero, List.set_cons_succ]
      refine calm_take (by rfl) ?v10009 (fun w' hw' => ?hy10009) ?rest10009
      case hy10009 => obtain ⟨r0, r1, r2, r3, r4, r5, r6, r7⟩ := cells8_next HS.out hw'; go_simp <;> first | rfl | skip
      simp only [Act.put, List.setIfInBounds_toArray, List.set_cons_zero, List.set_cons_succ]
      refine calm_take (by rfl) ?v10010 (fun w' hw' => ?hy10010) ?rest10010
      case hy10010 => go_simp <;> first | rfl | skip
      simp only [Act.put, List.setIfInBounds_toArray, List.set_cons_zero, List.set_cons_succ]
      refine calm_take (by rfl) ?v10011 (fun w' hw' => ?hy10011) ?rest10011
      case hy10011 => go_simp <;> first | rfl | skip
      simp only [Act.put, List.setIfInBounds_toArray, List.set_cons_zero, List.set_cons_succ]
      refine calm_take (by rfl) ?v10012 (fun w' hw' => ?hy10012) ?rest10012
      case hy10012 => go_simp <;> first | rfl | skip
      simp only [Act.put, List.setIfInBounds_toArray, List.set_cons_zero, List.set_cons_succ]
      refine calm_skip (by rfl) ?_
      simp only [Act.put, List.setIfInBounds_toArray, List.set_cons_zero, List.set_cons_succ]
      refine calm_skip (by rfl) ?_
      simp only [Act.put, List.setIfInBounds_toArray, List.set_cons_zero, List.set_cons_succ]
      refine calm_skip (by rfl) ?_
      simp only [Act.put, List.setIfInBounds_toArray, List.set_cons_zero, List.set_cons_succ]
      refine calm_skip (by rfl) ?_
      simp only [Act.put, List.setIfInBounds_toArray, List.set_cons_zero, List.set_cons_succ]
      refine calm_skip (by rfl) ?_
      simp only [Act.put, List.setIfInBounds_toArray, List.set_cons_zero, List.set_cons_succ]
      refine calm_skip (by rfl) ?_
      simp only [Act.put, List.setIfInBounds_toArray, List.set_cons_zero, List.set_cons_succ]
      refine calm_take (by rfl) ?v10019 (fun w' hw' => ?hy10019) ?rest10019
      case hy10019 => go_simp <;> first | rfl | skip
      simp only [Act.put, List.setIfInBounds_toArray, List.set_cons_zero, List.set_cons_succ]
      refine calm_take (by rfl) ?v10020 (fun w' hw' => ?hy10020) ?rest10020
      case hy10020 => go_simp <;> first | rfl | skip
      simp only [Act.put, List.setIfInBounds_toArray, List.set_cons_zero, List.set_cons_succ]
      refine wpQuiet_nil (fun w' hw' => ?_)
      go_wp2
      go_ret
      exact ⟨ret_int HD.out, HBW.out.trans (hw'.mono HBW.out.size)⟩
    · have hmn2 : (c.m != c.n) = false := by simpa using hmn
      have HD := Aside.mk (checkC_may HO.out hm hmn)
      have hmay2 := Aside.mk (hmay.out (by rw [← hmn]; exact mask_room hm))
      rw [HMB.out] at HD
      clear hm hmn hmay
      generalize mayFixed c.k c.s W c = mb at *
      cases mb with
      | true =>
        refine wp_region_calm (by kernel_rfl) (by kernel_rfl) ?_
        refine calm_take (by rfl) ?v11000 (fun w' hw' => ?hy11000) ?rest11000
        case hy11000 => go_simp <;> first | rfl | skip
        simp only [Act.put, List.setIfInBounds_toArray, List.set_cons_zero, List.set_cons_succ]
        refine calm_take (by rfl) ?v11001 (fun w' hw' => ?hy11001) ?rest11001
        case hy11001 => obtain ⟨r0, r1, r2, r3, r4, r5, r6, r7⟩ := cells8_next HS.out hw'; go_simp <;> first | rfl | skip
        simp only [Act.put, List.setIfInBounds_toArray, List.set_cons_zero, List.set_cons_succ]
        refine' calm_call (by rfl) (.int .i64 0) ?nx11002 (fun w' => ?hr11002) _ _ ?hn11002 (fun w' hw' => ?hc11002) ?rest11002
        case hr11002 => go_simp <;> rfl
        case hn11002 => rfl
        case hc11002 => exact (hmask.out w' (HBW.out.trans (hw'.mono HBW.out.size))).mono (by rintro e w3 ⟨rfl, hb3⟩; rw [hme]; exact ⟨rfl, below_chain hw' hb3⟩)
        simp only [Act.put, List.setIfInBounds_toArray, List.set_cons_zero, List.set_cons_succ]
        refine calm_take (by rfl) ?v11003 (fun w' hw' => ?hy11003) ?rest11003
        case hy11003 => go_simp <;> first | rfl | skip
        simp only [Act.put, List.setIfInBounds_toArray, List.set_cons_zero, List.set_cons_succ]
        refine calm_take (by rfl) ?v11004 (fun w' hw' => ?hy11004) ?rest11004
        case hy11004 => go_simp <;> first | rfl | skip
        simp only [Act.put, List.setIfInBounds_toArray, List.set_cons_zero, List.set_cons_succ]
        refine calm_take (by rfl) ?v11005 (fun w' hw' => ?hy11005) ?rest11005
        case hy11005 => go_simp <;> first | rfl | skip
        simp only [Act.put, List.setIfInBounds_toArray, List.set_cons_zero, List.set_cons_succ]
        refine calm_take (by rfl) ?v11006 (fun w' hw' => ?hy11006) ?rest11006
        case hy11006 => go_simp <;> first | rfl | skip
        simp only [Act.put, List.setIfInBounds_toArray, List.set_cons_zero, List.set_cons_succ]
        refine calm_take (by rfl) ?v11007 (fun w' hw' => ?hy11007) ?rest11007
        case hy11007 => obtain ⟨r0, r1, r2, r3, r4, r5, r6, r7⟩ := cells8_next HS.out hw'; go_simp <;> first | rfl | skip
        simp only [Act.put, List.setIfInBounds_toArray, List.set_cons_zero, List.set_cons_succ]
        refine calm_take (by rfl) ?v11008 (fun w' hw' => ?hy11008) ?rest11008
        case hy11008 => go_simp <;> first | rfl | skip
        simp only [Act.put, List.setIfInBounds_toArray, List.set_cons_zero, List.set_cons_succ]
        refine calm_take (by rfl) ?v11009 (fun w' hw' => ?hy11009) ?rest11009
        case hy11009 => obtain ⟨r0, r1, r2, r3, r4, r5, r6, r7⟩ := cells8_next HS.out hw'; go_simp <;> first | rfl | skip
        simp only [Act.put, List.setIfInBounds_toArray, List.set_cons_zero, List.set_cons_succ]
        refine calm_take (by rfl) ?v11010 (fun w' hw' => ?hy11010) ?rest11010
        case hy11010 => go_simp <;> first | rfl | skip
        simp only [Act.put, List.setIfInBounds_toArray, List.set_cons_zero, List.set_cons_succ]
        refine calm_take (by rfl) ?v11011 (fun w' hw' => ?hy11011) ?rest11011
        case hy11011 => go_simp <;> first | rfl | skip
        simp only [Act.put, List.setIfInBounds_toArray, List.set_cons_zero, List.set_cons_succ]
        refine calm_take (by rfl) ?v11012 (fun w' hw' => ?hy11012) ?rest11012
        case hy11012 => go_simp <;> first | rfl | skip
        simp only [Act.put, List.setIfInBounds_toArray, List.set_cons_zero, List.set_cons_succ]
        refine calm_take (by rfl) ?v11013 (fun w' hw' => ?hy11013) ?rest11013
        case hy11013 => go_simp <;> first | rfl | skip
        simp only [Act.put, List.setIfInBounds_toArray, List.set_cons_zero, List.set_cons_succ]
        refine calm_take (by rfl) ?v11014 (fun w' hw' => ?hy11014) ?rest11014
        case hy11014 => obtain ⟨r0, r1, r2, r3, r4, r5, r6, r7⟩ := cells8_next HS.out hw'; go_simp <;> first | rfl | skip
        simp only [Act.put, List.setIfInBounds_toArray, List.set_cons_zero, List.set_cons_succ]
        refine' calm_call (by rfl) (.iface 165 (.agg #[.int .i64 (W : Int)])) ?nx11015 (fun w' => ?hr11015) _ _ ?hn11015 (fun w' hw' => ?hc11015) ?rest11015
        case hr11015 => go_simp <;> rfl
        case hn11015 => rfl
        case hc11015 => exact (of_f c.k c.s H1.out H2.out HWW.out _).mono (by rintro e w3 ⟨rfl, hb3⟩; exact ⟨rfl, below_chain hw' hb3⟩)
        simp only [Act.put, List.setIfInBounds_toArray, List.set_cons_zero, List.set_cons_succ]
        refine calm_take (by rfl) ?v11016 (fun w' hw' => ?hy11016) ?rest11016
        case hy11016 => obtain ⟨r0, r1, r2, r3, r4, r5, r6, r7⟩ := cells8_next HS.out hw'; go_simp <;> first | rfl | skip
        simp only [Act.put, List.setIfInBounds_toArray, List.set_cons_zero, List.set_cons_succ]
        refine' calm_call (by rfl) (.bool true) ?nx11017 (fun w' => ?hr11017) _ _ ?hn11017 (fun w' hw' => ?hc11017) ?rest11017
        case hr11017 => go_simp <;> rfl
        case hn11017 => rfl
        case hc11017 => exact (hmay2.out w' (HBW.out.trans (hw'.mono HBW.out.size))).mono (by rintro e w3 ⟨rfl, hb3⟩; exact ⟨rfl, below_chain hw' hb3⟩)
        simp only [Act.put, List.setIfInBounds_toArray, List.set_cons_zero, List.set_cons_succ]
        refine calm_take (by rfl) ?v11018 (fun w' hw' => ?hy11018) ?rest11018
        case hy11018 => go_simp <;> first | rfl | skip
        simp only [Act.put, List.setIfInBounds_toArray, List.set_cons_zero, List.set_cons_succ]
        refine calm_take (by rfl) ?v11019 (fun w' hw' => ?hy11019) ?rest11019
        case hy11019 => go_simp <;> first | rfl | skip
        simp only [Act.put, List.setIfInBounds_toArray, List.set_cons_zero, List.set_cons_succ]
        refine calm_take (by rfl) ?v11020 (fun w' hw' => ?hy11020) ?rest11020
        case hy11020 => go_simp <;> first | rfl | skip
        simp only [Act.put, List.setIfInBounds_toArray, List.set_cons_zero, List.set_cons_succ]
        refine wpQuiet_nil (fun w' hw' => ?_)
        go_wp2
        go_ret
        exact ⟨ret_int HD.out, HBW.out.trans (hw'.mono HBW.out.size)⟩
      | false =>
        refine wp_region_calm (by kernel_rfl) (by kernel_rfl) ?_
        refine calm_take (by rfl) ?v12000 (fun w' hw' => ?hy12000) ?rest12000
        case hy12000 => go_simp <;> first | rfl | skip
        simp only [Act.put, List.setIfInBounds_toArray, List.set_cons_zero, List.set_cons_succ]
        refine calm_take (by rfl) ?v12001 (fun w' hw' => ?hy12001) ?rest12001
        case hy12001 => obtain ⟨r0, r1, r2, r3, r4, r5, r6, r7⟩ := cells8_next HS.out hw'; go_simp <;> first | rfl | skip
        simp only [Act.put, List.setIfInBounds_toArray, List.set_cons_zero, List.set_cons_succ]
        refine' calm_call (by rfl) (.int .i64 0) ?nx12002 (fun w' => ?hr12002) _ _ ?hn12002 (fun w' hw' => ?hc12002) ?rest12002
        case hr12002 => go_simp <;> rfl
        case hn12002 => rfl
        case hc12002 => exact (hmask.out w' (HBW.out.trans (hw'.mono HBW.out.size))).mono (by rintro e w3 ⟨rfl, hb3⟩; rw [hme]; exact ⟨rfl, below_chain hw' hb3⟩)
        simp only [Act.put, List.setIfInBounds_toArray, List.set_cons_zero, List.set_cons_succ]
        refine calm_take (by rfl) ?v12003 (fun w' hw' => ?hy12003) ?rest12003
        case hy12003 => go_simp <;> first | rfl | skip
        simp only [Act.put, List.setIfInBounds_toArray, List.set_cons_zero, List.set_cons_succ]
        refine calm_take (by rfl) ?v12004 (fun w' hw' => ?hy12004) ?rest12004
        case hy12004 => go_simp <;> first | rfl | skip
        simp only [Act.put, List.setIfInBounds_toArray, List.set_cons_zero, List.set_cons_succ]
        refine calm_take (by rfl) ?v12005 (fun w' hw' => ?hy12005) ?rest12005
        case hy12005 => go_simp <;> first | rfl | skip
        simp only [Act.put, List.setIfInBounds_toArray, List.set_cons_zero, List.set_cons_succ]
        refine calm_take (by rfl) ?v12006 (fun w' hw' => ?hy12006) ?rest12006
        case hy12006 => go_simp <;> first | rfl | skip
        simp only [Act.put, List.setIfInBounds_toArray, List.set_cons_zero, List.set_cons_succ]
        refine calm_take (by rfl) ?v12007 (fun w' hw' => ?hy12007) ?rest12007
        case hy12007 => obtain ⟨r0, r1, r2, r3, r4, r5, r6, r7⟩ := cells8_next HS.out hw'; go_simp <;> first | rfl | skip
        simp only [Act.put, List.setIfInBounds_toArray, List.set_cons_zero, List.set_cons_succ]
        refine calm_take (by rfl) ?v12008 (fun w' hw' => ?hy12008) ?rest12008
        case hy12008 => go_simp <;> first | rfl | skip
        simp only [Act.put, List.setIfInBounds_toArray, List.set_cons_zero, List.set_cons_succ]
        refine calm_take (by rfl) ?v12009 (fun w' hw' => ?hy12009) ?rest12009
        case hy12009 => obtain ⟨r0, r1, r2, r3, r4, r5, r6, r7⟩ := cells8_next HS.out hw'; go_simp <;> first | rfl | skip
        simp only [Act.put, List.setIfInBounds_toArray, List.set_cons_zero, List.set_cons_succ]
        refine calm_take (by rfl) ?v12010 (fun w' hw' => ?hy12010) ?rest12010
        case hy12010 => go_simp <;> first | rfl | skip
        simp only [Act.put, List.setIfInBounds_toArray, List.set_cons_zero, List.set_cons_succ]
        refine calm_take (by rfl) ?v12011 (fun w' hw' => ?hy12011) ?rest12011
        case hy12011 => go_simp <;> first | rfl | skip
        simp only [Act.put, List.setIfInBounds_toArray, List.set_cons_zero, List.set_cons_succ]
        refine calm_take (by rfl) ?v12012 (fun w' hw' => ?hy12012) ?rest12012
        case hy12012 => go_simp <;> first | rfl | skip
        simp only [Act.put, List.setIfInBounds_toArray, List.set_cons_zero, List.set_cons_succ]
        refine calm_take (by rfl) ?v12013 (fun w' hw' => ?hy12013) ?rest12013
        case hy12013 => go_simp <;> first | rfl | skip
        simp only [Act.put, List.setIfInBounds_toArray, List.set_cons_zero, List.set_cons_succ]
        refine calm_take (by rfl) ?v12014 (fun w' hw' => ?hy12014) ?rest12014
        case hy12014 => obtain ⟨r0, r1, r2, r3, r4, r5, r6, r7⟩ := cells8_next HS.out hw'; go_simp <;> first | rfl | skip
        simp only [Act.put, List.setIfInBounds_toArray, List.set_cons_zero, List.set_cons_succ]
        refine' calm_call (by rfl) (.iface 165 (.agg #[.int .i64 (W : Int)])) ?nx12015 (fun w' => ?hr12015) _ _ ?hn12015 (fun w' hw' => ?hc12015) ?rest12015
        case hr12015 => go_simp <;> rfl
        case hn12015 => rfl
        case hc12015 => exact (of_f c.k c.s H1.out H2.out HWW.out _).mono (by rintro e w3 ⟨rfl, hb3⟩; exact ⟨rfl, below_chain hw' hb3⟩)
        simp only [Act.put, List.setIfInBounds_toArray, List.set_cons_zero, List.set_cons_succ]
        refine calm_take (by rfl) ?v12016 (fun w' hw' => ?hy12016) ?rest12016
        case hy12016 => obtain ⟨r0, r1, r2, r3, r4, r5, r6, r7⟩ := cells8_next HS.out hw'; go_simp <;> first | rfl | skip
        simp only [Act.put, List.setIfInBounds_toArray, List.set_cons_zero, List.set_cons_succ]
        refine' calm_call (by rfl) (.bool false) ?nx12017 (fun w' => ?hr12017) _ _ ?hn12017 (fun w' hw' => ?hc12017) ?rest12017
        case hr12017 => go_simp <;> rfl
        case hn12017 => rfl
        case hc12017 => exact (hmay2.out w' (HBW.out.trans (hw'.mono HBW.out.size))).mono (by rintro e w3 ⟨rfl, hb3⟩; exact ⟨rfl, below_chain hw' hb3⟩)
        simp only [Act.put, List.setIfInBounds_toArray, List.set_cons_zero, List.set_cons_succ]
        refine calm_take (by rfl) ?v12018 (fun w' hw' => ?hy12018) ?rest12018
        case hy12018 => go_simp <;> first | rfl | skip
        simp only [Act.put, List.setIfInBounds_toArray, List.set_cons_zero, List.set_cons_succ]
        refine calm_take (by rfl) ?v12019 (fun w' hw' => ?hy12019) ?rest12019
        case hy12019 => go_simp <;> first | rfl | skip
        simp only [Act.put, List.setIfInBounds_toArray, List.set_cons_zero, List.set_cons_succ]
        refine calm_take (by rfl) ?v12020 (fun w' hw' => ?hy12020) ?rest12020
        case hy12020 => go_simp <;> first | rfl | skip
        simp only [Act.put, List.setIfInBounds_toArray, List.set_cons_zero, List.set_cons_succ]
        refine wpQuiet_nil (fun w' hw' => ?_)
        go_wp2
        go_ret
        exact ⟨ret_int HD.out, HBW.out.trans (hw'.mono HBW.out.size)⟩
end Go.Proofs.YtmhjjhaipcgbiaaGreat


namespace Go.Proofs.YtmhjjhaipcgbiaaGreat
open Go.RowKit
set_option linter.unusedVariables false
set_option linter.unusedSimpArgs false
set_option maxRecDepth 100000
set_option maxHeartbeats 1000000
theorem width_eight {k s : Int} (h : okType k s = true) (h1 : k ≠ 15) : ∃ W : Nat, widthOf k = (W : Int) ∧ (W = 1 ∨ W = 2 ∨ W = 4 ∨ W = 8) := by
  unfold okType at h
  simp only [decide_eq_true_eq] at h
  unfold widthOf
  split
  · exact ⟨1, rfl, by omega⟩
  split
  · exact ⟨2, rfl, by omega⟩
  split
  · exact ⟨4, rfl, by omega⟩
  split
  · exact ⟨8, rfl, by omega⟩
  · omega
theorem check_any (c : Col) (hc : COK c) (B D E X : SL) (vals : List Value) (w : World) (h : RdC w c B D E X vals) : Calls Tryz.prog 82 #[colV c B D E X] w (IntP (checkC c) w) := by
  cases ho : okType c.k c.s with
  | false => exact check_no c ho B D E X w
  | true =>
    by_cases h15 : c.k = 15
    · exact check_r c h15 ho hc B D E X vals w h
    by_cases h16 : c.k = 16
    · exact check_c c h16 ho hc B D E X vals w h
    obtain ⟨W, hW, hW8⟩ := width_eight ho h15
    exact check_f c h15 h16 hW hW8 ho hc B D E X vals w h
theorem check_zero {c : Col} (h : checkC c = 0) : okType c.k c.s = true ∧ maskOK c.m c.bits = true ∧ c.m = c.n ∧ mayB c = true := by
  unfold checkC at h
  split at h
  · cases h
  · rename_i h1
    split at h
    · rename_i h2
      simp only [Bool.and_eq_true, beq_iff_eq] at h2
      exact ⟨by simpa using h1, h2.1.1, h2.1.2, h2.2⟩
    · cases h
theorem check_bits {c : Col} (h : checkC c = 0) {i : Nat} (hi : (i : Int) < c.n) : i / 8 < c.bits.length := by
  obtain ⟨_, h2, h3, _⟩ := check_zero h
  have := mask_room h2
  omega
theorem check_room {c : Col} (h : checkC c = 0) (h1 : c.k ≠ 15) (h2 : c.k ≠ 16) {W : Nat} (hW : widthOf c.k = (W : Int)) {i : Nat} (hi : (i : Int) < c.n) : i * W + W ≤ c.data.length := by
  obtain ⟨_, _, _, h4⟩ := check_zero h
  unfold mayB at h4
  rw [if_neg h1, if_neg h2, hW, Int.toNat_natCast, mayFixed_eq] at h4
  simp only [Bool.and_eq_true] at h4
  exact sized_room h4.1.1 i (by omega)
theorem coded_facts {c : Col} (h : checkC c = 0) (h2 : c.k = 16) : sizedB 4 c = true ∧ codedRun c c.n.toNat = some c.words.length := by
  obtain ⟨_, _, _, h4⟩ := check_zero h
  unfold mayB at h4
  rw [if_neg (by omega), if_pos h2] at h4
  unfold mayCoded at h4
  simp only [Bool.and_eq_true, beq_iff_eq] at h4
  exact ⟨h4.1.1, h4.2⟩
theorem codedRun_le {c : Col} : ∀ (n i : Nat) {a b : Nat}, i ≤ n → codedRun c i = some a → codedRun c n = some b → a ≤ b
  | 0, i, a, b, hi, h1, h2 => by
    obtain rfl : i = 0 := by omega
    rw [h1] at h2; cases h2; exact Nat.le_refl _
  | n + 1, i, a, b, hi, h1, h2 => by
    by_cases e : i = n + 1
    · subst e; rw [h1] at h2; cases h2; exact Nat.le_refl _
    · rw [codedRun] at h2
      cases h3 : codedRun c n with
      | none => rw [h3] at h2; cases h2
      | some m =>
        rw [h3, Option.bind_some] at h2
        refine Nat.le_trans (codedRun_le n i (by omega) h1 h3) ?_
        unfold codedStep at h2
        dsimp only at h2
        split at h2
        · cases h2
        split at h2 <;> (cases h2; omega)
theorem codedRun_pre {c : Col} : ∀ (n i : Nat) {b : Nat}, i ≤ n → codedRun c n = some b → ∃ a, codedRun c i = some a
  | 0, i, b, hi, h => by obtain rfl : i = 0 := by omega
                         exact ⟨_, h⟩
  | n + 1, i, b, hi, h => by
    by_cases e : i = n + 1
    · subst e; exact ⟨_, h⟩
    · rw [codedRun] at h
      cases h3 : codedRun c n with
      | none => rw [h3] at h; cases h
      | some m => exact codedRun_pre n i (by omega) h3
theorem check_code {c : Col} (h : checkC c = 0) (h2 : c.k = 16) {i : Nat} (hi : (i : Int) < c.n) (hn : nullB c.bits i = false) : wordAt c.data (i * 4) 4 < c.words.length := by
  obtain ⟨_, hr⟩ := coded_facts h h2
  obtain ⟨a, ha⟩ := codedRun_pre c.n.toNat (i + 1) (by omega) hr
  have hle := codedRun_le c.n.toNat (i + 1) (by omega) ha hr
  obtain ⟨m, hm⟩ := codedRun_pre (i + 1) i (by omega) ha
  rw [codedRun, hm, Option.bind_some] at ha
  unfold codedStep at ha
  rw [hn] at ha
  simp only [Bool.false_and, Bool.false_or, Bool.not_false, Bool.true_and] at ha
  split at ha
  · cases ha
  · rename_i h5
    simp at h5
    split at ha
    · rename_i h6
      simp at h6
      cases ha; omega
    · rename_i h6
      simp at h6
      cases ha; omega
theorem running_facts {c : Col} (h : checkC c = 0) (h2 : c.k = 15) : (c.ends.length : Int) = c.n ∧ (∀ i, i < c.ends.length → okR c i = true) := by
  obtain ⟨_, _, _, h4⟩ := check_zero h
  unfold mayB at h4
  rw [if_pos h2, mayRunning_eq] at h4
  simp only [Bool.and_eq_true, beq_iff_eq, List.all_eq_true] at h4
  exact ⟨h4.1.1.1, fun i hi => h4.1.2 i (List.mem_range.2 hi)⟩
theorem check_ends {c : Col} (h : checkC c = 0) (h2 : c.k = 15) : ∀ i, i < c.ends.length → ∃ f t : Nat, aheadI c.ends i = (f : Int) ∧ c.ends.getD i 0 = (t : Int) ∧ f ≤ t ∧ t ≤ c.data.length := by
  obtain ⟨_, hr⟩ := running_facts h h2
  have step : ∀ i, i < c.ends.length → 0 ≤ aheadI c.ends i → ∃ f t : Nat, aheadI c.ends i = (f : Int) ∧ c.ends.getD i 0 = (t : Int) ∧ f ≤ t ∧ t ≤ c.data.length := fun i hi h0 => by
    have := hr i hi
    unfold okR at this
    simp only [Bool.not_eq_true', Bool.or_eq_false_iff, decide_eq_false_iff_not] at this
    obtain ⟨⟨h5, h6⟩, _⟩ := this
    exact ⟨(aheadI c.ends i).toNat, (c.ends.getD i 0).toNat, by omega, by omega, by omega, by omega⟩
  intro i
  induction i with
  | zero => intro hi; exact step 0 hi (by simp [aheadI])
  | succ i ih =>
    intro hi
    obtain ⟨f, t, _, e2, _, _⟩ := ih (by omega)
    exact step (i + 1) hi (by rw [aheadI, if_neg (by omega), Nat.add_sub_cancel, e2]; omega)
end Go.Proofs.YtmhjjhaipcgbiaaGreat


namespace Go.Proofs.YtmhjjhaipcgbiaaGreat
open Go.RowKit
set_option linter.unusedVariables false
set_option linter.unusedSimpArgs false
set_option maxRecDepth 100000
set_option maxHeartbeats 2000000
def ValP (b : Nat) (tx : List Int) (w : World) (e : Ending) (w' : World) : Prop :=
  ∃ a cap, e = .returned (.agg #[.int .u64 (b : Int), .slice a tx.length cap, .bool false]) ∧ Own w' w.heap.size 5 1 (.slice a tx.length cap) tx.length (tx.map (.int .u8)) ∧ Below w.heap.size w w'
theorem three_new (w : World) (x1 x2 x3 : Array Value) (t1 t2 t3 : TypeId) :
    Below w.heap.size w (((w.alloc (.cells x1 t1)).alloc (.cells x2 t2)).alloc (.cells x3 t3)) ∧
    (((w.alloc (.cells x1 t1)).alloc (.cells x2 t2)).alloc (.cells x3 t3)).heap[w.heap.size]? = some (.cells x1 t1 (0, 0)) ∧
    (((w.alloc (.cells x1 t1)).alloc (.cells x2 t2)).alloc (.cells x3 t3)).heap[w.heap.size + 1]? = some (.cells x2 t2 (0, 0)) ∧
    (((w.alloc (.cells x1 t1)).alloc (.cells x2 t2)).alloc (.cells x3 t3)).heap[w.heap.size + 1 + 1]? = some (.cells x3 t3 (0, 0)) ∧
    (((w.alloc (.cells x1 t1)).alloc (.cells x2 t2)).alloc (.cells x3 t3)).heap.size = w.heap.size + 3 := by
  refine ⟨(((Below.refl _ _).alloc (Nat.le_refl _) _).alloc (by simp) _).alloc (by simp; omega) _, ?_, ?_, ?_, by simp⟩
  · rw [Below.heap_alloc _ _ _ (by simp; omega), Below.heap_alloc _ _ _ (by simp)]; exact heap_alloc_new _ _
  · rw [Below.heap_alloc _ _ _ (by simp)]
    simpa using heap_alloc_new (w.alloc (.cells x1 t1)) (.cells x2 t2)
  · simpa using heap_alloc_new ((w.alloc (.cells x1 t1)).alloc (.cells x2 t2)) (.cells x3 t3)
theorem rd_cut {w : World} {g off n cap i j : Nat} {xs : List Value} (h : Rd w 1 (.slice (some ⟨g, off, none⟩) n cap) n xs) (hij : i ≤ j) (hj : j ≤ n) : Rd w 1 (.slice (some ⟨g, off + i, none⟩) (j - i) (cap - i)) (j - i) ((xs.drop i).take (j - i)) := by
  obtain ⟨hl, a, cap', e, h1, h2, h3, h4⟩ := h
  simp only [Value.slice.injEq, true_and] at e
  obtain ⟨rfl, rfl⟩ := e
  refine ⟨by rw [List.length_take, List.length_drop, hl]; omega, _, _, rfl, by omega, by omega, (fun e => by cases e), fun k u hu => ?_⟩
  have hk := (List.getElem?_eq_some_iff.1 hu).1
  rw [List.length_take, List.length_drop, hl] at hk
  rw [List.getElem?_take, if_pos (by omega), List.getElem?_drop] at hu
  obtain ⟨b, o, e, hc⟩ := h4 (i + k) u hu
  simp only [Option.some.injEq, Addr.mk.injEq, and_true] at e
  obtain ⟨rfl, rfl⟩ := e
  exact ⟨_, _, rfl, by rw [Nat.add_assoc]; exact hc⟩
theorem val_below {w w3 w4 : World} {x1 x2 x3 : Value} (b3 : Below w.heap.size w w3) (b4 : Below w3.heap.size w3 w4) : Below w.heap.size w (((w4.setCell ⟨w.heap.size + 1 + 1, 0, none⟩ x1).setCell ⟨w.heap.size + 1 + 1, 1, none⟩ x2).setCell ⟨w.heap.size + 1 + 1, 2, none⟩ x3) :=
  (((b3.trans (b4.mono b3.size)).setCell (by simp; omega) _).setCell (by simp; omega) _).setCell (by simp; omega) _
theorem val_own {w w3 w4 : World} {x1 x2 x3 v : Value} {n : Nat} {xs : List Value} (hs : w3.heap.size = w.heap.size + 3) (h : Own w4 w3.heap.size 5 1 v n xs) : Own (((w4.setCell ⟨w.heap.size + 1 + 1, 0, none⟩ x1).setCell ⟨w.heap.size + 1 + 1, 1, none⟩ x2).setCell ⟨w.heap.size + 1 + 1, 2, none⟩ x3) w.heap.size 5 1 v n xs := by
  have hne : v.ownBlock ≠ some (w.heap.size + 1 + 1) := fun e => by have := (h.lt _ e).1; omega
  exact (((h.set_other (a := ⟨w.heap.size + 1 + 1, 0, none⟩) hne _).set_other (a := ⟨w.heap.size + 1 + 1, 1, none⟩) hne _).set_other (a := ⟨w.heap.size + 1 + 1, 2, none⟩) hne _).mono (by omega)
theorem value_f (W : Nat) (hW : W = 1 ∨ W = 2 ∨ W = 4 ∨ W = 8) (c : Col) (hc : COK c) (B D E X : SL) (vals : List Value) (i : Nat) (hi : i * W + W ≤ c.data.length) (w : World) (h : RdC w c B D E X vals) :
    Calls Tryz.prog 221 #[.agg #[.int .i64 (W : Int)], colV c B D E X, .int .i64 (i : Int)] w (ValP (wordAt c.data (i * W) W) [] w) := by
  have HR := Aside.mk h
  have HC := Aside.mk hc
  have hword := Aside.mk (fun (w2 : World) (hb : Below w.heap.size w w2) => fword_any W hW c B D E X i hi HC.out.data HC.out.ld w2 (HR.out.data.below hb))
  clear h hc
  dsimp only [colV] at hword ⊢
  go_enter Tryz.func221, Tryz.ntmps221
  go_wp2_with fail
  obtain ⟨b3, _, _, hr3, hs3⟩ := three_new w #[.int .i64 (W : Int)] #[.int .i64 c.k, .int .i64 c.s, .int .i64 c.n, .int .i64 c.m, .slice B.a c.bits.length B.c, .slice D.a c.data.length D.c, .slice E.a c.ends.length E.c, .slice X.a c.words.length X.c] #[.int .u64 0, .slice none 0 0, .bool false] 165 63 145
  have B3 := Aside.mk b3
  have HR3 := Aside.mk hr3
  have HS3 := Aside.mk hs3
  clear b3 hr3 hs3
  generalize (((w.alloc (.cells #[.int .i64 (W : Int)] 165)).alloc (.cells #[.int .i64 c.k, .int .i64 c.s, .int .i64 c.n, .int .i64 c.m, .slice B.a c.bits.length B.c, .slice D.a c.data.length D.c, .slice E.a c.ends.length E.c, .slice X.a c.words.length X.c] 63)).alloc (.cells #[.int .u64 0, .slice none 0 0, .bool false] 145)) = w3 at *
  generalize wordAt c.data (i * W) W = x at *
  refine (hword.out _ B3.out).mono ?_
  rintro e w4 ⟨rfl, hb4⟩
  have hr4 := (hb4.block _ (lt_of_blk HR3.out)).trans HR3.out
  have q0 := cell_blk (k := 0) hr4
  have q1 := cell_blk (k := 1) hr4
  have q2 := cell_blk (k := 2) hr4
  have z0 := frozen_blk (k := 0) hr4
  have z1 := frozen_blk (k := 1) hr4
  have z2 := frozen_blk (k := 2) hr4
  have hlt := lt_of_blk hr4
  simp at q0 q1 q2
  have B4 := Aside.mk hb4
  clear hb4 hr4
  go_wp2
  refine bodyPost_ret (v := .agg #[.int .u64 (x : Int), .slice none 0 0, .bool false]) (by simp [results, Tryz.results221, go_sem, q0, q1, q2]) rfl ?_
  exact ⟨none, 0, rfl, Own.nil _ _ _ _, val_below B3.out B4.out⟩
theorem cell_set3 {W : World} {R g o : Nat} {a b c v : Value} (hne : g ≠ R) (h : W.cell? ⟨g, o, none⟩ = some v) : (((W.setCell ⟨R, 0, none⟩ a).setCell ⟨R, 1, none⟩ b).setCell ⟨R, 2, none⟩ c).cell? ⟨g, o, none⟩ = some v := by
  have h1 := Below.heap_setCell W ⟨R, 0, none⟩ a g hne
  have h2 := Below.heap_setCell (W.setCell ⟨R, 0, none⟩ a) ⟨R, 1, none⟩ b g hne
  have h3 := Below.heap_setCell ((W.setCell ⟨R, 0, none⟩ a).setCell ⟨R, 1, none⟩ b) ⟨R, 2, none⟩ c g hne
  exact (World.cell?_of_block (w := W) (h3.trans (h2.trans h1))).trans h
theorem value_c (c : Col) (hc : COK c) (B D E X : SL) (vals : List Value) (i : Nat) (hi : i * 4 + 4 ≤ c.data.length) (hx : wordAt c.data (i * 4) 4 < c.words.length) (w : World) (h : RdC w c B D E X vals) :
    Calls Tryz.prog 224 #[.agg #[.int .i64 4], colV c B D E X, .int .i64 (i : Int)] w (ValP 0 (c.words.getD (wordAt c.data (i * 4) 4) []) w) := by
  obtain ⟨xa, xc⟩ := X
  have HR := Aside.mk h
  have HC := Aside.mk hc
  have hword := Aside.mk (fun (w2 : World) (hb : Below w.heap.size w w2) => fword_4 c B D E ⟨xa, xc⟩ i hi HC.out.data HC.out.ld w2 (HR.out.data.below hb))
  have hlw := HC.out.lw
  clear h hc
  dsimp only [colV] at hword ⊢
  obtain ⟨ta, tc, hv, ht⟩ := HR.out.each.2 _ _ (List.getElem?_eq_getElem hx)
  have hvl := HR.out.each.1
  obtain ⟨eb, eo, ecap, hs, hel, hecap, hcE⟩ := HR.out.words.some_ (by omega)
  simp only [Value.slice.injEq, true_and] at hs
  obtain ⟨rfl, rfl⟩ := hs
  have HCE := Aside.mk (hcE _ _ hv)
  have HT := Aside.mk ht
  have hgd : c.words.getD (wordAt c.data (i * 4) 4) [] = c.words[wordAt c.data (i * 4) 4] := by rw [List.getD_eq_getElem?_getD, List.getElem?_eq_getElem hx]; rfl
  have htl : c.words[wordAt c.data (i * 4) 4].length ≤ 1000000000 := Nat.le_trans (HC.out.words _ (List.getElem_mem hx)).2 (by decide)
  rw [hgd]
  clear hgd hcE hv ht hvl
  generalize c.words[wordAt c.data (i * 4) 4] = t at *
  generalize wordAt c.data (i * 4) 4 = x at *
  have HCL := Aside.mk (fun (w2 : World) (hb : Below w.heap.size w w2) => clone_bytes (.slice ta t.length tc) t.length _ w2 htl (HT.out.below hb) (one_map (fun x : Int => Value.int .u8 x) (fun _ => rfl) t))
  have heb : eb < w.heap.size := World.block_lt_of_cell? _ _ HCE.out
  have hne : eb ≠ w.heap.size + 1 + 1 := by omega
  go_enter Tryz.func224, Tryz.ntmps224
  go_wp2_with fail
  obtain ⟨b3, hf3, hx3, hr3, hs3⟩ := three_new w #[.int .i64 4] #[.int .i64 c.k, .int .i64 c.s, .int .i64 c.n, .int .i64 c.m, .slice B.a c.bits.length B.c, .slice D.a c.data.length D.c, .slice E.a c.ends.length E.c, .slice (some ⟨eb, eo, none⟩) c.words.length xc] #[.int .u64 0, .slice none 0 0, .bool false] 167 63 145
  have B3 := Aside.mk b3
  have HF3 := Aside.mk hf3
  have HX3 := Aside.mk hx3
  have HR3 := Aside.mk hr3
  have HS3 := Aside.mk hs3
  have HE3 := Aside.mk ((b3.cell (p := ⟨eb, eo + x, none⟩) (World.block_lt_of_cell? _ _ HCE.out)).trans HCE.out)
  clear b3 hf3 hx3 hr3 hs3
  generalize (((w.alloc (.cells #[.int .i64 4] 167)).alloc (.cells #[.int .i64 c.k, .int .i64 c.s, .int .i64 c.n, .int .i64 c.m, .slice B.a c.bits.length B.c, .slice D.a c.data.length D.c, .slice E.a c.ends.length E.c, .slice (some ⟨eb, eo, none⟩) c.words.length xc] 63)).alloc (.cells #[.int .u64 0, .slice none 0 0, .bool false] 145)) = w3 at *
  obtain ⟨p0, p1, p2, p3, p4, p5, p6, p7⟩ := box8 HX3.out
  have pf := cell_blk (k := 0) HF3.out
  have pe := HE3.out
  simp at pf
  go_region_held3 (fun w' => w'.cell? ⟨w.heap.size + 1, 0, none⟩ = some (.int .i64 c.k) ∧ w'.cell? ⟨w.heap.size + 1, 1, none⟩ = some (.int .i64 c.s) ∧ w'.cell? ⟨w.heap.size + 1, 2, none⟩ = some (.int .i64 c.n) ∧ w'.cell? ⟨w.heap.size + 1, 3, none⟩ = some (.int .i64 c.m) ∧ w'.cell? ⟨w.heap.size + 1, 4, none⟩ = some (.slice B.a c.bits.length B.c) ∧ w'.cell? ⟨w.heap.size + 1, 5, none⟩ = some (.slice D.a c.data.length D.c) ∧ w'.cell? ⟨w.heap.size + 1, 6, none⟩ = some (.slice E.a c.ends.length E.c) ∧ w'.cell? ⟨w.heap.size + 1, 7, none⟩ = some (.slice (some ⟨eb, eo, none⟩) c.words.length xc) ∧ w'.cell? ⟨w.heap.size, 0, none⟩ = some (.int .i64 4) ∧ w'.cell? ⟨eb, eo + x, none⟩ = some (.slice ta t.length tc))
    (first | (refine ⟨?_, ?_, ?_, ?_, ?_, ?_, ?_, ?_, ?_, ?_⟩ <;> assumption) | (refine ⟨?_, ?_, ?_, ?_, ?_, ?_, ?_, ?_, ?_, ?_⟩ <;> exact cell_set3 (by omega) (by assumption)))
    (first
      | (go_at_call 88; refine (hword.out _ (below_chain B3.out (by repeat (first | exact Below.refl _ _ | exact below_drew1 _ | (refine below_chain ?_ (by assumption)))))).mono ?_; rintro e wK ⟨rfl, hbK⟩; (first | (replace hbK := undrew hbK) | skip); have hcK : Below w3.heap.size w3 wK := (by repeat (first | exact Below.refl _ _ | exact below_drew1 _ | (refine below_chain ?_ (by assumption)))); obtain ⟨k0, k1, k2, k3, k4, k5, k6, k7⟩ := box8 ((hcK.block _ (lt_of_blk HX3.out)).trans HX3.out); have kf := cell_blk (k := 0) ((hcK.block _ (lt_of_blk HF3.out)).trans HF3.out); have ke := (hcK.cell (p := ⟨eb, eo + x, none⟩) (World.block_lt_of_cell? _ _ HE3.out)).trans HE3.out; simp at kf; clear hcK)
      | (go_at_call 91; refine (HCL.out _ (below_chain B3.out (by repeat (first | exact Below.refl _ _ | exact below_drew1 _ | (refine below_chain ?_ (by assumption)))))).mono ?_; rintro e wL ⟨v', rfl, ho, hbL⟩; obtain ⟨va, vc, rfl⟩ := ho.form; have HO := Aside.mk ho; clear ho; (first | (replace hbL := undrew hbL) | skip); have hcL : Below w3.heap.size w3 wL := (by repeat (first | exact Below.refl _ _ | exact below_drew1 _ | (refine below_chain ?_ (by assumption)))); have B4 := Aside.mk hcL; obtain ⟨l0, l1, l2, l3, l4, l5, l6, l7⟩ := box8 ((hcL.block _ (lt_of_blk HX3.out)).trans HX3.out); have lf := cell_blk (k := 0) ((hcL.block _ (lt_of_blk HF3.out)).trans HF3.out); have le := (hcL.cell (p := ⟨eb, eo + x, none⟩) (World.block_lt_of_cell? _ _ HE3.out)).trans HE3.out; have hr4 := (hcL.block _ (lt_of_blk HR3.out)).trans HR3.out; have q0 := cell_blk (k := 0) hr4; have q1 := cell_blk (k := 1) hr4; have q2 := cell_blk (k := 2) hr4; have z0 := frozen_blk (k := 0) hr4; have z1 := frozen_blk (k := 1) hr4; have z2 := frozen_blk (k := 2) hr4; simp at q0 q1 q2 lf; clear hcL hr4))
  go_wp2
  refine bodyPost_ret (v := .agg #[.int .u64 0, .slice va t.length vc, .bool false]) (by simp [results, Tryz.results224, go_sem, q0, q1, q2]) rfl ?_
  exact ⟨va, vc, rfl, val_own HS3.out (HO.out.mono hbK.size), val_below B3.out B4.out⟩
end Go.Proofs.YtmhjjhaipcgbiaaGreat


namespace Go.Proofs.YtmhjjhaipcgbiaaGreat
open Go.RowKit
set_option linter.unusedVariables false
set_option linter.unusedSimpArgs false
set_option maxRecDepth 100000
set_option maxHeartbeats 3000000
theorem rd_cut2 {w : World} {g off n cap i j : Nat} {xs : List Value} (h : Rd w 1 (.slice (some ⟨g, off, none⟩) n cap) n xs) (hij : i ≤ j) (hj : j ≤ n) : Rd w 1 (.slice (if cap = i then some ⟨g, off, none⟩ else some ⟨g, off + i, none⟩) (j - i) (cap - i)) (j - i) ((xs.drop i).take (j - i)) := by
  split
  · rename_i e
    obtain ⟨hl, a, cap', e', h1, h2, h3, h4⟩ := h
    simp only [Value.slice.injEq, true_and] at e'
    obtain ⟨rfl, rfl⟩ := e'
    obtain rfl : j = i := by omega
    rw [Nat.sub_self, List.take_zero, ← e]
    exact ⟨by simp, _, _, rfl, Nat.zero_le _, by omega, (fun e => by cases e), fun k u hu => by simp at hu⟩
  · exact rd_cut h hij hj
theorem value_r (c : Col) (hc : COK c) (B D E X : SL) (vals : List Value) (i f t : Nat) (hi : i < c.ends.length) (hf : aheadI c.ends i = (f : Int)) (ht : c.ends.getD i 0 = (t : Int)) (hft : f ≤ t) (htd : t ≤ c.data.length) (g off : Nat) (hD : D.a = some ⟨g, off, none⟩) (w : World) (h : RdC w c B D E X vals) :
    Calls Tryz.prog 219 #[.agg #[], colV c B D E X, .int .i64 (i : Int)] w (ValP 0 ((c.data.drop f).take (t - f)) w) := by
  obtain ⟨ea, ec⟩ := E
  obtain ⟨da, dc⟩ := D
  obtain rfl : da = some ⟨g, off, none⟩ := hD
  have HR := Aside.mk h
  have HC := Aside.mk hc
  have hah := Aside.mk (fun (w2 : World) (hb : Below w.heap.size w w2) => show Calls Tryz.prog 87 _ w2 (IntP (f : Int) w2) from hf ▸ cahead_any c B ⟨some ⟨g, off, none⟩, dc⟩ ⟨ea, ec⟩ X i (by omega) HC.out.le w2 (HR.out.ends.below hb))
  have hle := HC.out.le
  have hld := HC.out.ld
  clear h hc
  dsimp only [colV] at hah ⊢
  obtain ⟨eb, eo, ecap, hs, hel, hecap, hcE⟩ := rd_get HR.out.ends i hi
  simp only [Value.slice.injEq, true_and] at hs
  obtain ⟨rfl, rfl⟩ := hs
  rw [ht] at hcE
  have HCE := Aside.mk hcE
  have hdm := HR.out.data.max
  obtain ⟨_, da', dcap', hds, hdl, hdc, _, _⟩ := HR.out.data
  simp only [Value.slice.injEq, true_and] at hds
  obtain ⟨hda, hdcc⟩ := hds
  rw [← hdcc] at hdl hdc
  have hdc2 : dc ≤ 9223372036854775807 := by unfold maxLen at hdc; omega
  clear hda hdcc hdc hdm
  have htc : t ≤ dc := Nat.le_trans htd hdl
  have HT := Aside.mk (rd_cut2 HR.out.data hft htd)
  have hxl : ((c.data.drop f).take (t - f)).length = t - f := by rw [List.length_take, List.length_drop]; omega
  have e1 : ((c.data.map (Value.int .u8)).drop f).take (t - f) = ((c.data.drop f).take (t - f)).map (Value.int .u8) := by rw [List.map_take, List.map_drop]
  rw [e1] at HT
  have HXL := Aside.mk hxl
  have HCL := Aside.mk (fun (w2 : World) (hb : Below w.heap.size w w2) => clone_bytes (.slice (if dc = f then some ⟨g, off, none⟩ else some ⟨g, off + f, none⟩) (t - f) (dc - f)) (t - f) _ w2 (by omega) (HT.out.below hb) (one_map (fun x : Int => Value.int .u8 x) (fun _ => rfl) ((c.data.drop f).take (t - f))))
  clear hf ht hcE hxl e1
  generalize (c.data.drop f).take (t - f) = tx at *
  have heb : eb < w.heap.size := World.block_lt_of_cell? _ _ HCE.out
  have hne : eb ≠ w.heap.size + 1 + 1 := by omega
  go_enter Tryz.func219, Tryz.ntmps219
  go_wp2_with fail
  obtain ⟨b3, hf3, hx3, hr3, hs3⟩ := three_new w #[] #[.int .i64 c.k, .int .i64 c.s, .int .i64 c.n, .int .i64 c.m, .slice B.a c.bits.length B.c, .slice (some ⟨g, off, none⟩) c.data.length dc, .slice (some ⟨eb, eo, none⟩) c.ends.length ec, .slice X.a c.words.length X.c] #[.int .u64 0, .slice none 0 0, .bool false] 162 63 145
  have B3 := Aside.mk b3
  have HX3 := Aside.mk hx3
  have HR3 := Aside.mk hr3
  have HS3 := Aside.mk hs3
  have HE3 := Aside.mk ((b3.cell (p := ⟨eb, eo + i, none⟩) (World.block_lt_of_cell? _ _ HCE.out)).trans HCE.out)
  clear b3 hf3 hx3 hr3 hs3
  generalize (((w.alloc (.cells #[] 162)).alloc (.cells #[.int .i64 c.k, .int .i64 c.s, .int .i64 c.n, .int .i64 c.m, .slice B.a c.bits.length B.c, .slice (some ⟨g, off, none⟩) c.data.length dc, .slice (some ⟨eb, eo, none⟩) c.ends.length ec, .slice X.a c.words.length X.c] 63)).alloc (.cells #[.int .u64 0, .slice none 0 0, .bool false] 145)) = w3 at *
  obtain ⟨p0, p1, p2, p3, p4, p5, p6, p7⟩ := box8 HX3.out
  have pe := HE3.out
  go_region_law (first
    | (refine step_call (P := Tryz.prog) w3.drew (by rfl) 87 [.tmp 9, .tmp 10] _ (by rfl) [.agg #[.int .i64 c.k, .int .i64 c.s, .int .i64 c.n, .int .i64 c.m, .slice B.a c.bits.length B.c, .slice (some ⟨g, off, none⟩) c.data.length dc, .slice (some ⟨eb, eo, none⟩) c.ends.length ec, .slice X.a c.words.length X.c], .int .i64 (i : Int)] (by rfl) (fun _ _ => rfl) (hah.out w3.drew (B3.out.trans (below_drewN _ _ 1))) ?_; rintro e wK ⟨rfl, hbK⟩; replace hbK := undrew hbK; have hcK : Below w3.heap.size w3 wK := hbK; obtain ⟨k0, k1, k2, k3, k4, k5, k6, k7⟩ := box8 ((hcK.block _ (lt_of_blk HX3.out)).trans HX3.out); have ke := (hcK.cell (p := ⟨eb, eo + i, none⟩) (World.block_lt_of_cell? _ _ HE3.out)).trans HE3.out; have HBK := Aside.mk hbK; clear hcK hbK; refine ⟨_, rfl, ?_⟩)
    | (refine step_call (P := Tryz.prog) wK (by rfl) 91 [.tmp 17] _ (by rfl) [.slice (if dc = f then some ⟨g, off, none⟩ else some ⟨g, off + f, none⟩) (t - f) (dc - f)] (by rfl) (fun _ _ => rfl) (HCL.out wK (B3.out.trans (HBK.out.mono B3.out.size))) ?_; rintro e wL ⟨v', rfl, ho, hbL⟩; obtain ⟨va, vc, rfl⟩ := ho.form; have HO := Aside.mk ho; clear ho; have B4 := Aside.mk (HBK.out.trans (hbL.mono HBK.out.size)); have hr4 := (B4.out.block _ (lt_of_blk HR3.out)).trans HR3.out; have q0 := cell_blk (k := 0) hr4; have q1 := cell_blk (k := 1) hr4; have q2 := cell_blk (k := 2) hr4; have z0 := frozen_blk (k := 0) hr4; have z1 := frozen_blk (k := 1) hr4; have z2 := frozen_blk (k := 2) hr4; simp at q0 q1 q2; clear hr4 hbL; refine ⟨_, rfl, ?_⟩))
  all_goals
    go_wp2
    all_goals refine bodyPost_ret (v := .agg #[.int .u64 0, .slice va (t - f) vc, .bool false]) (by simp [results, Tryz.results219, go_sem, q0, q1, q2]) rfl ?_
    all_goals exact ⟨va, vc, by rw [HXL.out]; rfl, by rw [HXL.out]; exact val_own HS3.out (HO.out.mono HBK.out.size), val_below B3.out B4.out⟩
end Go.Proofs.YtmhjjhaipcgbiaaGreat


namespace Go.Proofs.YtmhjjhaipcgbiaaGreat
open Go.RowKit
set_option linter.unusedVariables false
set_option linter.unusedSimpArgs false
set_option maxRecDepth 100000
set_option maxHeartbeats 1500000
theorem value_r0 (c : Col) (hc : COK c) (B D E X : SL) (vals : List Value) (i : Nat) (hi : i < c.ends.length) (hf : aheadI c.ends i = 0) (ht : c.ends.getD i 0 = 0) (hD : D.a = none) (w : World) (h : RdC w c B D E X vals) :
    Calls Tryz.prog 219 #[.agg #[], colV c B D E X, .int .i64 (i : Int)] w (ValP 0 [] w) := by
  obtain ⟨ea, ec⟩ := E
  obtain ⟨da, dc⟩ := D
  obtain rfl : da = none := hD
  have HR := Aside.mk h
  have HC := Aside.mk hc
  have hah := Aside.mk (fun (w2 : World) (hb : Below w.heap.size w w2) => show Calls Tryz.prog 87 _ w2 (IntP 0 w2) from hf ▸ cahead_any c B ⟨none, dc⟩ ⟨ea, ec⟩ X i (by omega) HC.out.le w2 (HR.out.ends.below hb))
  have hle := HC.out.le
  have hld := HC.out.ld
  clear h hc
  dsimp only [colV] at hah ⊢
  obtain ⟨eb, eo, ecap, hs, hel, hecap, hcE⟩ := rd_get HR.out.ends i hi
  simp only [Value.slice.injEq, true_and] at hs
  obtain ⟨rfl, rfl⟩ := hs
  rw [ht] at hcE
  have HCE := Aside.mk hcE
  obtain ⟨_, da', dcap', hds, hdl, hdc, h0, _⟩ := HR.out.data
  simp only [Value.slice.injEq, true_and] at hds
  obtain ⟨rfl, rfl⟩ := hds
  obtain ⟨e0, rfl⟩ := h0 rfl
  have HCL := Aside.mk (fun (w2 : World) (hb : Below w.heap.size w w2) => clone_bytes (.slice none 0 0) 0 [] w2 (by omega) (Rd.nil w2 1) (fun u hu => by cases hu))
  have E0 := Aside.mk e0
  clear hf ht hcE hdl hdc h0 e0
  have heb : eb < w.heap.size := World.block_lt_of_cell? _ _ HCE.out
  have hne : eb ≠ w.heap.size + 1 + 1 := by omega
  go_enter Tryz.func219, Tryz.ntmps219
  go_wp2_with fail
  obtain ⟨b3, hf3, hx3, hr3, hs3⟩ := three_new w #[] #[.int .i64 c.k, .int .i64 c.s, .int .i64 c.n, .int .i64 c.m, .slice B.a c.bits.length B.c, .slice none c.data.length 0, .slice (some ⟨eb, eo, none⟩) c.ends.length ec, .slice X.a c.words.length X.c] #[.int .u64 0, .slice none 0 0, .bool false] 162 63 145
  have B3 := Aside.mk b3
  have HX3 := Aside.mk hx3
  have HR3 := Aside.mk hr3
  have HS3 := Aside.mk hs3
  have HE3 := Aside.mk ((b3.cell (p := ⟨eb, eo + i, none⟩) (World.block_lt_of_cell? _ _ HCE.out)).trans HCE.out)
  clear b3 hf3 hx3 hr3 hs3
  generalize (((w.alloc (.cells #[] 162)).alloc (.cells #[.int .i64 c.k, .int .i64 c.s, .int .i64 c.n, .int .i64 c.m, .slice B.a c.bits.length B.c, .slice none c.data.length 0, .slice (some ⟨eb, eo, none⟩) c.ends.length ec, .slice X.a c.words.length X.c] 63)).alloc (.cells #[.int .u64 0, .slice none 0 0, .bool false] 145)) = w3 at *
  obtain ⟨p0, p1, p2, p3, p4, p5, p6, p7⟩ := box8 HX3.out
  have pe := HE3.out
  go_region_law (first
    | (refine step_call (P := Tryz.prog) w3.drew (by rfl) 87 [.tmp 9, .tmp 10] _ (by rfl) [.agg #[.int .i64 c.k, .int .i64 c.s, .int .i64 c.n, .int .i64 c.m, .slice B.a c.bits.length B.c, .slice none c.data.length 0, .slice (some ⟨eb, eo, none⟩) c.ends.length ec, .slice X.a c.words.length X.c], .int .i64 (i : Int)] (by rfl) (fun _ _ => rfl) (hah.out w3.drew (B3.out.trans (below_drewN _ _ 1))) ?_; rintro e wK ⟨rfl, hbK⟩; replace hbK := undrew hbK; have hcK : Below w3.heap.size w3 wK := hbK; obtain ⟨k0, k1, k2, k3, k4, k5, k6, k7⟩ := box8 ((hcK.block _ (lt_of_blk HX3.out)).trans HX3.out); have ke := (hcK.cell (p := ⟨eb, eo + i, none⟩) (World.block_lt_of_cell? _ _ HE3.out)).trans HE3.out; have HBK := Aside.mk hbK; clear hcK hbK; refine ⟨_, rfl, ?_⟩)
    | (refine step_call (P := Tryz.prog) wK (by rfl) 91 [.tmp 17] _ (by rfl) [.slice none 0 0] (by rfl) (fun _ _ => rfl) (HCL.out wK (B3.out.trans (HBK.out.mono B3.out.size))) ?_; rintro e wL ⟨v', rfl, ho, hbL⟩; obtain ⟨va, vc, rfl⟩ := ho.form; have HO := Aside.mk ho; clear ho; have B4 := Aside.mk (HBK.out.trans (hbL.mono HBK.out.size)); have hr4 := (B4.out.block _ (lt_of_blk HR3.out)).trans HR3.out; have q0 := cell_blk (k := 0) hr4; have q1 := cell_blk (k := 1) hr4; have q2 := cell_blk (k := 2) hr4; have z0 := frozen_blk (k := 0) hr4; have z1 := frozen_blk (k := 1) hr4; have z2 := frozen_blk (k := 2) hr4; simp at q0 q1 q2; clear hr4 hbL; refine ⟨_, rfl, ?_⟩))
  all_goals
    go_wp2
    all_goals refine bodyPost_ret (v := .agg #[.int .u64 0, .slice va 0 vc, .bool false]) (by simp [results, Tryz.results219, go_sem, q0, q1, q2]) rfl ?_
    all_goals exact ⟨va, vc, rfl, val_own HS3.out (HO.out.mono HBK.out.size), val_below B3.out B4.out⟩
end Go.Proofs.YtmhjjhaipcgbiaaGreat


namespace Go.Proofs.YtmhjjhaipcgbiaaGreat
open Go.RowKit
set_option linter.unusedVariables false
set_option linter.unusedSimpArgs false
set_option maxRecDepth 100000
set_option maxHeartbeats 2000000
def GetP (b : Nat) (tx : List Int) (w : World) (e : Ending) (w' : World) : Prop :=
  ∃ a cap, e = .returned (.tuple #[.int .u64 (b : Int), .slice a tx.length cap, .bool false, .int .i64 0]) ∧ Own w' w.heap.size 5 1 (.slice a tx.length cap) tx.length (tx.map (.int .u8)) ∧ Below w.heap.size w w'
def GetNP (null : Bool) (r : Int) (w : World) (e : Ending) (w' : World) : Prop :=
  e = .returned (.tuple #[.int .u64 0, .slice none 0 0, .bool null, .int .i64 r]) ∧ Below w.heap.size w w'
theorem get_err (c : Col) (hc : COK c) (B D E X : SL) (vals : List Value) (i : Int) (hr : checkC c ≠ 0) (w : World) (h : RdC w c B D E X vals) : Calls Tryz.prog 61 #[colV c B D E X, .int .i64 i] w (GetNP false (checkC c) w) := by
  have HBW := Aside.mk (below_new w (.cells #[.int .i64 c.k, .int .i64 c.s, .int .i64 c.n, .int .i64 c.m, .slice B.a c.bits.length B.c, .slice D.a c.data.length D.c, .slice E.a c.ends.length E.c, .slice X.a c.words.length X.c] 63))
  have hck := Aside.mk (check_any c hc B D E X vals (w.alloc (.cells #[.int .i64 c.k, .int .i64 c.s, .int .i64 c.n, .int .i64 c.m, .slice B.a c.bits.length B.c, .slice D.a c.data.length D.c, .slice E.a c.ends.length E.c, .slice X.a c.words.length X.c] 63)) (h.below HBW.out))
  have hne : (checkC c == 0) = false := by simpa using hr
  clear h hr
  dsimp only [colV] at hck ⊢
  generalize checkC c = r at *
  go_enter Tryz.func61, Tryz.ntmps61
  go_wp2_with (go_at_call 82; refine hck.out.mono ?_; rintro e w2 ⟨rfl, hb2⟩; have B2 := Aside.mk (HBW.out.trans (hb2.mono HBW.out.size)); clear hb2)
  refine bodyPost_ret (v := .tuple #[.int .u64 0, .slice none 0 0, .bool false, .int .i64 r]) (by simp [results, Tryz.results61, go_sem]) rfl ⟨rfl, B2.out⟩
theorem get_place (c : Col) (hc : COK c) (B D E X : SL) (vals : List Value) (i : Int) (hr : checkC c = 0) (hi : i < 0 ∨ c.n ≤ i) (w : World) (h : RdC w c B D E X vals) : Calls Tryz.prog 61 #[colV c B D E X, .int .i64 i] w (GetNP false 173 w) := by
  have HBW := Aside.mk (below_new w (.cells #[.int .i64 c.k, .int .i64 c.s, .int .i64 c.n, .int .i64 c.m, .slice B.a c.bits.length B.c, .slice D.a c.data.length D.c, .slice E.a c.ends.length E.c, .slice X.a c.words.length X.c] 63))
  have hck := Aside.mk (check_any c hc B D E X vals (w.alloc (.cells #[.int .i64 c.k, .int .i64 c.s, .int .i64 c.n, .int .i64 c.m, .slice B.a c.bits.length B.c, .slice D.a c.data.length D.c, .slice E.a c.ends.length E.c, .slice X.a c.words.length X.c] 63)) (h.below HBW.out))
  have HX := Aside.mk (heap_alloc_new w (.cells #[.int .i64 c.k, .int .i64 c.s, .int .i64 c.n, .int .i64 c.m, .slice B.a c.bits.length B.c, .slice D.a c.data.length D.c, .slice E.a c.ends.length E.c, .slice X.a c.words.length X.c] 63))
  rw [hr] at hck
  clear h hr
  dsimp only [colV] at hck ⊢
  by_cases h0 : i < 0
  · go_enter Tryz.func61, Tryz.ntmps61
    go_wp2_with (go_at_call 82; refine hck.out.mono ?_; rintro e w2 ⟨rfl, hb2⟩; obtain ⟨c0, c1, c2, c3, c4, c5, c6, c7⟩ := box8 ((hb2.block _ (lt_of_blk HX.out)).trans HX.out); have B2 := Aside.mk (HBW.out.trans (hb2.mono HBW.out.size)); clear hb2)
    refine bodyPost_ret (v := .tuple #[.int .u64 0, .slice none 0 0, .bool false, .int .i64 173]) (by simp [results, Tryz.results61, go_sem]) rfl ⟨rfl, B2.out⟩
  · have h1 : c.n ≤ i := by omega
    go_enter Tryz.func61, Tryz.ntmps61
    go_wp2_with (go_at_call 82; refine hck.out.mono ?_; rintro e w2 ⟨rfl, hb2⟩; obtain ⟨c0, c1, c2, c3, c4, c5, c6, c7⟩ := box8 ((hb2.block _ (lt_of_blk HX.out)).trans HX.out); have B2 := Aside.mk (HBW.out.trans (hb2.mono HBW.out.size)); clear hb2)
    refine bodyPost_ret (v := .tuple #[.int .u64 0, .slice none 0 0, .bool false, .int .i64 173]) (by simp [results, Tryz.results61, go_sem]) rfl ⟨rfl, B2.out⟩
theorem get_null (c : Col) (hc : COK c) (B D E X : SL) (vals : List Value) (i : Nat) (hr : checkC c = 0) (hi : (i : Int) < c.n) (hnl : nullB c.bits i = true) (w : World) (h : RdC w c B D E X vals) : Calls Tryz.prog 61 #[colV c B D E X, .int .i64 (i : Int)] w (GetNP true 0 w) := by
  have HBW := Aside.mk (below_new w (.cells #[.int .i64 c.k, .int .i64 c.s, .int .i64 c.n, .int .i64 c.m, .slice B.a c.bits.length B.c, .slice D.a c.data.length D.c, .slice E.a c.ends.length E.c, .slice X.a c.words.length X.c] 63))
  have hck := Aside.mk (check_any c hc B D E X vals (w.alloc (.cells #[.int .i64 c.k, .int .i64 c.s, .int .i64 c.n, .int .i64 c.m, .slice B.a c.bits.length B.c, .slice D.a c.data.length D.c, .slice E.a c.ends.length E.c, .slice X.a c.words.length X.c] 63)) (h.below HBW.out))
  have HX := Aside.mk (heap_alloc_new w (.cells #[.int .i64 c.k, .int .i64 c.s, .int .i64 c.n, .int .i64 c.m, .slice B.a c.bits.length B.c, .slice D.a c.data.length D.c, .slice E.a c.ends.length E.c, .slice X.a c.words.length X.c] 63))
  have hnull := Aside.mk (fun (w2 : World) (hb : Below w.heap.size w w2) => null_any c B D E X i (check_bits hr hi) hc.bits hc.lb w2 (h.bits.below hb))
  rw [hr] at hck
  rw [hnl] at hnull
  clear h hr hnl
  dsimp only [colV] at hck hnull ⊢
  go_enter Tryz.func61, Tryz.ntmps61
  go_wp2_with (first | (go_at_call 82; refine hck.out.mono ?_; rintro e w2 ⟨rfl, hb2⟩; replace HX := Aside.mk ((hb2.block _ (lt_of_blk HX.out)).trans HX.out); obtain ⟨c0, c1, c2, c3, c4, c5, c6, c7⟩ := box8 HX.out; have B2 := Aside.mk (HBW.out.trans (hb2.mono HBW.out.size)); clear hb2) | (go_at_call 129; refine (hnull.out _ B2.out).mono ?_; rintro e w3 ⟨rfl, hb3⟩; replace B2 := Aside.mk (B2.out.trans (hb3.mono B2.out.size)); clear hb3))
  refine bodyPost_ret (v := .tuple #[.int .u64 0, .slice none 0 0, .bool true, .int .i64 0]) (by simp [results, Tryz.results61, go_sem]) rfl ⟨rfl, B2.out⟩
end Go.Proofs.YtmhjjhaipcgbiaaGreat


namespace Go.Proofs.YtmhjjhaipcgbiaaGreat
open Go.RowKit
set_option linter.unusedVariables false
set_option linter.unusedSimpArgs false
set_option maxRecDepth 100000
set_option maxHeartbeats 8000000
theorem meth_f (v : Value) (w : World) : (method 400 165 v "mintage/column.value").run Tryz.prog w = .ok (221, v) w := by kernel_rfl
theorem meth_c (v : Value) (w : World) : (method 400 167 v "mintage/column.value").run Tryz.prog w = .ok (224, v) w := by kernel_rfl
theorem meth_r (v : Value) (w : World) : (method 400 162 v "mintage/column.value").run Tryz.prog w = .ok (219, v) w := by kernel_rfl
theorem get_end {w w3 wL : World} {zb n : Nat} {cs : Array Value} {v : Value} {xs : List Value} {x1 x2 x3 : Value} (b2 : Below w.heap.size w w3) (hcl : Below w3.heap.size w3 wL) (hzb : w3.heap.size ≤ zb) (hz : wL.heap[zb]? = some (.cells cs 145 (0, 0))) (ho : Own wL w3.heap.size 5 1 v n xs) (m : Nat) :
    Own ((((wL.setCell ⟨zb, 0, none⟩ x1).setCell ⟨zb, 1, none⟩ x2).setCell ⟨zb, 2, none⟩ x3).drewN m) w.heap.size 5 1 v n xs ∧ Below w.heap.size w ((((wL.setCell ⟨zb, 0, none⟩ x1).setCell ⟨zb, 1, none⟩ x2).setCell ⟨zb, 2, none⟩ x3).drewN m) := by
  have hne : v.ownBlock ≠ some zb := ho.blk_ne hz (by decide)
  have hs := b2.size
  refine ⟨((((ho.set_other (a := ⟨zb, 0, none⟩) hne _).set_other (a := ⟨zb, 1, none⟩) hne _).set_other (a := ⟨zb, 2, none⟩) hne _).mono b2.size).drewN m, ?_⟩
  exact ((((b2.trans (hcl.mono b2.size)).setCell (by simp; omega) _).setCell (by simp; omega) _).setCell (by simp; omega) _).trans (below_drewN _ _ _)
theorem get_endA {w w3 wL : World} {n : Nat} {v : Value} {xs : List Value} (b2 : Below w.heap.size w w3) (hcl : Below w3.heap.size w3 wL) (ho : Own wL w3.heap.size 5 1 v n xs) (o : Obj) (m : Nat) :
    Own ((wL.alloc o).drewN m) w.heap.size 5 1 v n xs ∧ Below w.heap.size w ((wL.alloc o).drewN m) :=
  ⟨((ho.mono b2.size).alloc o).drewN m, ((b2.trans (hcl.mono b2.size)).alloc (Nat.le_trans b2.size hcl.size) o).trans (below_drewN _ _ _)⟩
theorem cell_drew {W : World} {a : Addr} {v : Value} (h : W.cell? a = some v) : W.drew.cell? a = some v := h
theorem lt_drew {W : World} {n : Nat} (h : n < W.heap.size) : n < W.drew.heap.size := h
theorem cell_alloc {W : World} {o : Obj} {g n : Nat} {v : Value} (hlt : g < W.heap.size) (h : W.cell? ⟨g, n, none⟩ = some v) : (W.alloc o).cell? ⟨g, n, none⟩ = some v :=
  (World.cell?_of_block (w := W) (Below.heap_alloc W o g hlt)).trans h
theorem get_f (c : Col) (h1 : c.k ≠ 15) (h2 : c.k ≠ 16) {W : Nat} (hW : widthOf c.k = (W : Int)) (hc : COK c) (B D E X : SL) (vals : List Value) (i : Nat) (hr : checkC c = 0) (hi : (i : Int) < c.n) (hnl : nullB c.bits i = false) (b : Nat) (tx : List Int) (w : World) (h : RdC w c B D E X vals) (hv : ∀ w2, Below w.heap.size w w2 → Calls Tryz.prog 221 #[(.agg #[.int .i64 (W : Int)]), colV c B D E X, .int .i64 (i : Int)] w2 (ValP b tx w2)) : Calls Tryz.prog 61 #[colV c B D E X, .int .i64 (i : Int)] w (GetP b tx w) := by
  have HBW := Aside.mk (below_new w (.cells #[.int .i64 c.k, .int .i64 c.s, .int .i64 c.n, .int .i64 c.m, .slice B.a c.bits.length B.c, .slice D.a c.data.length D.c, .slice E.a c.ends.length E.c, .slice X.a c.words.length X.c] 63))
  have hck := Aside.mk (fun (w2 : World) (hb : Below w.heap.size w w2) => check_any c hc B D E X vals w2 (h.below hb))
  have hnull := Aside.mk (fun (w2 : World) (hb : Below w.heap.size w w2) => null_any c B D E X i (check_bits hr hi) hc.bits hc.lb w2 (h.bits.below hb))
  have hval := Aside.mk hv
  rw [hr] at hck
  rw [hnl] at hnull
  clear h hr hnl hv
  have H1 := Aside.mk h1
  have H2 := Aside.mk h2
  have HWW := Aside.mk hW
  clear h1 h2 hW
  dsimp only [colV] at hck hnull hval ⊢
  have HX := Aside.mk (heap_alloc_new w (.cells #[.int .i64 c.k, .int .i64 c.s, .int .i64 c.n, .int .i64 c.m, .slice B.a c.bits.length B.c, .slice D.a c.data.length D.c, .slice E.a c.ends.length E.c, .slice X.a c.words.length X.c] 63))
  go_enter Tryz.func61, Tryz.ntmps61
  go_wp2_with (first | (go_at_call 82; refine (hck.out _ HBW.out).mono ?_; rintro e w2 ⟨rfl, hb2⟩; replace HX := Aside.mk ((hb2.block _ (lt_of_blk HX.out)).trans HX.out); obtain ⟨c0, c1, c2, c3, c4, c5, c6, c7⟩ := box8 HX.out; have B2 := Aside.mk (HBW.out.trans (hb2.mono HBW.out.size)); clear hb2) | (go_at_call 129; refine (hnull.out _ B2.out).mono ?_; rintro e w3 ⟨rfl, hb3⟩; replace HX := Aside.mk ((hb3.block _ (lt_of_blk HX.out)).trans HX.out); replace B2 := Aside.mk (B2.out.trans (hb3.mono B2.out.size)); clear hb3 c0 c1 c2 c3 c4 c5 c6 c7))
  obtain ⟨p0, p1, p2, p3, p4, p5, p6, p7⟩ := box8 HX.out
  have hlt := lt_of_blk HX.out
  have hmeth := meth_f
  go_region_held3 (fun w' => w'.cell? ⟨w.heap.size, 0, none⟩ = some (.int .i64 c.k) ∧ w'.cell? ⟨w.heap.size, 1, none⟩ = some (.int .i64 c.s) ∧ w'.cell? ⟨w.heap.size, 2, none⟩ = some (.int .i64 c.n) ∧ w'.cell? ⟨w.heap.size, 3, none⟩ = some (.int .i64 c.m) ∧ w'.cell? ⟨w.heap.size, 4, none⟩ = some (.slice B.a c.bits.length B.c) ∧ w'.cell? ⟨w.heap.size, 5, none⟩ = some (.slice D.a c.data.length D.c) ∧ w'.cell? ⟨w.heap.size, 6, none⟩ = some (.slice E.a c.ends.length E.c) ∧ w'.cell? ⟨w.heap.size, 7, none⟩ = some (.slice X.a c.words.length X.c))
    (first | (refine ⟨?_, ?_, ?_, ?_, ?_, ?_, ?_, ?_⟩ <;> with_reducible assumption) | (refine ⟨?_, ?_, ?_, ?_, ?_, ?_, ?_, ?_⟩ <;> with_reducible exact cell_drew (by assumption)) | (refine ⟨?_, ?_, ?_, ?_, ?_, ?_, ?_, ?_⟩ <;> with_reducible exact cell_alloc (by first | assumption | exact lt_drew (by assumption)) (by first | assumption | exact cell_drew (by assumption))) | (refine ⟨?_, ?_, ?_, ?_, ?_, ?_, ?_, ?_⟩ <;> with_reducible exact cell_set3 (by omega) (by first | assumption | exact cell_alloc (by assumption) (by assumption))) | (refine ⟨?_, ?_, ?_, ?_, ?_, ?_, ?_, ?_⟩ <;> exact cell_alloc (by assumption) (by assumption)))
    (first
      | (go_at_call 86; refine (of_f c.k c.s H1.out H2.out HWW.out _).mono ?_; rintro e wK ⟨rfl, hbK⟩; (first | (guard_hyp hbK : Below w3.drew.heap.size w3.drew wK; have hcK : Below w3.heap.size w3 wK := undrew hbK) | (have hcK : Below w3.heap.size w3 wK := below_chain ((below_drew1 w3).alloc (Nat.le_refl _) _) hbK; have hz : wK.heap[w3.heap.size]? = some (.cells #[.int .u64 0, .slice none 0 0, .bool false] 145 (0, 0)) := (hbK.block _ (lt_of_blk (heap_alloc_new w3.drew (.cells #[.int .u64 0, .slice none 0 0, .bool false] 145)))).trans (heap_alloc_new w3.drew (.cells #[.int .u64 0, .slice none 0 0, .bool false] 145)))); obtain ⟨k0, k1, k2, k3, k4, k5, k6, k7⟩ := box8 ((hcK.block _ hlt).trans HX.out); have hltK := Nat.lt_of_lt_of_le hlt hcK.size)
      | (go_at_call 221; refine (hval.out _ (B2.out.trans (Below.mono (by first | (with_reducible exact hcK) | exact hcK.alloc hcK.size _) B2.out.size))).mono ?_; rintro e wL ⟨va, vc, rfl, ho, hbL⟩; (first | (guard_hyp hbL : Below wK.heap.size wK wL; have hcL : Below w3.heap.size w3 wL := below_chain hcK hbL; have hoK : w3.heap.size ≤ wK.heap.size := hcK.size; have HO := Aside.mk (ho.mono hoK); (first | (replace hz := (hbL.block _ (lt_of_blk hz)).trans hz) | skip)) | (have hcL : Below w3.heap.size w3 wL := below_chain (hcK.alloc hcK.size _) hbL; have HO := Aside.mk (ho.mono (base' := w3.heap.size) (by have := hcK.size; simp; omega)); have hz := (hbL.block _ (lt_of_blk (heap_alloc_new wK (.cells #[.int .u64 0, .slice none 0 0, .bool false] 145)))).trans (heap_alloc_new wK (.cells #[.int .u64 0, .slice none 0 0, .bool false] 145)))); obtain ⟨l0, l1, l2, l3, l4, l5, l6, l7⟩ := box8 ((hcL.block _ hlt).trans HX.out); have hltL := Nat.lt_of_lt_of_le hlt hcL.size; clear ho; have HCL := Aside.mk hcL; (first | (have z0 := cell_blk (k := 0) hz; have z1 := cell_blk (k := 1) hz; have z2 := cell_blk (k := 2) hz; have y0 := frozen_blk (k := 0) hz; have y1 := frozen_blk (k := 1) hz; have y2 := frozen_blk (k := 2) hz; simp at z0 z1 z2; have HZ := Aside.mk hz; clear hz) | skip)))
  all_goals
    go_wp2
    go_quiet (fail)
    go_wp2
    refine bodyPost_ret (v := .tuple #[.int .u64 (b : Int), .slice va tx.length vc, .bool false, .int .i64 0]) (by simp [results, Tryz.results61, go_sem]) rfl ?_
    refine ⟨va, vc, rfl, ?_⟩
    first
      | exact get_end B2.out HCL.out (Nat.le_refl _) HZ.out HO.out _
      | exact get_end B2.out HCL.out hcK.size HZ.out HO.out _
      | exact get_endA B2.out HCL.out HO.out _ _
theorem get_c (c : Col) (hk : c.k = 16) (hc : COK c) (B D E X : SL) (vals : List Value) (i : Nat) (hr : checkC c = 0) (hi : (i : Int) < c.n) (hnl : nullB c.bits i = false) (b : Nat) (tx : List Int) (w : World) (h : RdC w c B D E X vals) (hv : ∀ w2, Below w.heap.size w w2 → Calls Tryz.prog 224 #[(.agg #[.int .i64 4]), colV c B D E X, .int .i64 (i : Int)] w2 (ValP b tx w2)) : Calls Tryz.prog 61 #[colV c B D E X, .int .i64 (i : Int)] w (GetP b tx w) := by
  have HBW := Aside.mk (below_new w (.cells #[.int .i64 16, .int .i64 c.s, .int .i64 c.n, .int .i64 c.m, .slice B.a c.bits.length B.c, .slice D.a c.data.length D.c, .slice E.a c.ends.length E.c, .slice X.a c.words.length X.c] 63))
  have hck := Aside.mk (fun (w2 : World) (hb : Below w.heap.size w w2) => check_any c hc B D E X vals w2 (h.below hb))
  have hnull := Aside.mk (fun (w2 : World) (hb : Below w.heap.size w w2) => null_any c B D E X i (check_bits hr hi) hc.bits hc.lb w2 (h.bits.below hb))
  have hval := Aside.mk hv
  rw [hr] at hck
  rw [hnl] at hnull
  clear h hr hnl hv
  have HCV := (show colV c B D E X = .agg #[.int .i64 16, .int .i64 c.s, .int .i64 c.n, .int .i64 c.m, .slice B.a c.bits.length B.c, .slice D.a c.data.length D.c, .slice E.a c.ends.length E.c, .slice X.a c.words.length X.c] by rw [colV, hk])
  rw [HCV] at hck hnull hval ⊢
  clear hk HCV
  have HX := Aside.mk (heap_alloc_new w (.cells #[.int .i64 16, .int .i64 c.s, .int .i64 c.n, .int .i64 c.m, .slice B.a c.bits.length B.c, .slice D.a c.data.length D.c, .slice E.a c.ends.length E.c, .slice X.a c.words.length X.c] 63))
  go_enter Tryz.func61, Tryz.ntmps61
  go_wp2_with (first | (go_at_call 82; refine (hck.out _ HBW.out).mono ?_; rintro e w2 ⟨rfl, hb2⟩; replace HX := Aside.mk ((hb2.block _ (lt_of_blk HX.out)).trans HX.out); obtain ⟨c0, c1, c2, c3, c4, c5, c6, c7⟩ := box8 HX.out; have B2 := Aside.mk (HBW.out.trans (hb2.mono HBW.out.size)); clear hb2) | (go_at_call 129; refine (hnull.out _ B2.out).mono ?_; rintro e w3 ⟨rfl, hb3⟩; replace HX := Aside.mk ((hb3.block _ (lt_of_blk HX.out)).trans HX.out); replace B2 := Aside.mk (B2.out.trans (hb3.mono B2.out.size)); clear hb3 c0 c1 c2 c3 c4 c5 c6 c7))
  obtain ⟨p0, p1, p2, p3, p4, p5, p6, p7⟩ := box8 HX.out
  have hlt := lt_of_blk HX.out
  have hmeth := meth_c
  go_region_held3 (fun w' => w'.cell? ⟨w.heap.size, 0, none⟩ = some (.int .i64 16) ∧ w'.cell? ⟨w.heap.size, 1, none⟩ = some (.int .i64 c.s) ∧ w'.cell? ⟨w.heap.size, 2, none⟩ = some (.int .i64 c.n) ∧ w'.cell? ⟨w.heap.size, 3, none⟩ = some (.int .i64 c.m) ∧ w'.cell? ⟨w.heap.size, 4, none⟩ = some (.slice B.a c.bits.length B.c) ∧ w'.cell? ⟨w.heap.size, 5, none⟩ = some (.slice D.a c.data.length D.c) ∧ w'.cell? ⟨w.heap.size, 6, none⟩ = some (.slice E.a c.ends.length E.c) ∧ w'.cell? ⟨w.heap.size, 7, none⟩ = some (.slice X.a c.words.length X.c))
    (first | (refine ⟨?_, ?_, ?_, ?_, ?_, ?_, ?_, ?_⟩ <;> with_reducible assumption) | (refine ⟨?_, ?_, ?_, ?_, ?_, ?_, ?_, ?_⟩ <;> with_reducible exact cell_drew (by assumption)) | (refine ⟨?_, ?_, ?_, ?_, ?_, ?_, ?_, ?_⟩ <;> with_reducible exact cell_alloc (by first | assumption | exact lt_drew (by assumption)) (by first | assumption | exact cell_drew (by assumption))) | (refine ⟨?_, ?_, ?_, ?_, ?_, ?_, ?_, ?_⟩ <;> with_reducible exact cell_set3 (by omega) (by first | assumption | exact cell_alloc (by assumption) (by assumption))) | (refine ⟨?_, ?_, ?_, ?_, ?_, ?_, ?_, ?_⟩ <;> exact cell_alloc (by assumption) (by assumption)))
    (first
      | (go_at_call 86; refine (of_c c.s _).mono ?_; rintro e wK ⟨rfl, hbK⟩; (first | (guard_hyp hbK : Below w3.drew.heap.size w3.drew wK; have hcK : Below w3.heap.size w3 wK := undrew hbK) | (have hcK : Below w3.heap.size w3 wK := below_chain ((below_drew1 w3).alloc (Nat.le_refl _) _) hbK; have hz : wK.heap[w3.heap.size]? = some (.cells #[.int .u64 0, .slice none 0 0, .bool false] 145 (0, 0)) := (hbK.block _ (lt_of_blk (heap_alloc_new w3.drew (.cells #[.int .u64 0, .slice none 0 0, .bool false] 145)))).trans (heap_alloc_new w3.drew (.cells #[.int .u64 0, .slice none 0 0, .bool false] 145)))); obtain ⟨k0, k1, k2, k3, k4, k5, k6, k7⟩ := box8 ((hcK.block _ hlt).trans HX.out); have hltK := Nat.lt_of_lt_of_le hlt hcK.size)
      | (go_at_call 224; refine (hval.out _ (B2.out.trans (Below.mono (by first | (with_reducible exact hcK) | exact hcK.alloc hcK.size _) B2.out.size))).mono ?_; rintro e wL ⟨va, vc, rfl, ho, hbL⟩; (first | (guard_hyp hbL : Below wK.heap.size wK wL; have hcL : Below w3.heap.size w3 wL := below_chain hcK hbL; have hoK : w3.heap.size ≤ wK.heap.size := hcK.size; have HO := Aside.mk (ho.mono hoK); (first | (replace hz := (hbL.block _ (lt_of_blk hz)).trans hz) | skip)) | (have hcL : Below w3.heap.size w3 wL := below_chain (hcK.alloc hcK.size _) hbL; have HO := Aside.mk (ho.mono (base' := w3.heap.size) (by have := hcK.size; simp; omega)); have hz := (hbL.block _ (lt_of_blk (heap_alloc_new wK (.cells #[.int .u64 0, .slice none 0 0, .bool false] 145)))).trans (heap_alloc_new wK (.cells #[.int .u64 0, .slice none 0 0, .bool false] 145)))); obtain ⟨l0, l1, l2, l3, l4, l5, l6, l7⟩ := box8 ((hcL.block _ hlt).trans HX.out); have hltL := Nat.lt_of_lt_of_le hlt hcL.size; clear ho; have HCL := Aside.mk hcL; (first | (have z0 := cell_blk (k := 0) hz; have z1 := cell_blk (k := 1) hz; have z2 := cell_blk (k := 2) hz; have y0 := frozen_blk (k := 0) hz; have y1 := frozen_blk (k := 1) hz; have y2 := frozen_blk (k := 2) hz; simp at z0 z1 z2; have HZ := Aside.mk hz; clear hz) | skip)))
  all_goals
    go_wp2
    go_quiet (fail)
    go_wp2
    refine bodyPost_ret (v := .tuple #[.int .u64 (b : Int), .slice va tx.length vc, .bool false, .int .i64 0]) (by simp [results, Tryz.results61, go_sem]) rfl ?_
    refine ⟨va, vc, rfl, ?_⟩
    first
      | exact get_end B2.out HCL.out (Nat.le_refl _) HZ.out HO.out _
      | exact get_end B2.out HCL.out hcK.size HZ.out HO.out _
      | exact get_endA B2.out HCL.out HO.out _ _
theorem get_r (c : Col) (hk : c.k = 15) (hc : COK c) (B D E X : SL) (vals : List Value) (i : Nat) (hr : checkC c = 0) (hi : (i : Int) < c.n) (hnl : nullB c.bits i = false) (b : Nat) (tx : List Int) (w : World) (h : RdC w c B D E X vals) (hv : ∀ w2, Below w.heap.size w w2 → Calls Tryz.prog 219 #[(.agg #[]), colV c B D E X, .int .i64 (i : Int)] w2 (ValP b tx w2)) : Calls Tryz.prog 61 #[colV c B D E X, .int .i64 (i : Int)] w (GetP b tx w) := by
  have HBW := Aside.mk (below_new w (.cells #[.int .i64 15, .int .i64 c.s, .int .i64 c.n, .int .i64 c.m, .slice B.a c.bits.length B.c, .slice D.a c.data.length D.c, .slice E.a c.ends.length E.c, .slice X.a c.words.length X.c] 63))
  have hck := Aside.mk (fun (w2 : World) (hb : Below w.heap.size w w2) => check_any c hc B D E X vals w2 (h.below hb))
  have hnull := Aside.mk (fun (w2 : World) (hb : Below w.heap.size w w2) => null_any c B D E X i (check_bits hr hi) hc.bits hc.lb w2 (h.bits.below hb))
  have hval := Aside.mk hv
  rw [hr] at hck
  rw [hnl] at hnull
  clear h hr hnl hv
  have HCV := (show colV c B D E X = .agg #[.int .i64 15, .int .i64 c.s, .int .i64 c.n, .int .i64 c.m, .slice B.a c.bits.length B.c, .slice D.a c.data.length D.c, .slice E.a c.ends.length E.c, .slice X.a c.words.length X.c] by rw [colV, hk])
  rw [HCV] at hck hnull hval ⊢
  clear hk HCV
  have HX := Aside.mk (heap_alloc_new w (.cells #[.int .i64 15, .int .i64 c.s, .int .i64 c.n, .int .i64 c.m, .slice B.a c.bits.length B.c, .slice D.a c.data.length D.c, .slice E.a c.ends.length E.c, .slice X.a c.words.length X.c] 63))
  go_enter Tryz.func61, Tryz.ntmps61
  go_wp2_with (first | (go_at_call 82; refine (hck.out _ HBW.out).mono ?_; rintro e w2 ⟨rfl, hb2⟩; replace HX := Aside.mk ((hb2.block _ (lt_of_blk HX.out)).trans HX.out); obtain ⟨c0, c1, c2, c3, c4, c5, c6, c7⟩ := box8 HX.out; have B2 := Aside.mk (HBW.out.trans (hb2.mono HBW.out.size)); clear hb2) | (go_at_call 129; refine (hnull.out _ B2.out).mono ?_; rintro e w3 ⟨rfl, hb3⟩; replace HX := Aside.mk ((hb3.block _ (lt_of_blk HX.out)).trans HX.out); replace B2 := Aside.mk (B2.out.trans (hb3.mono B2.out.size)); clear hb3 c0 c1 c2 c3 c4 c5 c6 c7))
  obtain ⟨p0, p1, p2, p3, p4, p5, p6, p7⟩ := box8 HX.out
  have hlt := lt_of_blk HX.out
  have hmeth := meth_r
  go_region_held3 (fun w' => w'.cell? ⟨w.heap.size, 0, none⟩ = some (.int .i64 15) ∧ w'.cell? ⟨w.heap.size, 1, none⟩ = some (.int .i64 c.s) ∧ w'.cell? ⟨w.heap.size, 2, none⟩ = some (.int .i64 c.n) ∧ w'.cell? ⟨w.heap.size, 3, none⟩ = some (.int .i64 c.m) ∧ w'.cell? ⟨w.heap.size, 4, none⟩ = some (.slice B.a c.bits.length B.c) ∧ w'.cell? ⟨w.heap.size, 5, none⟩ = some (.slice D.a c.data.length D.c) ∧ w'.cell? ⟨w.heap.size, 6, none⟩ = some (.slice E.a c.ends.length E.c) ∧ w'.cell? ⟨w.heap.size, 7, none⟩ = some (.slice X.a c.words.length X.c))
    (first | (refine ⟨?_, ?_, ?_, ?_, ?_, ?_, ?_, ?_⟩ <;> with_reducible assumption) | (refine ⟨?_, ?_, ?_, ?_, ?_, ?_, ?_, ?_⟩ <;> with_reducible exact cell_drew (by assumption)) | (refine ⟨?_, ?_, ?_, ?_, ?_, ?_, ?_, ?_⟩ <;> with_reducible exact cell_alloc (by first | assumption | exact lt_drew (by assumption)) (by first | assumption | exact cell_drew (by assumption))) | (refine ⟨?_, ?_, ?_, ?_, ?_, ?_, ?_, ?_⟩ <;> with_reducible exact cell_set3 (by omega) (by first | assumption | exact cell_alloc (by assumption) (by assumption))) | (refine ⟨?_, ?_, ?_, ?_, ?_, ?_, ?_, ?_⟩ <;> exact cell_alloc (by assumption) (by assumption)))
    (first
      | (go_at_call 86; refine (of_r c.s _).mono ?_; rintro e wK ⟨rfl, hbK⟩; (first | (guard_hyp hbK : Below w3.drew.heap.size w3.drew wK; have hcK : Below w3.heap.size w3 wK := undrew hbK) | (have hcK : Below w3.heap.size w3 wK := below_chain ((below_drew1 w3).alloc (Nat.le_refl _) _) hbK; have hz : wK.heap[w3.heap.size]? = some (.cells #[.int .u64 0, .slice none 0 0, .bool false] 145 (0, 0)) := (hbK.block _ (lt_of_blk (heap_alloc_new w3.drew (.cells #[.int .u64 0, .slice none 0 0, .bool false] 145)))).trans (heap_alloc_new w3.drew (.cells #[.int .u64 0, .slice none 0 0, .bool false] 145)))); obtain ⟨k0, k1, k2, k3, k4, k5, k6, k7⟩ := box8 ((hcK.block _ hlt).trans HX.out); have hltK := Nat.lt_of_lt_of_le hlt hcK.size)
      | (go_at_call 219; refine (hval.out _ (B2.out.trans (Below.mono (by first | (with_reducible exact hcK) | exact hcK.alloc hcK.size _) B2.out.size))).mono ?_; rintro e wL ⟨va, vc, rfl, ho, hbL⟩; (first | (guard_hyp hbL : Below wK.heap.size wK wL; have hcL : Below w3.heap.size w3 wL := below_chain hcK hbL; have hoK : w3.heap.size ≤ wK.heap.size := hcK.size; have HO := Aside.mk (ho.mono hoK); (first | (replace hz := (hbL.block _ (lt_of_blk hz)).trans hz) | skip)) | (have hcL : Below w3.heap.size w3 wL := below_chain (hcK.alloc hcK.size _) hbL; have HO := Aside.mk (ho.mono (base' := w3.heap.size) (by have := hcK.size; simp; omega)); have hz := (hbL.block _ (lt_of_blk (heap_alloc_new wK (.cells #[.int .u64 0, .slice none 0 0, .bool false] 145)))).trans (heap_alloc_new wK (.cells #[.int .u64 0, .slice none 0 0, .bool false] 145)))); obtain ⟨l0, l1, l2, l3, l4, l5, l6, l7⟩ := box8 ((hcL.block _ hlt).trans HX.out); have hltL := Nat.lt_of_lt_of_le hlt hcL.size; clear ho; have HCL := Aside.mk hcL; (first | (have z0 := cell_blk (k := 0) hz; have z1 := cell_blk (k := 1) hz; have z2 := cell_blk (k := 2) hz; have y0 := frozen_blk (k := 0) hz; have y1 := frozen_blk (k := 1) hz; have y2 := frozen_blk (k := 2) hz; simp at z0 z1 z2; have HZ := Aside.mk hz; clear hz) | skip)))
  all_goals
    go_wp2
    go_quiet (fail)
    go_wp2
    refine bodyPost_ret (v := .tuple #[.int .u64 (b : Int), .slice va tx.length vc, .bool false, .int .i64 0]) (by simp [results, Tryz.results61, go_sem]) rfl ?_
    refine ⟨va, vc, rfl, ?_⟩
    first
      | exact get_end B2.out HCL.out (Nat.le_refl _) HZ.out HO.out _
      | exact get_end B2.out HCL.out hcK.size HZ.out HO.out _
      | exact get_endA B2.out HCL.out HO.out _ _
end Go.Proofs.YtmhjjhaipcgbiaaGreat


namespace Go.Proofs.YtmhjjhaipcgbiaaGreat
open Go.RowKit
set_option linter.unusedVariables false
set_option linter.unusedSimpArgs false
set_option maxRecDepth 100000
set_option maxHeartbeats 1000000
theorem own_addr {w : World} {base : Nat} {E : TypeId} {sz n c : Nat} {a : Option Addr} {xs : List Value} (h : Own w base E sz (.slice a n c) n xs) : a = none ∨ ∃ g off, a = some ⟨g, off, none⟩ := by
  rcases h.2 with ⟨e, _⟩ | ⟨g, off, cap, cur, e, _⟩
  · simp only [Value.slice.injEq] at e; exact .inl e.1
  · simp only [Value.slice.injEq] at e; exact .inr ⟨g, off, e.1⟩
theorem get_value (c : Col) (hc : COK c) (B D E X : SL) (vals : List Value) (i : Nat) (hr : checkC c = 0) (hi : (i : Int) < c.n) (hnl : nullB c.bits i = false) (hDa : D.a = none ∨ ∃ g off, D.a = some ⟨g, off, none⟩) (w : World) (h : RdC w c B D E X vals) :
    Calls Tryz.prog 61 #[colV c B D E X, .int .i64 (i : Int)] w (GetP (valueC c i).1 (valueC c i).2 w) := by
  obtain ⟨ho, _, _, _⟩ := check_zero hr
  by_cases h15 : c.k = 15
  · obtain ⟨hn, _⟩ := running_facts hr h15
    have hie : i < c.ends.length := by omega
    obtain ⟨f, t, e1, e2, hft, htd⟩ := check_ends hr h15 i hie
    have ev : valueC c i = (0, (c.data.drop f).take (t - f)) := by
      unfold valueC
      rw [if_pos h15, e1, e2, Int.toNat_natCast]
      congr 2
      omega
    rw [ev]
    refine get_r c h15 hc B D E X vals i hr hi hnl 0 _ w h (fun w2 hb => ?_)
    rcases hDa with hD | ⟨g, off, hD⟩
    · obtain ⟨_, a, cap, e, _, _, h0, _⟩ := h.data
      simp only [Value.slice.injEq, true_and] at e
      have hd0 := (h0 (by rw [← e.1, hD])).1
      obtain rfl : t = 0 := by omega
      obtain rfl : f = 0 := by omega
      have := value_r0 c hc B D E X vals i hie (by simpa using e1) (by simpa using e2) hD w2 (h.below hb)
      simpa using this
    · exact value_r c hc B D E X vals i f t hie e1 e2 hft htd g off hD w2 (h.below hb)
  by_cases h16 : c.k = 16
  · have hx := check_code hr h16 hi hnl
    have hs := (coded_facts hr h16).1
    have ev : valueC c i = (0, c.words.getD (wordAt c.data (i * 4) 4) []) := by
      unfold valueC
      rw [if_neg h15, if_pos h16]
    rw [ev]
    exact get_c c h16 hc B D E X vals i hr hi hnl 0 _ w h (fun w2 hb => value_c c hc B D E X vals i (sized_room hs i (by omega)) hx w2 (h.below hb))
  · obtain ⟨W, hW, hW8⟩ := width_eight ho h15
    have ev : valueC c i = (wordAt c.data (i * W) W, []) := by
      unfold valueC
      rw [if_neg h15, if_neg h16, hW, Int.toNat_natCast]
    rw [ev]
    exact get_f c h15 h16 hW hc B D E X vals i hr hi hnl _ _ w h (fun w2 hb => value_f W hW8 c hc B D E X vals i (check_room hr h15 h16 hW hi) w2 (h.below hb))
theorem str_inj {a b : List Int} (ha : IsBytes a) (hb : IsBytes b) (h : strOfNums a = strOfNums b) : a = b :=
  wordKey_inj ha hb (by unfold wordKey; rw [h])
theorem same_bytes (xs ys : List Int) (A B : SL) (hx : IsBytes xs) (hy : IsBytes ys) (w : World) (ha : Rd w 1 (.slice A.a xs.length A.c) xs.length (xs.map (.int .u8))) (hb : Rd w 1 (.slice B.a ys.length B.c) ys.length (ys.map (.int .u8))) :
    Calls Tryz.prog 47 #[.slice A.a xs.length A.c, .slice B.a ys.length B.c] w fun e w' => e = .returned (.bool (decide (xs = ys))) ∧ w = w' := by
  have h1 := conv_any A.a _ A.c xs rfl w ha
  have h2 := conv_any B.a _ B.c ys rfl w hb
  have HD := Aside.mk (show ((strOfNums xs).toList == (strOfNums ys).toList) = decide (xs = ys) by
    rw [Bool.eq_iff_iff, beq_iff_eq, decide_eq_true_eq, ByteArray.toList_eq, ByteArray.toList_eq, strOfNums_data, strOfNums_data]
    exact ⟨map_byte_inj xs ys hx hy, fun h => by rw [h]⟩)
  clear ha hb
  generalize strOfNums xs = sx at *
  generalize strOfNums ys = sy at *
  generalize xs.length = n at *
  generalize ys.length = m at *
  go_enter Tryz.func47, Tryz.ntmps47
  go_wp2
  go_ret
  exact ⟨ret_bool HD.out, rfl⟩
end Go.Proofs.YtmhjjhaipcgbiaaGreat
