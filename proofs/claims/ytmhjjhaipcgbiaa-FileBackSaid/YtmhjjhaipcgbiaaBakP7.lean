/- Texts of this claim, one behind the other: Code, Words, Mask. -/
import Derived.Test.YtmhjjhaipcgbiaaBakP6

namespace Go.Proofs.Ytmhjjhaipcgbiaa
open Go.RowKit Go.Maps
set_option linter.unusedVariables false
set_option linter.unusedSimpArgs false
set_option maxRecDepth 100000
set_option maxHeartbeats 1000000
theorem string_law : Keyed Try.prog 9 := string_keyed Try.underlying9
theorem int_zero (w : World) : (zeroValue 3).run Try.prog w = .ok (.int .i64 0) w := by kernel_rfl
theorem bytesinfo : (Try.prog.info? 37).map (fun i => (i.zero, i.size, i.bytes)) = some (some (.slice none 0 0), 1, 24) := by kernel_rfl
theorem conv_nil (a : Option Addr) (c : Nat) (w : World) : (convert 37 9 (.slice a 0 c)).run Try.prog w = .ok (.string (strOfNums [])) w := by
  cases a <;> kernel_rfl
theorem conv_any (a : Option Addr) (n c : Nat) (xs : List Int) (hn : xs.length = n) (w : World) (h : Rd w 1 (.slice a n c) n (xs.map (.int .u8))) : (convert 37 9 (.slice a n c)).run Try.prog w = .ok (.string (strOfNums xs)) w := by
  rcases Nat.eq_zero_or_pos n with h0 | h0
  · subst h0
    obtain rfl : xs = [] := List.eq_nil_of_length_eq_zero hn
    exact conv_nil a c w
  · obtain ⟨g, o, d, e, _, _, hc⟩ := h.some_ (by rw [List.length_map]; omega)
    rw [e]
    exact run_convert_bytes_arg w 37 5 Try.underlying37 Try.underlying5 g o n d xs hn (fun i hi => hc i _ (by
      have : i < xs.length := by omega
      simp [List.getElem?_eq_getElem this, List.getD])) 9 Try.underlying9
theorem look_code {w : World} {T : Nat → Prop} {lw : Nat} {ws : List (List Int)} {wv : Value} {mb : Nat} {vals : List Value} {D : DataW Unit} (h : WLx w T lw ws wv mb vals D) (tx : List Int) (ht : IsBytes tx) (hl : tx.length ≤ 100000000) :
    ∃ c : Int, (Instr.lookup 174 (.map (some mb)) (.string (strOfNums tx)) true).run Try.prog w = .ok (.tuple #[.int .i64 c, .bool (ws.contains tx)]) w ∧ (ws.contains tx = true → c = (codeOf ws tx : Int)) := by
  obtain ⟨n, hm, hn⟩ := h.map
  obtain ⟨v, ps, hrun, hv⟩ := hm.look_ok string_law Try.underlying174 (int_zero w) (plainElem_int Try.underlying3 (by decide)) (wordKey_key tx (by unfold maxLen; omega))
  obtain ⟨c, rfl, hc, _⟩ := plainElem_int_inv Try.underlying3 hv
  rw [h.codes.1 tx ht] at hrun
  refine ⟨c, hrun, fun hcon => ?_⟩
  have := h.codes.2 _ tx (codeOf_get hcon)
  have e := congrArg Prod.fst hc
  rw [this] at e
  simp at e
  exact e.symm
theorem wf_len (n : Nat) (h : n ≤ 100000000) : (Lit.int .i64 (n : Int)).wf = true := by
  have h1 : IntKind.i64.min ≤ 0 := by decide
  have h2 : 100000000 ≤ IntKind.i64.max := by decide
  unfold Lit.wf
  simp only [Bool.and_eq_true, decide_eq_true_eq]
  omega
theorem store_code {w : World} {T : Nat → Prop} {lw : Nat} {ws : List (List Int)} {wv : Value} {mb : Nat} {vals : List Value} {D : DataW Unit} (h : WLx w T lw ws wv mb vals D) (tx : List Int) (ht : IsBytes tx) (hl : tx.length ≤ 100000000) (hw : ws.length ≤ 100000000) :
    ∃ w', (Instr.mapUpdate 174 (.map (some mb)) (.string (strOfNums tx)) (.int .i64 (ws.length : Int))).run Try.prog w = .ok () w' ∧ (∃ n, w'.ownsMap Try.prog 9 (plainElem Try.prog 3) mb n (D.put (wordKey tx) (.lit (.int .i64 (ws.length : Int)))) ∧ n ≤ ws.length + 1) ∧ w.grownBy w' (some mb) := by
  obtain ⟨n, hm, hn⟩ := h.map
  obtain ⟨w', h1, h2, h3⟩ := hm.update string_law Try.underlying174 (by unfold maxLen; omega) (wordKey_key tx (by unfold maxLen; omega)) (plainElem_int Try.underlying3 (q := .i64) (a := (ws.length : Int)) (wf_len _ (by omega)))
  exact ⟨w', h1, ⟨_, h2, by omega⟩, h3⟩
theorem map_ne_cells {w : World} {a b : Nat} {es : Array MapEntry} {k : Nat} {cs : Array Value} {t : TypeId} {f : Nat × Nat} (h1 : w.heap[a]? = some (.map es k)) (h2 : w.heap[b]? = some (.cells cs t f)) : a ≠ b := by
  rintro rfl
  rw [h1] at h2; cases h2
theorem rd_kept2 {S : Nat → Prop} {w w' : World} {sz n : Nat} {v : Value} {xs : List Value} (h : Rd w sz v n xs) (hb : Kept S w w') (hS : ∀ k o u, w.cell? ⟨k, o, none⟩ = some u → v.ownBlock = some k → ¬ S k) : Rd w' sz v n xs := by
  obtain ⟨hl, a, cap, rfl, h1, h2, h3, h4⟩ := h
  refine ⟨hl, a, cap, rfl, h1, h2, h3, fun j u hu => ?_⟩
  obtain ⟨b, off, rfl, hc⟩ := h4 j u hu
  exact ⟨b, off, rfl, hb.cell hc (hS b _ u hc rfl)⟩
theorem own_blk {w : World} {base : Nat} {E : TypeId} {sz n : Nat} {v : Value} {xs : List Value} (h : Own w base E sz v n xs) {b : Nat} (hb : v.ownBlock = some b) : ∃ cur, w.heap[b]? = some (.cells cur E (0, 0)) := by
  rcases h.2 with ⟨rfl, _⟩ | ⟨g, off, cap, cur, rfl, _, hg, _⟩
  · cases hb
  · cases hb; exact ⟨cur, hg⟩
theorem wl_done {w w1 w3 w5 : World} {T : Nat → Prop} {lw : Nat} {ws : List (List Int)} {wv v' v5 : Value} {mb : Nat} {vals : List Value} {D : DataW Unit} {tx : List Int} {n1 : Nat} (H : WLx w T lw ws wv mb vals D) (hb : IsBytes tx) (hcon : ws.contains tx = false)
    (hm1 : w1.ownsMap Try.prog 9 (plainElem Try.prog 3) mb n1 (D.put (wordKey tx) (.lit (.int .i64 (ws.length : Int))))) (hn1 : n1 ≤ ws.length + 1) (hg1 : w.drew.drew.grownBy w1 (some mb))
    (hb3 : Below w1.heap.size w1 w3) (ho : Own w3 w1.heap.size 5 1 v' tx.length (tx.map (.int .u8)))
    (hgrow : (w3.alloc (.cells #[v'] 37)).grownBy w5 wv.ownBlock) (hown : Own w5 0 37 1 v5 (ws.length + 1) (vals ++ [v'])) (hat : v5.ownBlock = wv.ownBlock ∨ ∃ b, v5.ownBlock = some b ∧ (w3.alloc (.cells #[v'] 37)).heap.size ≤ b) :
    WL (w5.setCell ⟨lw, 0, none⟩ v5) (fun b => T b ∨ w.heap.size ≤ b) lw (addWord ws tx) ∧ Kept T w (w5.setCell ⟨lw, 0, none⟩ v5) := by
  obtain ⟨n0, hm0, _⟩ := H.map
  obtain ⟨es0, ck0, hmb0, _⟩ := hm0
  have hmlt := lt_of_blk hmb0
  have hllt := lt_of_blk H.blk
  have hml : mb ≠ lw := map_ne_cells hmb0 H.blk
  have k1 : Kept (fun b => b = mb) w w1 := ((Kept.of_below (S := fun b => b = mb) (below_drewN w _ 2)).trans (Kept.of_grown hg1) (fun k e _ => by simpa using e))
  have hs1 := k1.size
  have hs3 := hb3.size
  have hmw : ∀ b, wv.ownBlock = some b → b ≠ mb := by
    rintro b e rfl
    obtain ⟨cur, hc⟩ := own_blk H.row e
    exact map_ne_cells hmb0 hc rfl
  have row1 : Own w1 0 37 1 wv ws.length vals := H.row.kept k1 hmw
  have k2 : Kept (fun b => wv.ownBlock = some b) w1 w5 := ((Kept.of_below (S := fun b => wv.ownBlock = some b) hb3).trans (Kept.of_below (S := fun b => wv.ownBlock = some b) (below_new w3 (.cells #[v'] 37))) (fun _ e _ => e)).trans (Kept.of_grown hgrow) (fun _ e _ => e.symm)
  have hs5 := k2.size
  have hl1 := (k1.block lw hllt (fun e => hml e.symm)).trans H.blk
  have nlw : wv.ownBlock ≠ some lw := H.row.blk_ne H.blk (by decide)
  have hl5 := (k2.block lw (lt_of_blk hl1) nlw).trans hl1
  have k3 : Kept (fun b => b = mb ∨ wv.ownBlock = some b ∨ b = lw) w (w5.setCell ⟨lw, 0, none⟩ v5) :=
    ((k1.mono (T := fun b => b = mb ∨ wv.ownBlock = some b ∨ b = lw) (fun k e _ => .inl e)).trans k2 (fun k e _ => .inr (.inl e))).trans (Kept.setCell _ _ _) (fun k e _ => .inr (.inr e))
  have k4 : Kept (fun b => wv.ownBlock = some b ∨ b = lw) w1 (w5.setCell ⟨lw, 0, none⟩ v5) :=
    (k2.mono (T := fun b => wv.ownBlock = some b ∨ b = lw) (fun k e _ => .inl e)).trans (Kept.setCell _ _ _) (fun k e _ => .inr e)
  have k5 : Kept (fun b => wv.ownBlock = some b ∨ b = lw) w3 (w5.setCell ⟨lw, 0, none⟩ v5) :=
    (((Kept.of_below (S := fun b => wv.ownBlock = some b ∨ b = lw) (below_new w3 (.cells #[v'] 37))).trans (Kept.of_grown hgrow) (fun _ e _ => .inl e.symm))).trans (Kept.setCell _ _ _) (fun k e _ => .inr e)
  refine ⟨?_, k3.mono (fun k e _ => by
    rcases e with rfl | e | rfl
    · exact H.tm
    · exact H.tw _ e
    · exact H.tl)⟩
  rw [addWord_new hcon]
  refine ⟨v5, mb, vals ++ [v'], _, ⟨?_, ⟨n1, ?_, by simpa using hn1⟩, codesOK_put H.codes (World.ownsMap.isMap H.map.choose_spec.1) H.bytes hb hcon, ?_, ?_, .inl H.tl, .inl H.tm, ?_, ?_, ?_⟩⟩
  · have := heap_setCell_at (k := 0) hl5 v5
    simpa using this
  · obtain ⟨es, ck, hmb, r⟩ := hm1
    refine ⟨es, ck, (k4.block mb (lt_of_blk hmb) ?_).trans hmb, r⟩
    rintro (e | e)
    · exact hmw _ e rfl
    · exact hml e
  · rw [List.length_append]
    exact hown.set_other (hown.blk_ne hl5 (by decide)) _
  · refine ⟨by simp [H.words.1], fun i t hi => ?_⟩
    rcases Nat.lt_or_ge i ws.length with hlt | hge
    · rw [List.getElem?_append_left hlt] at hi
      obtain ⟨v, h1, h2, h3⟩ := H.words.2 i t hi
      refine ⟨v, by rw [List.getElem?_append_left (by rw [H.words.1]; exact hlt)]; exact h1, h2.kept k3 (fun k e => ?_), fun b e => .inl (h3 b e)⟩
      obtain ⟨cur, hc⟩ := own_blk h2 e
      rintro (e1 | e1 | e1)
      · exact map_ne_cells hmb0 hc e1.symm
      · exact H.row.blk_ne hc (by decide) e1
      · exact blk_ne hc H.blk (by decide) e1
    · rw [List.getElem?_append_right hge] at hi
      have h0 : i - ws.length = 0 := by
        have := (List.getElem?_eq_some_iff.1 hi).1
        simp at this
        omega
      rw [h0] at hi
      simp at hi
      subst hi
      refine ⟨v', ?_, (ho.kept k5 (fun k e => ?_)).mono (Nat.zero_le _), fun b e => .inr (by have := (ho.lt b e).1; omega)⟩
      · rw [List.getElem?_append_right (by rw [H.words.1]; exact hge), H.words.1, h0]; rfl
      · have hlt := (ho.lt k e).1
        rintro (e1 | e1)
        · have := (row1.lt k e1).2; omega
        · have := lt_of_blk hl1; omega
  · intro b e
    rcases hat with h | ⟨b', h, hle⟩
    · rw [h] at e; exact .inl (H.tw b e)
    · rw [h] at e; cases e
      refine .inr ?_
      have : w3.heap.size + 1 ≤ b := by simpa using hle
      omega
  · rw [← addWord_new hcon]; exact addWord_nodup H.nodup tx
  · rw [← addWord_new hcon]; exact addWord_bytes H.bytes hb
def CodeP (T : Nat → Prop) (lw : Nat) (ws : List (List Int)) (tx : List Int) (w : World) (e : Ending) (w' : World) : Prop :=
  e = .returned (.int .i64 (codeOf ws tx : Int)) ∧ WL w' (fun b => T b ∨ w.heap.size ≤ b) lw (addWord ws tx) ∧ Kept T w w'
theorem code_any (T : Nat → Prop) (lw : Nat) (ws : List (List Int)) (tx : List Int) (ta : Option Addr) (tc : Nat) (hb : IsBytes tx) (hl : tx.length ≤ 100000000) (hw : ws.length ≤ 100000000) (w : World) (h : WL w T lw ws) (ht : Rd w 1 (.slice ta tx.length tc) tx.length (tx.map (.int .u8))) :
    Calls Try.prog 105 #[.pointer (some ⟨lw, 0, none⟩), .slice ta tx.length tc] w (CodeP T lw ws tx w) := by
  obtain ⟨wv, mb, vals, D, h⟩ := h
  have hc0 := cell_blk (k := 0) h.blk
  have hc1 := cell_blk (k := 1) h.blk
  have hf0 := frozen_blk (k := 0) h.blk
  simp at hc0 hc1
  have hlw := lt_of_blk h.blk
  obtain ⟨c, hlook, hceq⟩ := look_code (show WLx w.drew T lw ws wv mb vals D from h.kept (Kept.of_below (S := fun _ => False) (below_drewN _ _ 1)) (fun _ _ _ e => e)) tx hb hl
  have hconv := conv_any ta _ tc tx rfl w.drew (ht.below (below_drewN _ _ 1))
  obtain ⟨wa, wc, rfl⟩ := h.row.form
  have H := Aside.mk h
  have HT := Aside.mk ht
  cases hcon : ws.contains tx with
  | true =>
    rw [hcon] at hlook
    have hce := hceq hcon
    subst hce
    have hcon := Aside.mk hcon
    clear h ht hceq
    go_enter Try.func105, Try.ntmps105
    go_wp2
    go_region
    go_wp2
    go_ret
    refine ⟨rfl, ?_, Kept.of_below (below_drewN _ _ 1)⟩
    rw [addWord_old hcon.out]
    exact ⟨_, mb, vals, D, (H.out.kept (Kept.of_below (S := fun _ => False) (below_drewN w _ 1)) (fun _ _ _ e => e)).mono (fun b hb _ => .inl hb)⟩
  | false =>
    rw [hcon] at hlook
    have hce := codeOf_new hcon
    have hcon := Aside.mk hcon
    have H1 := (show WLx w.drew.drew T lw ws (.slice wa ws.length wc) mb vals D from h.kept (Kept.of_below (S := fun _ => False) (below_drewN _ _ 2)) (fun _ _ _ e => e))
    have hconv2 := conv_any ta _ tc tx rfl w.drew.drew (ht.below (below_drewN _ _ 2))
    obtain ⟨w1, hupd, ⟨n1, hm1, hn1⟩, hg1⟩ := store_code H1 tx hb hl hw
    have HM := Aside.mk (And.intro hm1 (And.intro hn1 hg1))
    clear h ht hceq hm1 hn1 hg1 H1
    go_enter Try.func105, Try.ntmps105
    go_wp2
    go_region
    go_wp2
    go_region
    obtain ⟨es0, ck0, hmb0, _⟩ := H.out.map.choose_spec.1
    have hml : mb ≠ lw := map_ne_cells hmb0 H.out.blk
    have k1 : Kept (fun b => b = mb) w w1 := ((Kept.of_below (S := fun b => b = mb) (below_drewN w _ 2)).trans (Kept.of_grown HM.out.2.2) (fun k e _ => by simpa using e))
    have hl1 := (k1.block lw hlw (fun e => hml e.symm)).trans H.out.blk
    have hmw : ∀ b, Value.ownBlock (.slice wa ws.length wc) = some b → b ≠ mb := by
      rintro b e rfl
      obtain ⟨cur, hc⟩ := own_blk H.out.row e
      exact map_ne_cells hmb0 hc rfl
    have row1 := Aside.mk (show Own w1 0 37 1 (.slice wa ws.length wc) ws.length vals from H.out.row.kept k1 hmw)
    have hc0 := cell_blk (k := 0) hl1
    have hf0 := frozen_blk (k := 0) hl1
    simp at hc0
    have hlw1 := lt_of_blk hl1
    have nlw := Aside.mk (show Value.ownBlock (.slice wa ws.length wc) ≠ some lw from H.out.row.blk_ne H.out.blk (by decide))
    have HL1 := Aside.mk hl1
    have HT1 := Aside.mk (show Rd w1.drew 1 (.slice ta tx.length tc) tx.length (tx.map (.int .u8)) from (rd_kept2 HT.out k1 (fun b o u hu _ e => by
      subst e
      simp [World.cell?, hmb0] at hu)).below (below_drewN _ _ 1))
    have h1c := Aside.mk (one_map (fun x : Int => Value.int .u8 x) (fun _ => rfl) tx)
    clear hl1 k1 hmw hmb0 hconv hconv2 hlook hupd
    go_wp2
    go_region_law (first
      | (refine step_call (P := Try.prog) w1.drew (by rfl) 66 [.tmp 36] _ (by rfl) [.slice ta tx.length tc] (by rfl) (fun _ _ => rfl) (clone_bytes (.slice ta tx.length tc) tx.length _ w1.drew (by omega) HT1.out h1c.out) ?_; rintro e w3 ⟨v', rfl, ho, hb3⟩; obtain ⟨va, vc, rfl⟩ := ho.form; replace hb3 : Below w1.heap.size w1 w3 := (below_drewN w1 _ 1).trans hb3; have hl3 := (hb3.block lw hlw1).trans HL1.out; have hc03 := cell_blk (k := 0) hl3; have hf03 := frozen_blk (k := 0) hl3; simp at hc03; have hlw3 := lt_of_blk hl3; have HO := Aside.mk ho; have HB3 := Aside.mk hb3; have HL3 := Aside.mk hl3; clear ho hb3 hl3; refine ⟨_, rfl, ?_⟩)
      | (refine step_app (P := Try.prog) _ (by rfl) (.tmp 35) (.tmp 38) 41 41 (by rfl) 0 37 (.slice none 0 0) 1 24 Try.underlying41 bytesinfo (by rfl) (.slice wa ws.length wc) ws.length vals (by rfl) ((row1.out.below HB3.out).alloc _) (.slice (some ⟨_, 0, none⟩) 1 1) 1 [.slice va tx.length vc] (by rfl) (src_one Try.underlying41 _ (.slice va tx.length vc) 37 rfl rfl) (by unfold maxLen; omega) (by omega) (Nat.zero_le _) ?_; intro v5 w5 hown' hgrow _ hat; obtain ⟨a5, c5, rfl⟩ := hown'.form; have hb5 := (hgrow.block lw (by simp; omega) (fun e => nlw.out e.symm)).trans ((Below.heap_alloc _ (.cells #[.slice va tx.length vc] 37) _ hlw3).trans HL3.out); have hc5 := cell_blk (k := 0) hb5; have hf5 := frozen_blk (k := 0) hb5; simp at hc5; have HG5 := Aside.mk (And.intro hown' (And.intro hgrow hat)); clear hown' hgrow hat hb5))
    all_goals
      go_wp2
      go_ret
      refine ⟨by rw [hce]; rfl, ?_⟩
      exact wl_done H.out hb hcon.out HM.out.1 HM.out.2.1 HM.out.2.2 HB3.out (HO.out.mono (by show _ ≤ w1.heap.size; exact Nat.le_refl _)) HG5.out.2.1 HG5.out.1 HG5.out.2.2
end Go.Proofs.Ytmhjjhaipcgbiaa


namespace Go.Proofs.Ytmhjjhaipcgbiaa
open Go.RowKit Go.Maps
set_option linter.unusedVariables false
set_option linter.unusedSimpArgs false
set_option maxRecDepth 100000
set_option maxHeartbeats 1000000
def WOwn (w : World) (base i : Nat) (vals : List Value) (ws : List (List Int)) : Prop :=
  ∀ (j : Nat) t, j < i → ws[j]? = some t → ∃ a cap, vals[j]? = some (.slice a t.length cap) ∧ Own w base 5 1 (.slice a t.length cap) t.length (t.map (.int .u8))
def WSep (i : Nat) (vals : List Value) : Prop := ∀ (j j' : Nat) v v', j < j' → j' < i → vals[j]? = some v → vals[j']? = some v' → ∀ b, v.ownBlock = some b → v'.ownBlock ≠ some b
theorem WOwn.kept {w w' : World} {base i : Nat} {vals : List Value} {ws : List (List Int)} {S : Nat → Prop} (h : WOwn w base i vals ws) (hk : Kept S w w') (hS : ∀ k, base ≤ k → k < w.heap.size → (∃ cs, w.heap[k]? = some (.cells cs 5 (0, 0))) → ¬ S k) : WOwn w' base i vals ws := fun j t hj ht => by
  obtain ⟨a, cap, h1, h2⟩ := h j t hj ht
  exact ⟨a, cap, h1, h2.kept hk (fun k e => hS k (h2.lt k e).1 (h2.lt k e).2 (own_blk h2 e))⟩
end Go.Proofs.Ytmhjjhaipcgbiaa


namespace Go.Proofs.Ytmhjjhaipcgbiaa
open Go.RowKit
set_option linter.unusedVariables false
set_option linter.unusedSimpArgs false
set_option maxRecDepth 100000
set_option maxHeartbeats 1000000
def mrow (bs : List Int) (n : Nat) : List Int := if n % 8 = 0 then bs ++ [0] else bs
def morb (x : Int) (k : Nat) : Int := bits .or .u8 x (2 ^ k % 256)
def mput (bs : List Int) (n : Nat) (bit : Bool) : List Int := if bit then (mrow bs n).set (n / 8) (morb ((mrow bs n).getD (n / 8) 0) (n % 8)) else mrow bs n
theorem mrow_len (bs : List Int) (n : Nat) (h : bs.length = (n + 7) / 8) : (mrow bs n).length = n / 8 + 1 := by
  unfold mrow
  split
  · rw [List.length_append, h]; simp; omega
  · rw [h]; omega
theorem mput_len (bs : List Int) (n : Nat) (bit : Bool) (h : bs.length = (n + 7) / 8) : (mput bs n bit).length = n / 8 + 1 := by
  unfold mput
  split
  · rw [List.length_set]; exact mrow_len bs n h
  · exact mrow_len bs n h
end Go.Proofs.Ytmhjjhaipcgbiaa
