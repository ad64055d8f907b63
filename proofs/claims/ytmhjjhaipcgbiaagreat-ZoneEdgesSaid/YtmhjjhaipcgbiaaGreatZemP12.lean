/- Texts of this claim, one behind the other: Code, DictC, MayC. -/
import Derived.Test.YtmhjjhaipcgbiaaGreatZemP10
import Derived.Test.YtmhjjhaipcgbiaaGreatZemP7
import Derived.Test.YtmhjjhaipcgbiaaGreatZemP9
import Derived.Test.YtmhjjhaipcgbiaaGreatZemP11

namespace Go.Proofs.YtmhjjhaipcgbiaaGreat
open Go.RowKit Go.Maps
set_option linter.unusedVariables false
set_option linter.unusedSimpArgs false
set_option maxRecDepth 100000
set_option maxHeartbeats 1000000
theorem string_law : Keyed Tryz.prog 9 := string_keyed Tryz.underlying9
theorem int_zero (w : World) : (zeroValue 3).run Tryz.prog w = .ok (.int .i64 0) w := by kernel_rfl
theorem bytesinfo : (Tryz.prog.info? 43).map (fun i => (i.zero, i.size, i.bytes)) = some (some (.slice none 0 0), 1, 24) := by kernel_rfl
theorem conv_nil (a : Option Addr) (c : Nat) (w : World) : (convert 43 9 (.slice a 0 c)).run Tryz.prog w = .ok (.string (strOfNums [])) w := by
  cases a <;> kernel_rfl
theorem conv_any (a : Option Addr) (n c : Nat) (xs : List Int) (hn : xs.length = n) (w : World) (h : Rd w 1 (.slice a n c) n (xs.map (.int .u8))) : (convert 43 9 (.slice a n c)).run Tryz.prog w = .ok (.string (strOfNums xs)) w := by
  rcases Nat.eq_zero_or_pos n with h0 | h0
  · subst h0
    obtain rfl : xs = [] := List.eq_nil_of_length_eq_zero hn
    exact conv_nil a c w
  · obtain ⟨g, o, d, e, _, _, hc⟩ := h.some_ (by rw [List.length_map]; omega)
    rw [e]
    exact run_convert_bytes_arg w 43 5 Tryz.underlying43 Tryz.underlying5 g o n d xs hn (fun i hi => hc i _ (by
      have : i < xs.length := by omega
      simp [List.getElem?_eq_getElem this, List.getD])) 9 Tryz.underlying9
theorem look_code {w : World} {T : Nat → Prop} {lw : Nat} {ws : List (List Int)} {wv : Value} {mb : Nat} {vals : List Value} {D : DataW Unit} (h : WLx w T lw ws wv mb vals D) (tx : List Int) (ht : IsBytes tx) (hl : tx.length ≤ 100000000) :
    ∃ c : Int, (Instr.lookup 210 (.map (some mb)) (.string (strOfNums tx)) true).run Tryz.prog w = .ok (.tuple #[.int .i64 c, .bool (ws.contains tx)]) w ∧ (ws.contains tx = true → c = (codeOf ws tx : Int)) := by
  obtain ⟨n, hm, hn⟩ := h.map
  obtain ⟨v, ps, hrun, hv⟩ := hm.look_ok string_law Tryz.underlying210 (int_zero w) (plainElem_int Tryz.underlying3 (by decide)) (wordKey_key tx (by unfold maxLen; omega))
  obtain ⟨c, rfl, hc, _⟩ := plainElem_int_inv Tryz.underlying3 hv
  rw [h.codes.1 tx ht] at hrun
  refine ⟨c, hrun, fun hcon => ?_⟩
  have := h.codes.2 _ tx (codeOf_get hcon)
  have e := congrArg Prod.fst hc
  rw [this] at e
  simp at e
  exact e.symm
theorem wf_len (n : Nat) (h : n ≤ 100000000) : (Lit.int .i64 (n : Int)).wf = true := by
  have h1 : IntKind.i64.min ≤ 0 := by decide
  have h2 : 100000000 ≤ IntKind.i64.max := by decide
  unfold Lit.wf
  simp only [Bool.and_eq_true, decide_eq_true_eq]
  omega
theorem store_code {w : World} {T : Nat → Prop} {lw : Nat} {ws : List (List Int)} {wv : Value} {mb : Nat} {vals : List Value} {D : DataW Unit} (h : WLx w T lw ws wv mb vals D) (tx : List Int) (ht : IsBytes tx) (hl : tx.length ≤ 100000000) (hw : ws.length ≤ 100000000) :
    ∃ w', (Instr.mapUpdate 210 (.map (some mb)) (.string (strOfNums tx)) (.int .i64 (ws.length : Int))).run Tryz.prog w = .ok () w' ∧ (∃ n, w'.ownsMap Tryz.prog 9 (plainElem Tryz.prog 3) mb n (D.put (wordKey tx) (.lit (.int .i64 (ws.length : Int)))) ∧ n ≤ ws.length + 1) ∧ w.grownBy w' (some mb) := by
  obtain ⟨n, hm, hn⟩ := h.map
  obtain ⟨w', h1, h2, h3⟩ := hm.update string_law Tryz.underlying210 (by unfold maxLen; omega) (wordKey_key tx (by unfold maxLen; omega)) (plainElem_int Tryz.underlying3 (q := .i64) (a := (ws.length : Int)) (wf_len _ (by omega)))
  exact ⟨w', h1, ⟨_, h2, by omega⟩, h3⟩
theorem map_ne_cells {w : World} {a b : Nat} {es : Array MapEntry} {k : Nat} {cs : Array Value} {t : TypeId} {f : Nat × Nat} (h1 : w.heap[a]? = some (.map es k)) (h2 : w.heap[b]? = some (.cells cs t f)) : a ≠ b := by
  rintro rfl
  rw [h1] at h2; cases h2
theorem rd_kept2 {S : Nat → Prop} {w w' : World} {sz n : Nat} {v : Value} {xs : List Value} (h : Rd w sz v n xs) (hb : Kept S w w') (hS : ∀ k o u, w.cell? ⟨k, o, none⟩ = some u → v.ownBlock = some k → ¬ S k) : Rd w' sz v n xs := by
  obtain ⟨hl, a, cap, rfl, h1, h2, h3, h4⟩ := h
  refine ⟨hl, a, cap, rfl, h1, h2, h3, fun j u hu => ?_⟩
  obtain ⟨b, off, rfl, hc⟩ := h4 j u hu
  exact ⟨b, off, rfl, hb.cell hc (hS b _ u hc rfl)⟩
theorem own_blk {w : World} {base : Nat} {E : TypeId} {sz n : Nat} {v : Value} {xs : List Value} (h : Own w base E sz v n xs) {b : Nat} (hb : v.ownBlock = some b) : ∃ cur, w.heap[b]? = some (.cells cur E (0, 0)) := by
  rcases h.2 with ⟨rfl, _⟩ | ⟨g, off, cap, cur, rfl, _, hg, _⟩
  · cases hb
  · cases hb; exact ⟨cur, hg⟩
theorem wl_done {w w1 w3 w5 : World} {T : Nat → Prop} {lw : Nat} {ws : List (List Int)} {wv v' v5 : Value} {mb : Nat} {vals : List Value} {D : DataW Unit} {tx : List Int} {n1 : Nat} (H : WLx w T lw ws wv mb vals D) (hb : IsBytes tx) (hcon : ws.contains tx = false)
    (hm1 : w1.ownsMap Tryz.prog 9 (plainElem Tryz.prog 3) mb n1 (D.put (wordKey tx) (.lit (.int .i64 (ws.length : Int))))) (hn1 : n1 ≤ ws.length + 1) (hg1 : w.drew.drew.grownBy w1 (some mb))
    (hb3 : Below w1.heap.size w1 w3) (ho : Own w3 w1.heap.size 5 1 v' tx.length (tx.map (.int .u8)))
    (hgrow : (w3.alloc (.cells #[v'] 43)).grownBy w5 wv.ownBlock) (hown : Own w5 0 43 1 v5 (ws.length + 1) (vals ++ [v'])) (hat : v5.ownBlock = wv.ownBlock ∨ ∃ b, v5.ownBlock = some b ∧ (w3.alloc (.cells #[v'] 43)).heap.size ≤ b) :
    WL (w5.setCell ⟨lw, 0, none⟩ v5) (fun b => T b ∨ w.heap.size ≤ b) lw (addWord ws tx) ∧ Kept T w (w5.setCell ⟨lw, 0, none⟩ v5) := by
  obtain ⟨n0, hm0, _⟩ := H.map
  obtain ⟨es0, ck0, hmb0, _⟩ := hm0
  have hmlt := lt_of_blk hmb0
  have hllt := lt_of_blk H.blk
  have hml : mb ≠ lw := map_ne_cells hmb0 H.blk
  have k1 : Kept (fun b => b = mb) w w1 := ((Kept.of_below (S := fun b => b = mb) (below_drewN w _ 2)).trans (Kept.of_grown hg1) (fun k e _ => by simpa using e))
  have hs1 := k1.size
  have hs3 := hb3.size
  have hmw : ∀ b, wv.ownBlock = some b → b ≠ mb := by
    rintro b e rfl
    obtain ⟨cur, hc⟩ := own_blk H.row e
    exact map_ne_cells hmb0 hc rfl
  have row1 : Own w1 0 43 1 wv ws.length vals := H.row.kept k1 hmw
  have k2 : Kept (fun b => wv.ownBlock = some b) w1 w5 := ((Kept.of_below (S := fun b => wv.ownBlock = some b) hb3).trans (Kept.of_below (S := fun b => wv.ownBlock = some b) (below_new w3 (.cells #[v'] 43))) (fun _ e _ => e)).trans (Kept.of_grown hgrow) (fun _ e _ => e.symm)
  have hs5 := k2.size
  have hl1 := (k1.block lw hllt (fun e => hml e.symm)).trans H.blk
  have nlw : wv.ownBlock ≠ some lw := H.row.blk_ne H.blk (by decide)
  have hl5 := (k2.block lw (lt_of_blk hl1) nlw).trans hl1
  have k3 : Kept (fun b => b = mb ∨ wv.ownBlock = some b ∨ b = lw) w (w5.setCell ⟨lw, 0, none⟩ v5) :=
    ((k1.mono (T := fun b => b = mb ∨ wv.ownBlock = some b ∨ b = lw) (fun k e _ => .inl e)).trans k2 (fun k e _ => .inr (.inl e))).trans (Kept.setCell _ _ _) (fun k e _ => .inr (.inr e))
  have k4 : Kept (fun b => wv.ownBlock = some b ∨ b = lw) w1 (w5.setCell ⟨lw, 0, none⟩ v5) :=
    (k2.mono (T := fun b => wv.ownBlock = some b ∨ b = lw) (fun k e _ => .inl e)).trans (Kept.setCell _ _ _) (fun k e _ => .inr e)
  have k5 : Kept (fun b => wv.ownBlock = some b ∨ b = lw) w3 (w5.setCell ⟨lw, 0, none⟩ v5) :=
    (((Kept.of_below (S := fun b => wv.ownBlock = some b ∨ b = lw) (below_new w3 (.cells #[v'] 43))).trans (Kept.of_grown hgrow) (fun _ e _ => .inl e.symm))).trans (Kept.setCell _ _ _) (fun k e _ => .inr e)
  refine ⟨?_, k3.mono (fun k e _ => by
    rcases e with rfl | e | rfl
    · exact H.tm
    · exact H.tw _ e
    · exact H.tl)⟩
  rw [addWord_new hcon]
  refine ⟨v5, mb, vals ++ [v'], _, ⟨?_, ⟨n1, ?_, by simpa using hn1⟩, codesOK_put H.codes (World.ownsMap.isMap H.map.choose_spec.1) H.bytes hb hcon, ?_, ?_, .inl H.tl, .inl H.tm, ?_, ?_, ?_⟩⟩
  · have := heap_setCell_at (k := 0) hl5 v5
    simpa using this
  · obtain ⟨es, ck, hmb, r⟩ := hm1
    refine ⟨es, ck, (k4.block mb (lt_of_blk hmb) ?_).trans hmb, r⟩
    rintro (e | e)
    · exact hmw _ e rfl
    · exact hml e
  · rw [List.length_append]
    exact hown.set_other (hown.blk_ne hl5 (by decide)) _
  · refine ⟨by simp [H.words.1], fun i t hi => ?_⟩
    rcases Nat.lt_or_ge i ws.length with hlt | hge
    · rw [List.getElem?_append_left hlt] at hi
      obtain ⟨v, h1, h2, h3⟩ := H.words.2 i t hi
      refine ⟨v, by rw [List.getElem?_append_left (by rw [H.words.1]; exact hlt)]; exact h1, h2.kept k3 (fun k e => ?_), fun b e => .inl (h3 b e)⟩
      obtain ⟨cur, hc⟩ := own_blk h2 e
      rintro (e1 | e1 | e1)
      · exact map_ne_cells hmb0 hc e1.symm
      · exact H.row.blk_ne hc (by decide) e1
      · exact blk_ne hc H.blk (by decide) e1
    · rw [List.getElem?_append_right hge] at hi
      have h0 : i - ws.length = 0 := by
        have := (List.getElem?_eq_some_iff.1 hi).1
        simp at this
        omega
      rw [h0] at hi
      simp at hi
      subst hi
      refine ⟨v', ?_, (ho.kept k5 (fun k e => ?_)).mono (Nat.zero_le _), fun b e => .inr (by have := (ho.lt b e).1; omega)⟩
      · rw [List.getElem?_append_right (by rw [H.words.1]; exact hge), H.words.1, h0]; rfl
      · have hlt := (ho.lt k e).1
        rintro (e1 | e1)
        · have := (row1.lt k e1).2; omega
        · have := lt_of_blk hl1; omega
  · intro b e
    rcases hat with h | ⟨b', h, hle⟩
    · rw [h] at e; exact .inl (H.tw b e)
    · rw [h] at e; cases e
      refine .inr ?_
      have : w3.heap.size + 1 ≤ b := by simpa using hle
      omega
  · rw [← addWord_new hcon]; exact addWord_nodup H.nodup tx
  · rw [← addWord_new hcon]; exact addWord_bytes H.bytes hb
def CodeP (T : Nat → Prop) (lw : Nat) (ws : List (List Int)) (tx : List Int) (w : World) (e : Ending) (w' : World) : Prop :=
  e = .returned (.int .i64 (codeOf ws tx : Int)) ∧ WL w' (fun b => T b ∨ w.heap.size ≤ b) lw (addWord ws tx) ∧ Kept T w w'
theorem code_any (T : Nat → Prop) (lw : Nat) (ws : List (List Int)) (tx : List Int) (ta : Option Addr) (tc : Nat) (hb : IsBytes tx) (hl : tx.length ≤ 100000000) (hw : ws.length ≤ 100000000) (w : World) (h : WL w T lw ws) (ht : Rd w 1 (.slice ta tx.length tc) tx.length (tx.map (.int .u8))) :
    Calls Tryz.prog 134 #[.pointer (some ⟨lw, 0, none⟩), .slice ta tx.length tc] w (CodeP T lw ws tx w) := by
  obtain ⟨wv, mb, vals, D, h⟩ := h
  have hc0 := cell_blk (k := 0) h.blk
  have hc1 := cell_blk (k := 1) h.blk
  have hf0 := frozen_blk (k := 0) h.blk
  simp at hc0 hc1
  have hlw := lt_of_blk h.blk
  obtain ⟨c, hlook, hceq⟩ := look_code (show WLx w.drew T lw ws wv mb vals D from h.kept (Kept.of_below (S := fun _ => False) (below_drewN _ _ 1)) (fun _ _ _ e => e)) tx hb hl
  have hconv := conv_any ta _ tc tx rfl w.drew (ht.below (below_drewN _ _ 1))
  obtain ⟨wa, wc, rfl⟩ := h.row.form
  have H := Aside.mk h
  have HT := Aside.mk ht
  cases hcon : ws.contains tx with
  | true =>
    rw [hcon] at hlook
    have hce := hceq hcon
    subst hce
    have hcon := Aside.mk hcon
    clear h ht hceq
    go_enter Tryz.func134, Tryz.ntmps134
    go_wp2
    go_region
    go_wp2
    go_ret
    refine ⟨rfl, ?_, Kept.of_below (below_drewN _ _ 1)⟩
    rw [addWord_old hcon.out]
    exact ⟨_, mb, vals, D, (H.out.kept (Kept.of_below (S := fun _ => False) (below_drewN w _ 1)) (fun _ _ _ e => e)).mono (fun b hb _ => .inl hb)⟩
  | false =>
    rw [hcon] at hlook
    have hce := codeOf_new hcon
    have hcon := Aside.mk hcon
    have H1 := (show WLx w.drew.drew T lw ws (.slice wa ws.length wc) mb vals D from h.kept (Kept.of_below (S := fun _ => False) (below_drewN _ _ 2)) (fun _ _ _ e => e))
    have hconv2 := conv_any ta _ tc tx rfl w.drew.drew (ht.below (below_drewN _ _ 2))
    obtain ⟨w1, hupd, ⟨n1, hm1, hn1⟩, hg1⟩ := store_code H1 tx hb hl hw
    have HM := Aside.mk (And.intro hm1 (And.intro hn1 hg1))
    clear h ht hceq hm1 hn1 hg1 H1
    go_enter Tryz.func134, Tryz.ntmps134
    go_wp2
    go_region
    go_wp2
    go_region
    obtain ⟨es0, ck0, hmb0, _⟩ := H.out.map.choose_spec.1
    have hml : mb ≠ lw := map_ne_cells hmb0 H.out.blk
    have k1 : Kept (fun b => b = mb) w w1 := ((Kept.of_below (S := fun b => b = mb) (below_drewN w _ 2)).trans (Kept.of_grown HM.out.2.2) (fun k e _ => by simpa using e))
    have hl1 := (k1.block lw hlw (fun e => hml e.symm)).trans H.out.blk
    have hmw : ∀ b, Value.ownBlock (.slice wa ws.length wc) = some b → b ≠ mb := by
      rintro b e rfl
      obtain ⟨cur, hc⟩ := own_blk H.out.row e
      exact map_ne_cells hmb0 hc rfl
    have row1 := Aside.mk (show Own w1 0 43 1 (.slice wa ws.length wc) ws.length vals from H.out.row.kept k1 hmw)
    have hc0 := cell_blk (k := 0) hl1
    have hf0 := frozen_blk (k := 0) hl1
    simp at hc0
    have hlw1 := lt_of_blk hl1
    have nlw := Aside.mk (show Value.ownBlock (.slice wa ws.length wc) ≠ some lw from H.out.row.blk_ne H.out.blk (by decide))
    have HL1 := Aside.mk hl1
    have HT1 := Aside.mk (show Rd w1.drew 1 (.slice ta tx.length tc) tx.length (tx.map (.int .u8)) from (rd_kept2 HT.out k1 (fun b o u hu _ e => by
      subst e
      simp [World.cell?, hmb0] at hu)).below (below_drewN _ _ 1))
    have h1c := Aside.mk (one_map (fun x : Int => Value.int .u8 x) (fun _ => rfl) tx)
    clear hl1 k1 hmw hmb0 hconv hconv2 hlook hupd
    go_wp2
    go_region_law (first
      | (refine step_call (P := Tryz.prog) w1.drew (by rfl) 91 [.tmp 36] _ (by rfl) [.slice ta tx.length tc] (by rfl) (fun _ _ => rfl) (clone_bytes (.slice ta tx.length tc) tx.length _ w1.drew (by omega) HT1.out h1c.out) ?_; rintro e w3 ⟨v', rfl, ho, hb3⟩; obtain ⟨va, vc, rfl⟩ := ho.form; replace hb3 : Below w1.heap.size w1 w3 := (below_drewN w1 _ 1).trans hb3; have hl3 := (hb3.block lw hlw1).trans HL1.out; have hc03 := cell_blk (k := 0) hl3; have hf03 := frozen_blk (k := 0) hl3; simp at hc03; have hlw3 := lt_of_blk hl3; have HO := Aside.mk ho; have HB3 := Aside.mk hb3; have HL3 := Aside.mk hl3; clear ho hb3 hl3; refine ⟨_, rfl, ?_⟩)
      | (refine step_app (P := Tryz.prog) _ (by rfl) (.tmp 35) (.tmp 38) 37 37 (by rfl) 0 43 (.slice none 0 0) 1 24 Tryz.underlying37 bytesinfo (by rfl) (.slice wa ws.length wc) ws.length vals (by rfl) ((row1.out.below HB3.out).alloc _) (.slice (some ⟨_, 0, none⟩) 1 1) 1 [.slice va tx.length vc] (by rfl) (src_one Tryz.underlying37 _ (.slice va tx.length vc) 43 rfl rfl) (by unfold maxLen; omega) (by omega) (Nat.zero_le _) ?_; intro v5 w5 hown' hgrow _ hat; obtain ⟨a5, c5, rfl⟩ := hown'.form; have hb5 := (hgrow.block lw (by simp; omega) (fun e => nlw.out e.symm)).trans ((Below.heap_alloc _ (.cells #[.slice va tx.length vc] 43) _ hlw3).trans HL3.out); have hc5 := cell_blk (k := 0) hb5; have hf5 := frozen_blk (k := 0) hb5; simp at hc5; have HG5 := Aside.mk (And.intro hown' (And.intro hgrow hat)); clear hown' hgrow hat hb5))
    all_goals
      go_wp2
      go_ret
      refine ⟨by rw [hce]; rfl, ?_⟩
      exact wl_done H.out hb hcon.out HM.out.1 HM.out.2.1 HM.out.2.2 HB3.out (HO.out.mono (by show _ ≤ w1.heap.size; exact Nat.le_refl _)) HG5.out.2.1 HG5.out.1 HG5.out.2.2
end Go.Proofs.YtmhjjhaipcgbiaaGreat


namespace Go.Proofs.YtmhjjhaipcgbiaaGreat
open Go.RowKit
set_option linter.unusedVariables false
set_option linter.unusedSimpArgs false
set_option maxRecDepth 100000
set_option maxHeartbeats 1000000
def dictErr (ws : List (List Int)) : Int := if ws.Nodup then 0 else 180
theorem take_nodup_no {ws : List (List Int)} {i : Nat} (hi : i < ws.length) (h : (ws.take i).contains ws[i] = true) : ¬ ws.Nodup := by
  intro hn
  rw [← List.take_append_drop i ws, List.nodup_append] at hn
  simp at h
  exact hn.2.2 _ h _ (by rw [List.drop_eq_getElem_cons hi]; exact List.mem_cons_self ..) rfl
theorem dictCheck_any (ws : List (List Int)) (W : SL) (vals : List Value) (hl : ws.length ≤ 100000000) (hb : ∀ t ∈ ws, IsBytes t ∧ t.length ≤ 100000000) (w : World) (h : Rd w 1 (.slice W.a ws.length W.c) ws.length vals) (hw : RdWs w vals ws) :
    Calls Tryz.prog 225 #[.slice W.a ws.length W.c] w (IntP (dictErr ws) w) := by
  obtain ⟨wa, wc⟩ := W
  have HR := Aside.mk h
  have HW := Aside.mk hw
  have HB := Aside.mk hb
  clear h hw hb
  go_enter Tryz.func225, Tryz.ntmps225
  go_wp2_with (go_at_call 71; refine (dictNew_any _).mono ?_; rintro e w1 ⟨rfl, rfl⟩)
  go_loopw [9] (fun iv wr => ∃ i : Nat, i ≤ ws.length ∧ iv = .int .i64 (i : Int) ∧ Aside (Below w.heap.size w wr ∧ WL wr (fun b => w.heap.size ≤ b) (w.heap.size + 1) (ws.take i))) (fun iv _ => ws.length - (intOf iv).toNat)
  case atStart => exact ⟨0, by omega, rfl, ⟨((Below.refl _ _).alloc (Nat.le_refl _) _).alloc (by simp) _, wl_new w⟩⟩
  case round =>
    obtain ⟨i, hi, rfl, hp⟩ := hrel
    by_cases hlt : i < ws.length
    · obtain ⟨ta, tc, hv, ht⟩ := HW.out.2 i _ (List.getElem?_eq_getElem hlt)
      have hvl := HW.out.1
      obtain ⟨eb, eo, ecap, hs, hel, hecap, hcE⟩ := HR.out.some_ (by omega)
      simp only [Value.slice.injEq, true_and] at hs
      obtain ⟨rfl, rfl⟩ := hs
      have hc2 := (hp.out.1.cell (p := ⟨eb, eo + i, none⟩) (World.block_lt_of_cell? _ _ (hcE i _ hv))).trans (hcE i _ hv)
      have HT := Aside.mk (ht.below hp.out.1)
      have HTB := Aside.mk (HB.out _ (List.getElem_mem hlt))
      have HTK := Aside.mk (show ws.take (i + 1) = ws.take i ++ [ws[i]] from List.take_succ_eq_append_getElem hlt)
      have HNO := Aside.mk (fun h => take_nodup_no hlt h)
      clear hcE hv ht hvl
      generalize ws[i] = t at *
      have HC := Aside.mk (code_any (fun b => w.heap.size ≤ b) (w.heap.size + 1) (ws.take i) t ta tc HTB.out.1 HTB.out.2 (by rw [List.length_take]; omega) wr hp.out.2 HT.out)
      cases hcon : (ws.take i).contains t with
      | true =>
        have hco := (List.getElem?_eq_some_iff.1 (codeOf_get hcon)).1
        rw [List.length_take] at hco
        have hres := Aside.mk (show (180 : Int) = dictErr ws by rw [dictErr, if_neg (HNO.out hcon)])
        have hd : codeOf (ws.take i) t < i := by omega
        clear hcon
        go_wp2_with (go_at_call 134; refine HC.out.mono ?_; rintro e w2 ⟨rfl, hw2, hk2⟩; have H2 := Aside.mk hk2; clear hw2 hk2)
        go_ret
        exact ⟨ret_int hres.out, hp.out.1.trans (H2.out.to_below hp.out.1.size (fun k h => h))⟩
      | false =>
        have hco := codeOf_new hcon
        rw [List.length_take, Nat.min_eq_left (by omega)] at hco
        have hcon := Aside.mk hcon
        have hcon2 := Aside.mk (addWord_new hcon.out)
        have hd : ¬ codeOf (ws.take i) t < i := by omega
        clear hco
        go_wp2_with (go_at_call 134; refine HC.out.mono ?_; rintro e w2 ⟨rfl, hw2, hk2⟩; have H2 := Aside.mk hk2; have W2 := Aside.mk hw2; clear hw2 hk2)
        refine ⟨⟨i + 1, by omega, by simp, ⟨hp.out.1.trans (H2.out.to_below hp.out.1.size (fun k h => h)), ?_⟩⟩, by simp [intOf]; omega⟩
        rw [HTK.out, ← hcon2.out]
        exact W2.out.mono (fun b h _ => by have := hp.out.1.size; rcases h with h | h <;> omega)
    · obtain rfl : i = ws.length := by omega
      have hnd := Aside.mk (show (0 : Int) = dictErr ws by
        have := hp.out.2.nodup
        rw [List.take_length] at this
        rw [dictErr, if_pos this])
      go_wp2
      go_ret
      exact ⟨ret_int hnd.out, hp.out.1⟩
end Go.Proofs.YtmhjjhaipcgbiaaGreat


namespace Go.Proofs.YtmhjjhaipcgbiaaGreat
open Go.RowKit
set_option linter.unusedVariables false
set_option linter.unusedSimpArgs false
set_option maxRecDepth 100000
set_option maxHeartbeats 1000000
theorem codedRun_none {c : Col} {i next : Nat} (h : codedRun c i = some next) (hs : codedStep c i next = none) : ∀ N, i < N → codedRun c N = none
  | 0, hN => by omega
  | N + 1, hN => by
    rw [codedRun]
    rcases Nat.lt_or_ge i N with hlt | hge
    · rw [codedRun_none h hs N hlt]; rfl
    · obtain rfl : N = i := by omega
      rw [h, Option.bind_some, hs]
theorem mayC_any (c : Col) (hc : COK c) (hn : c.n ≤ 8 * (c.bits.length : Int)) (B D E X : SL) (vals : List Value) (w : World) (h : RdC w c B D E X vals) :
    Calls Tryz.prog 223 #[.agg #[.int .i64 4], colV c B D E X] w (BoolP (mayCoded c) w) := by
  have HR := Aside.mk h
  have HC := Aside.mk hc
  have HN := Aside.mk hn
  clear h hc hn
  dsimp only [colV]
  go_enter Tryz.func223, Tryz.ntmps223
  go_wp2_with fail
  generalize hw1 : ((w.alloc (.cells #[.int .i64 4] 167)).alloc (.cells #[.int .i64 c.k, .int .i64 c.s, .int .i64 c.n, .int .i64 c.m, .slice B.a c.bits.length B.c, .slice D.a c.data.length D.c, .slice E.a c.ends.length E.c, .slice X.a c.words.length X.c] 63)) = w1 at *
  have BW := Aside.mk (show Below w.heap.size w w1 from hw1 ▸ ((below_new w _).trans ((below_new _ _).mono (by simp))))
  have BF := Aside.mk (show w1.heap[w.heap.size]? = some (.cells #[.int .i64 4] 167 (0, 0)) by
    rw [← hw1, Below.heap_alloc _ _ _ (by simp)]; exact heap_alloc_new _ _)
  have BX := Aside.mk (show w1.heap[w.heap.size + 1]? = some (.cells #[.int .i64 c.k, .int .i64 c.s, .int .i64 c.n, .int .i64 c.m, .slice B.a c.bits.length B.c, .slice D.a c.data.length D.c, .slice E.a c.ends.length E.c, .slice X.a c.words.length X.c] 63 (0, 0)) by
    rw [← hw1]; simpa using heap_alloc_new (w.alloc (.cells #[.int .i64 4] 167)) (.cells #[.int .i64 c.k, .int .i64 c.s, .int .i64 c.n, .int .i64 c.m, .slice B.a c.bits.length B.c, .slice D.a c.data.length D.c, .slice E.a c.ends.length E.c, .slice X.a c.words.length X.c] 63))
  clear hw1
  refine (sized_4 c B D E X HC.out.ld w1).mono ?_
  rintro e w2 ⟨rfl, hb2⟩
  replace BW := Aside.mk (BW.out.trans (hb2.mono BW.out.size)); replace BF := Aside.mk ((hb2.block _ (lt_of_blk BF.out)).trans BF.out); replace BX := Aside.mk ((hb2.block _ (lt_of_blk BX.out)).trans BX.out); obtain ⟨c0, c1, c2, c3, c4, c5, c6, c7⟩ := box8 BX.out; have cf := cell_blk (k := 0) BF.out; simp at cf; clear hb2
  cases hs : sizedB 4 c with
  | false =>
    go_wp2
    go_ret
    exact ⟨ret_bool (by unfold mayCoded; rw [hs]; rfl), BW.out⟩
  | true =>
    have hdict := Aside.mk (fun (w2 : World) hb => dictCheck_any c.words X vals HC.out.lw HC.out.words w2 (HR.out.words.below hb) (HR.out.each.below hb))
    by_cases hnd : c.words.Nodup
    rotate_left
    · have HD := Aside.mk (show dictErr c.words = 180 by rw [dictErr, if_neg hnd])
      have HM := Aside.mk (show false = mayCoded c by unfold mayCoded; simp [hnd])
      clear hs hnd
      go_wp2_with (go_at_call 225; refine (hdict.out _ BW.out).mono ?_; rintro e w2 ⟨rfl, hb2⟩; rw [HD.out]; replace BW := Aside.mk (BW.out.trans (hb2.mono BW.out.size)); replace BF := Aside.mk ((hb2.block _ (lt_of_blk BF.out)).trans BF.out); replace BX := Aside.mk ((hb2.block _ (lt_of_blk BX.out)).trans BX.out); obtain ⟨c0, c1, c2, c3, c4, c5, c6, c7⟩ := box8 BX.out; have cf := cell_blk (k := 0) BF.out; simp at cf; clear hb2)
      go_ret
      exact ⟨ret_bool HM.out, BW.out⟩
    · have HD := Aside.mk (show dictErr c.words = 0 by rw [dictErr, if_pos hnd])
      obtain ⟨s1, s2⟩ := sized_nat hs
      generalize hN : c.data.length / 4 = N at *
      have hNb : N ≤ 100000000 := by rw [← hN]; exact Nat.le_trans (Nat.div_le_self _ _) HC.out.ld
      have S2 := Aside.mk s2
      have HM := Aside.mk (show mayCoded c = (codedRun c N == some c.words.length) by unfold mayCoded; rw [hs, s2]; simp [hnd])
      have HS := Aside.mk hs
      clear hN s1 s2 hs hnd
      go_wp2_with (go_at_call 225; refine (hdict.out _ BW.out).mono ?_; rintro e w2 ⟨rfl, hb2⟩; rw [HD.out]; replace BW := Aside.mk (BW.out.trans (hb2.mono BW.out.size)); replace BF := Aside.mk ((hb2.block _ (lt_of_blk BF.out)).trans BF.out); replace BX := Aside.mk ((hb2.block _ (lt_of_blk BX.out)).trans BX.out); obtain ⟨c0, c1, c2, c3, c4, c5, c6, c7⟩ := box8 BX.out; have cf := cell_blk (k := 0) BF.out; simp at cf; clear hb2)
      go_loopw [5, 21] (fun nv iv wr => ∃ i next : Nat, i ≤ N ∧ next ≤ i ∧ nv = .int .i64 (next : Int) ∧ iv = .int .i64 (i : Int) ∧ Aside (Below w.heap.size w wr ∧ wr.heap[w.heap.size]? = some (.cells #[.int .i64 4] 167 (0, 0)) ∧ wr.heap[w.heap.size + 1]? = some (.cells #[.int .i64 c.k, .int .i64 c.s, .int .i64 c.n, .int .i64 c.m, .slice B.a c.bits.length B.c, .slice D.a c.data.length D.c, .slice E.a c.ends.length E.c, .slice X.a c.words.length X.c] 63 (0, 0)) ∧ codedRun c i = some next)) (fun nv iv _ => N - (intOf iv).toNat)
      case atStart => exact ⟨0, 0, by omega, by omega, rfl, rfl, ⟨BW.out, BF.out, BX.out, rfl⟩⟩
      case round =>
        clear BW BF BX c0 c1 c2 c3 c4 c5 c6 c7 cf hdict
        obtain ⟨i, next, hi, hni, rfl, rfl, hp⟩ := hrel
        have BW := Aside.mk hp.out.1
        have BF := Aside.mk hp.out.2.1
        have BX := Aside.mk hp.out.2.2.1
        have HA := Aside.mk hp.out.2.2.2
        clear hp
        obtain ⟨c0, c1, c2, c3, c4, c5, c6, c7⟩ := box8 BX.out
        have cf := cell_blk (k := 0) BF.out
        simp at cf
        by_cases hlt : i < N
        · have hlt2 : (i : Int) < c.n := by have := S2.out; omega
          have hb8 : i / 8 < c.bits.length := by have := S2.out; have := HN.out; omega
          have hroom := sized_room HS.out i (by have := S2.out; omega)
          have hword := Aside.mk (fun (w2 : World) hb => fword_4 c B D E X i hroom HC.out.data HC.out.ld w2 (HR.out.data.below hb))
          have hnull := Aside.mk (fun (w2 : World) hb => null_any c B D E X i hb8 HC.out.bits HC.out.lb w2 (HR.out.bits.below hb))
          have hx32 : wordAt c.data (i * 4) 4 < 4294967296 := by
            have h1 := wordAt_lt HC.out.data (i * 4) 4
            have h2 : (256 : Nat) ^ 4 = 4294967296 := by decide
            rw [h2] at h1
            exact h1
          have hok := Aside.mk (show codedStep c i next = if (nullB c.bits i && wordAt c.data (i * 4) 4 != 0) || decide (next < wordAt c.data (i * 4) 4) then none else if !nullB c.bits i && wordAt c.data (i * 4) 4 == next then some (next + 1) else some next from rfl)
          have HNO := Aside.mk (fun h => codedRun_none HA.out h N hlt)
          have HYES := Aside.mk (fun n2 h => show codedRun c (i + 1) = some n2 by rw [codedRun, HA.out, Option.bind_some]; exact h)
          clear hroom
          generalize wordAt c.data (i * 4) 4 = x at *
          generalize nullB c.bits i = nb at *
          cases nb with
          | true =>
            by_cases hx0 : x = 0
            · subst hx0
              have HY := Aside.mk (HYES.out next (by rw [hok.out]; simp))
              go_wp2_with (first | (go_at_call 88; refine (hword.out _ BW.out).mono ?_; rintro e w2 ⟨rfl, hb2⟩; replace BW := Aside.mk (BW.out.trans (hb2.mono BW.out.size)); replace BF := Aside.mk ((hb2.block _ (lt_of_blk BF.out)).trans BF.out); replace BX := Aside.mk ((hb2.block _ (lt_of_blk BX.out)).trans BX.out); obtain ⟨c0, c1, c2, c3, c4, c5, c6, c7⟩ := box8 BX.out; have cf := cell_blk (k := 0) BF.out; simp at cf; clear hb2) | (go_at_call 129; refine (hnull.out _ BW.out).mono ?_; rintro e w2 ⟨rfl, hb2⟩; replace BW := Aside.mk (BW.out.trans (hb2.mono BW.out.size)); replace BF := Aside.mk ((hb2.block _ (lt_of_blk BF.out)).trans BF.out); replace BX := Aside.mk ((hb2.block _ (lt_of_blk BX.out)).trans BX.out); obtain ⟨c0, c1, c2, c3, c4, c5, c6, c7⟩ := box8 BX.out; have cf := cell_blk (k := 0) BF.out; simp at cf; clear hb2))
              exact ⟨⟨i + 1, next, by omega, by omega, rfl, by simp, ⟨BW.out, BF.out, BX.out, HY.out⟩⟩, by simp [intOf]; omega⟩
            · have hx1 : (((x : Int)) == 0) = false := by simp; omega
              have HY := Aside.mk (HNO.out (by rw [hok.out]; simp [hx0]))
              have hx4 : ((x : Int) != 0) = true := by rw [bne, hx1]; rfl
              clear hx0 hx1
              go_wp2_with (first | (go_at_call 88; refine (hword.out _ BW.out).mono ?_; rintro e w2 ⟨rfl, hb2⟩; replace BW := Aside.mk (BW.out.trans (hb2.mono BW.out.size)); replace BF := Aside.mk ((hb2.block _ (lt_of_blk BF.out)).trans BF.out); replace BX := Aside.mk ((hb2.block _ (lt_of_blk BX.out)).trans BX.out); obtain ⟨c0, c1, c2, c3, c4, c5, c6, c7⟩ := box8 BX.out; have cf := cell_blk (k := 0) BF.out; simp at cf; clear hb2) | (go_at_call 129; refine (hnull.out _ BW.out).mono ?_; rintro e w2 ⟨rfl, hb2⟩; replace BW := Aside.mk (BW.out.trans (hb2.mono BW.out.size)); replace BF := Aside.mk ((hb2.block _ (lt_of_blk BF.out)).trans BF.out); replace BX := Aside.mk ((hb2.block _ (lt_of_blk BX.out)).trans BX.out); obtain ⟨c0, c1, c2, c3, c4, c5, c6, c7⟩ := box8 BX.out; have cf := cell_blk (k := 0) BF.out; simp at cf; clear hb2))
              go_ret
              exact ⟨ret_bool (by rw [HM.out, HY.out]; rfl), BW.out⟩
          | false =>
            by_cases hgt : next < x
            · have HY := Aside.mk (HNO.out (by rw [hok.out]; simp [hgt]))
              go_wp2_with (first | (go_at_call 88; refine (hword.out _ BW.out).mono ?_; rintro e w2 ⟨rfl, hb2⟩; replace BW := Aside.mk (BW.out.trans (hb2.mono BW.out.size)); replace BF := Aside.mk ((hb2.block _ (lt_of_blk BF.out)).trans BF.out); replace BX := Aside.mk ((hb2.block _ (lt_of_blk BX.out)).trans BX.out); obtain ⟨c0, c1, c2, c3, c4, c5, c6, c7⟩ := box8 BX.out; have cf := cell_blk (k := 0) BF.out; simp at cf; clear hb2) | (go_at_call 129; refine (hnull.out _ BW.out).mono ?_; rintro e w2 ⟨rfl, hb2⟩; replace BW := Aside.mk (BW.out.trans (hb2.mono BW.out.size)); replace BF := Aside.mk ((hb2.block _ (lt_of_blk BF.out)).trans BF.out); replace BX := Aside.mk ((hb2.block _ (lt_of_blk BX.out)).trans BX.out); obtain ⟨c0, c1, c2, c3, c4, c5, c6, c7⟩ := box8 BX.out; have cf := cell_blk (k := 0) BF.out; simp at cf; clear hb2))
              go_ret
              exact ⟨ret_bool (by rw [HM.out, HY.out]; rfl), BW.out⟩
            · by_cases hq : x = next
              · subst hq
                have HY := Aside.mk (HYES.out (x + 1) (by rw [hok.out]; simp))
                go_wp2_with (first | (go_at_call 88; refine (hword.out _ BW.out).mono ?_; rintro e w2 ⟨rfl, hb2⟩; replace BW := Aside.mk (BW.out.trans (hb2.mono BW.out.size)); replace BF := Aside.mk ((hb2.block _ (lt_of_blk BF.out)).trans BF.out); replace BX := Aside.mk ((hb2.block _ (lt_of_blk BX.out)).trans BX.out); obtain ⟨c0, c1, c2, c3, c4, c5, c6, c7⟩ := box8 BX.out; have cf := cell_blk (k := 0) BF.out; simp at cf; clear hb2) | (go_at_call 129; refine (hnull.out _ BW.out).mono ?_; rintro e w2 ⟨rfl, hb2⟩; replace BW := Aside.mk (BW.out.trans (hb2.mono BW.out.size)); replace BF := Aside.mk ((hb2.block _ (lt_of_blk BF.out)).trans BF.out); replace BX := Aside.mk ((hb2.block _ (lt_of_blk BX.out)).trans BX.out); obtain ⟨c0, c1, c2, c3, c4, c5, c6, c7⟩ := box8 BX.out; have cf := cell_blk (k := 0) BF.out; simp at cf; clear hb2))
                exact ⟨⟨i + 1, x + 1, by omega, by omega, by simp, by simp, ⟨BW.out, BF.out, BX.out, HY.out⟩⟩, by simp [intOf]; omega⟩
              · have HY := Aside.mk (HYES.out next (by rw [hok.out]; simp [hgt, hq]))
                have hq2 : (x == next) = false := by simpa using hq
                have hq3 : ((x : Int) == (next : Int)) = false := by simp; omega
                go_wp2_with (first | (go_at_call 88; refine (hword.out _ BW.out).mono ?_; rintro e w2 ⟨rfl, hb2⟩; replace BW := Aside.mk (BW.out.trans (hb2.mono BW.out.size)); replace BF := Aside.mk ((hb2.block _ (lt_of_blk BF.out)).trans BF.out); replace BX := Aside.mk ((hb2.block _ (lt_of_blk BX.out)).trans BX.out); obtain ⟨c0, c1, c2, c3, c4, c5, c6, c7⟩ := box8 BX.out; have cf := cell_blk (k := 0) BF.out; simp at cf; clear hb2) | (go_at_call 129; refine (hnull.out _ BW.out).mono ?_; rintro e w2 ⟨rfl, hb2⟩; replace BW := Aside.mk (BW.out.trans (hb2.mono BW.out.size)); replace BF := Aside.mk ((hb2.block _ (lt_of_blk BF.out)).trans BF.out); replace BX := Aside.mk ((hb2.block _ (lt_of_blk BX.out)).trans BX.out); obtain ⟨c0, c1, c2, c3, c4, c5, c6, c7⟩ := box8 BX.out; have cf := cell_blk (k := 0) BF.out; simp at cf; clear hb2))
                exact ⟨⟨i + 1, next, by omega, by omega, rfl, by simp, ⟨BW.out, BF.out, BX.out, HY.out⟩⟩, by simp [intOf]; omega⟩
        · obtain rfl : i = N := by omega
          have hlt2 : ¬ (i : Int) < c.n := by have := S2.out; omega
          go_wp2
          go_ret
          refine ⟨ret_bool ?_, BW.out⟩
          rw [HM.out, HA.out, Bool.eq_iff_iff]
          simp
          try omega
end Go.Proofs.YtmhjjhaipcgbiaaGreat
