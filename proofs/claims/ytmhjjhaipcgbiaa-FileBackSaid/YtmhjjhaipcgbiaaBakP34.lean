/- Texts of this claim, one behind the other: Lay2, Lay3, Lay4. -/
import Derived.Test.YtmhjjhaipcgbiaaBakP23
import Derived.Test.YtmhjjhaipcgbiaaBakP21
import Derived.Test.YtmhjjhaipcgbiaaBakP7
import Derived.Test.YtmhjjhaipcgbiaaBakP22
import Derived.BigQuiet
import Derived.Deep.QuietTactic
import Derived.Test.YtmhjjhaipcgbiaaBakP33
import Derived.Test.YtmhjjhaipcgbiaaBakP18

namespace Go.Proofs.Ytmhjjhaipcgbiaa
open Go.RowKit
set_option linter.unusedVariables false
set_option linter.unusedSimpArgs false
set_option maxRecDepth 100000
set_option maxHeartbeats 1000000
structure W17 (w : World) (base wb : Nat) (ws : List (List Int)) (wv : Value) (vals : List Value) : Prop where
  blk : w.heap[wb]? = some (.cells #[wv] 185 (0, 0))
  bb : base ≤ wb
  row : Own w base 37 1 wv ws.length vals
  len : vals.length = ws.length
  each : WOwn w base ws.length vals ws
  sep : WSep ws.length vals
  bytes : ∀ t ∈ ws, IsBytes t
theorem W17.keptT {w w' : World} {base wb : Nat} {ws : List (List Int)} {wv : Value} {vals : List Value} {S : Nat → Prop} (h : W17 w base wb ws wv vals) (hk : Kept S w w') (h1 : ∀ E : TypeId, E = 185 ∨ E = 37 → ∀ b, S b → b < w.heap.size → ∀ cs, w.heap[b]? ≠ some (.cells cs E (0, 0))) (h2 : ∀ (j : Nat) v, vals[j]? = some v → ∀ b, v.ownBlock = some b → ¬ S b) : W17 w' base wb ws wv vals := by
  refine ⟨(hk.block _ (lt_of_blk h.blk) (fun e => h1 _ (.inl rfl) wb e (lt_of_blk h.blk) _ h.blk)).trans h.blk, h.bb, h.row.keptT hk (h1 _ (.inr rfl)), h.len, fun j t hj ht => ?_, h.sep, h.bytes⟩
  obtain ⟨a, cap, q1, q2⟩ := h.each j t hj ht
  exact ⟨a, cap, q1, q2.kept hk (h2 j _ q1)⟩
theorem W17.below {w w' : World} {base wb : Nat} {ws : List (List Int)} {wv : Value} {vals : List Value} (h : W17 w base wb ws wv vals) (hb : Below w.heap.size w w') : W17 w' base wb ws wv vals :=
  h.keptT (Kept.of_below (S := fun _ => False) hb) (fun _ _ _ e => e.elim) (fun _ _ _ _ _ e => e)
def FindP (ws : List (List Int)) (t : List Int) (w : World) (e : Ending) (w' : World) : Prop :=
  e = .returned (.tuple #[.int .i64 (if ws.contains t then (codeOf ws t : Int) else 0), .bool (ws.contains t)]) ∧ Below w.heap.size w w'
theorem take_not {ws : List (List Int)} {t : List Int} {i : Nat} (hi : i < ws.length) (h : (ws.take i).contains t = false) (e : ws[i] ≠ t) : (ws.take (i + 1)).contains t = false := by
  rw [List.take_succ_eq_append_getElem hi]
  simp only [List.contains_eq_mem, decide_eq_false_iff_not, List.mem_append, List.mem_singleton] at h ⊢
  rintro (h1 | h1)
  · exact h h1
  · exact e h1.symm
theorem code_at {ws : List (List Int)} {t : List Int} {i : Nat} (hi : i < ws.length) (h : (ws.take i).contains t = false) (e : ws[i] = t) : ws.contains t = true ∧ codeOf ws t = i := by
  have hm : t ∈ ws := e ▸ List.getElem_mem hi
  refine ⟨by simpa using hm, ?_⟩
  have hn : t ∉ ws.take i := by simpa using h
  unfold codeOf
  rw [← List.take_append_drop i ws, List.idxOf_append, if_neg hn, List.drop_eq_getElem_cons hi, e]
  simp [List.length_take]
  omega
theorem find17 (base wb : Nat) (ws : List (List Int)) (wv : Value) (vals : List Value) (t : List Int) (ht : IsBytes t) (hw : ws.length ≤ 100000000) (ta : Option Addr) (tc : Nat) (w : World) (h : W17 w base wb ws wv vals) (hr : Rd w 1 (.slice ta t.length tc) t.length (t.map (.int .u8))) :
    Calls Try.prog 118 #[.pointer (some ⟨wb, 0, none⟩), .slice ta t.length tc] w (FindP ws t w) := by
  obtain ⟨wa, wc, rfl⟩ := h.row.form
  have H := Aside.mk h
  have HT := Aside.mk ht
  have HR := Aside.mk hr
  clear h ht hr
  generalize htl : t.length = tl at *
  have HTL := Aside.mk htl
  clear htl
  go_enter Try.func118, Try.ntmps118
  go_wp2
  go_loopw [6] (fun iv wr => ∃ i : Nat, i ≤ ws.length ∧ iv = .int .i64 (i : Int) ∧ Aside (Below w.heap.size w wr ∧ (ws.take i).contains t = false)) (fun iv _ => ws.length - (intOf iv).toNat)
  case atStart => exact ⟨0, by omega, rfl, ⟨Below.refl _ _, by simp⟩⟩
  case round =>
    obtain ⟨i, hi, rfl, hp⟩ := hrel
    have H2 := Aside.mk (H.out.below hp.out.1)
    have c0 := cell_blk (k := 0) H2.out.blk
    simp at c0
    by_cases hlt : i < ws.length
    · obtain ⟨ua, uc, q1, q2⟩ := H2.out.each i _ hlt (List.getElem?_eq_getElem hlt)
      have hvl := H2.out.len
      obtain ⟨g, off, cp, e, h1, h2, hcc⟩ := H2.out.row.rd.some_ (by omega)
      simp only [Value.slice.injEq, true_and] at e
      obtain ⟨e1, e2⟩ := e
      rw [e1, e2] at c0
      have hcu := hcc i _ q1
      have hcA := fun n => conv_any ua _ uc ws[i] rfl (wr.drewN n) (q2.rd.below (below_drewN _ _ n))
      have hcB := fun n => conv_any ta _ tc t HTL.out (wr.drewN n) ((HR.out.below hp.out.1).below (below_drewN _ _ n))
      have HDD := Aside.mk (str_eq (H.out.bytes _ (List.getElem_mem hlt)) HT.out)
      have HN := Aside.mk (fun e => take_not hlt hp.out.2 e)
      have HC := Aside.mk (fun e => code_at hlt hp.out.2 e)
      clear hcc q1 q2 hvl e1 e2
      generalize ws[i] = x at *
      generalize strOfNums x = sx at *
      generalize strOfNums t = sy at *
      by_cases hq : x = t
      · have d1 := HDD.out
        rw [decide_eq_true hq] at d1
        obtain ⟨k1, k2⟩ := HC.out hq
        have HK := Aside.mk (And.intro k1 k2)
        clear hq k1 k2
        go_wp2_with fail
        go_quiet (fail)
        go_wp2_with fail
        go_ret2
        refine ⟨by rw [HK.out.1, HK.out.2]; simp, hp.out.1.trans (below_drewN _ _ _)⟩
      · have d1 := HDD.out
        rw [decide_eq_false hq] at d1
        have HN2 := Aside.mk (HN.out hq)
        clear hq
        go_wp2_with fail
        go_quiet (fail)
        go_wp2_with fail
        exact ⟨⟨i + 1, by omega, by simp, ⟨hp.out.1.trans (below_drewN _ _ _), HN2.out⟩⟩, by simp [intOf]; omega⟩
    · obtain rfl : i = ws.length := by omega
      have hno := hp.out.2
      rw [List.take_length] at hno
      have HNO := Aside.mk hno
      clear hno
      go_wp2_with fail
      go_ret2
      refine ⟨by rw [HNO.out]; simp, hp.out.1⟩
end Go.Proofs.Ytmhjjhaipcgbiaa


namespace Go.Proofs.Ytmhjjhaipcgbiaa
open Go.RowKit
set_option linter.unusedVariables false
set_option linter.unusedSimpArgs false
set_option maxRecDepth 100000
set_option maxHeartbeats 1000000
def Code17P (base wb : Nat) (ws : List (List Int)) (t : List Int) (wv : Value) (vals : List Value) (w : World) (e : Ending) (w' : World) : Prop :=
  e = .returned (.int .i64 (codeOf ws t : Int)) ∧ ∃ wv' vals', W17 w' base wb (addWord ws t) wv' vals' ∧ Kept (fun b => b = wb ∨ wv.ownBlock = some b) w w' ∧ ∀ v ∈ vals', v ∈ vals ∨ ∀ b, v.ownBlock = some b → w.heap.size ≤ b
theorem below_app_new {w1 w5 : World} {o1 : Obj} {E : TypeId} {sz m : Nat} {news : List Value} {v : Value} (hA : AppP (w1.drew.alloc o1) w1.heap.size E sz (.slice (some ⟨w1.heap.size, 0, none⟩) 0 0) 0 [] m news v w5) : Below w1.heap.size w1 w5 := by
  have hs1 : (w1.drew.alloc o1).heap.size = w1.heap.size + 1 := by show (w1.drew.alloc o1).heap.size = w1.drew.heap.size + 1; simp
  exact (((below_drewN w1 _ 1).alloc (Nat.le_refl _) o1)).trans (below_of_grown hA.grown (Nat.le_trans (Nat.le_succ _) (Nat.le_of_eq hs1.symm)) (fun k e => by
    have e : k = w1.heap.size := by simpa [Value.ownBlock] using e.symm
    exact Nat.le_of_eq e.symm))
theorem code17_end {base wb : Nat} {ws : List (List Int)} {t : List Int} {wv : Value} {vals : List Value} {w w1 w5 w8 : World} {v2 : Value} {a2 : Option Addr} {c2 : Nat} {o1 : Obj} (h : W17 w base wb ws wv vals) (hn : ws.contains t = false) (ht : IsBytes t) (hb : base ≤ w.heap.size) (h1 : Below w.heap.size w w1)
    (hA : AppP (w1.drew.alloc o1) w1.heap.size 5 1 (.slice (some ⟨w1.heap.size, 0, none⟩) 0 0) 0 [] t.length (t.map (.int .u8)) (.slice a2 t.length c2) w5)
    (hA2 : AppP (w5.alloc (.cells #[.slice a2 t.length c2] 37)) base 37 1 wv ws.length vals 1 [.slice a2 t.length c2] v2 w8) :
    ∃ vals', W17 (w8.setCell ⟨wb, 0, none⟩ v2) base wb (addWord ws t) v2 vals' ∧ Kept (fun b => b = wb ∨ wv.ownBlock = some b) w (w8.setCell ⟨wb, 0, none⟩ v2) ∧ ∀ v ∈ vals', v ∈ vals ∨ ∀ b, v.ownBlock = some b → w.heap.size ≤ b := by
  have b5 := below_app_new hA
  have K8 : Kept (fun b => wv.ownBlock = some b) w5 w8 := (Kept.of_below (below_new w5 _)).trans ((Kept.of_grown hA2.grown).mono (fun b e _ => e.symm)) (fun _ e _ => e)
  have h5 := (h.below h1).below b5
  have b05 : Below w.heap.size w w5 := below_chain h1 b5
  have g8 := (K8.block wb (lt_of_blk h5.blk) (fun e => h5.row.blk_ne h5.blk (by decide) e)).trans h5.blk
  have hnew : Own w5 w1.heap.size 5 1 (.slice a2 t.length c2) t.length (t.map (.int .u8)) := by simpa using hA.own
  have hu8 : ∀ {v : Value} {n b0 : Nat} {xs : List Value}, Own w5 b0 5 1 v n xs → Own (w8.setCell ⟨wb, 0, none⟩ v2) b0 5 1 v n xs := fun {v n b0 xs} ho => by
    have h8 := ho.keptT K8 (fun b e _ cs hc => by
      obtain ⟨cur, hg⟩ := own_blk h5.row e
      rw [hg] at hc; cases hc)
    exact h8.set_other (h8.blk_ne g8 (by decide)) _
  refine ⟨vals ++ [.slice a2 t.length c2], ⟨by simpa using heap_setCell_at (k := 0) g8 v2, h.bb, ?_, ?_, ?_, ?_, ?_⟩, ((Kept.of_below (S := fun b => b = wb ∨ wv.ownBlock = some b) b05).trans K8 (fun b e _ => .inr e)).trans (Kept.setCell w8 ⟨wb, 0, none⟩ v2) (fun b e _ => .inl e), ?_⟩
  · rw [addWord_new hn, List.length_append]
    exact hA2.own.set_other (hA2.own.blk_ne g8 (by decide)) _
  · rw [addWord_new hn]; simp [h.len]
  · rw [addWord_new hn]
    intro j u hj hu
    rcases Nat.lt_or_ge j ws.length with hl | hl
    · rw [List.getElem?_append_left hl] at hu
      obtain ⟨a, cap, q1, q2⟩ := h5.each j u hl hu
      exact ⟨a, cap, by rw [List.getElem?_append_left (by rw [h.len]; exact hl)]; exact q1, hu8 q2⟩
    · rw [List.getElem?_append_right hl] at hu
      have h0 : j - ws.length = 0 := by have := (List.getElem?_eq_some_iff.1 hu).1; simp at this; omega
      rw [h0] at hu
      simp at hu
      subst hu
      exact ⟨a2, c2, by rw [List.getElem?_append_right (by rw [h.len]; exact hl), h.len, h0]; rfl, (hu8 hnew).mono (Nat.le_trans hb h1.size)⟩
  · rw [addWord_new hn]
    intro j j' v v' hjj hj hv hv' b e e2
    rw [List.length_append] at hj
    rcases Nat.lt_or_ge j' ws.length with hl | hl
    · rw [List.getElem?_append_left (by rw [h.len]; omega)] at hv hv'
      exact h.sep j j' v v' hjj hl hv hv' b e e2
    · have hj2 : j' = ws.length := by simp at hj; omega
      subst hj2
      rw [List.getElem?_append_left (by rw [h.len]; omega)] at hv
      rw [List.getElem?_append_right (by rw [h.len]; exact Nat.le_refl _), h.len, Nat.sub_self] at hv'
      simp at hv'
      subst hv'
      obtain ⟨a, cap, q1, q2⟩ := h.each j _ hjj (List.getElem?_eq_getElem hjj)
      rw [hv] at q1
      cases q1
      have := (q2.lt b e).2
      have := (hnew.lt b e2).1
      have := h1.size
      omega
  · exact addWord_bytes h.bytes ht
  · intro v hv
    rcases List.mem_append.1 hv with h2 | h2
    · exact .inl h2
    · simp at h2
      subst h2
      exact .inr (fun b e => Nat.le_trans h1.size (hnew.lt b e).1)
theorem code17 (base wb : Nat) (ws : List (List Int)) (wv : Value) (vals : List Value) (t : List Int) (ht : IsBytes t) (htl : t.length ≤ 100000000) (hw : ws.length ≤ 100000000) (ta : Option Addr) (tc : Nat) (w : World) (hb : base ≤ w.heap.size) (h : W17 w base wb ws wv vals) (hr : Rd w 1 (.slice ta t.length tc) t.length (t.map (.int .u8))) :
    Calls Try.prog 108 #[.pointer (some ⟨wb, 0, none⟩), .slice ta t.length tc] w (Code17P base wb ws t wv vals w) := by
  have HF := Aside.mk (find17 base wb ws wv vals t ht hw ta tc w h hr)
  obtain ⟨wa, wc, rfl⟩ := h.row.form
  cases hcon : ws.contains t with
  | true =>
    have HC := Aside.mk hcon
    unfold FindP at HF
    rw [hcon] at HF
    simp only [if_true] at HF
    have H := Aside.mk h
    clear h hcon hr
    go_enter Try.func108, Try.ntmps108
    go_wp2_with (go_at_call 118; refine HF.out.mono ?_; rintro e w1 ⟨rfl, hb1⟩; have HB1 := Aside.mk hb1; clear hb1)
    go_ret
    refine ⟨rfl, .slice wa ws.length wc, vals, ?_, Kept.of_below HB1.out, fun v hv => .inl hv⟩
    rw [addWord_old HC.out]
    exact H.out.below HB1.out
  | false =>
    have HC := Aside.mk hcon
    unfold FindP at HF
    rw [hcon] at HF
    simp only [Bool.false_eq_true, if_false] at HF
    have H := Aside.mk h
    have HR := Aside.mk hr
    have HTB := Aside.mk ht
    clear h hcon hr ht
    generalize hn : t.length = n at *
    have HN := Aside.mk hn
    clear hn
    go_enter Try.func108, Try.ntmps108
    go_wp2_with (go_at_call 118; refine HF.out.mono ?_; rintro e w1 ⟨rfl, hb1⟩; have HB1 := Aside.mk hb1; clear hb1)
    have H1 := Aside.mk (H.out.below HB1.out)
    have c0 := cell_blk (k := 0) H1.out.blk
    have f0 := fun k => frozen_blk (k := k) H1.out.blk
    have hlt := lt_of_blk H1.out.blk
    simp at c0
    have HR1 := Aside.mk (HR.out.below HB1.out)
    have hbl := HB1.out.size
    go_region_law (first
      | (refine step_app2 (P := Try.prog) (w1.drew.alloc (.cells #[] 5)) (.tmp 20) (.tmp 21) 37 37 (by rfl) (by rfl) w1.heap.size 5 (.int .u8 0) 1 1 Try.underlying37 u8info (by rfl) (.slice (some ⟨w1.heap.size, 0, none⟩) 0 0) 0 [] (by rfl) (own_empty w1.drew w1.heap.size w1.heap.size 5 1 rfl (Nat.le_refl _)) (.slice ta n tc) n (t.map (.int .u8)) (by rfl) (((HR1.out.below (below_drewN _ _ 1)).below (below_new _ _)).src Try.underlying37 (one_map (fun x : Int => Value.int .u8 x) (fun _ => rfl) t)) (by unfold maxLen; omega) (by omega) (by show w1.drew.heap.size ≤ _; simp) ?_; intro v5 w5 hA; obtain ⟨a5, c5, rfl⟩ := hA.own.form; simp only [Nat.zero_add] at hA ⊢; have HB5 := Aside.mk (below_app_new hA); have HA := Aside.mk hA; have H5 := Aside.mk (H1.out.below HB5.out); clear c0 f0 hlt hA; have c0 := cell_blk (k := 0) H5.out.blk; have f0 := fun k => frozen_blk (k := k) H5.out.blk; have hlt := lt_of_blk H5.out.blk; simp at c0)
      | (refine step_app2 (P := Try.prog) (w5.alloc (.cells #[.slice a5 n c5] 37)) (.tmp 19) (.tmp 23) 41 41 (by rfl) (by rfl) base 37 (.slice none 0 0) 1 24 Try.underlying41 bytesinfo (by rfl) (.slice wa ws.length wc) ws.length vals (by rfl) (H5.out.row.alloc _) (.slice (some ⟨w5.heap.size, 0, none⟩) 1 1) 1 [.slice a5 n c5] (by rfl) (src_one Try.underlying41 _ _ _ rfl rfl) (by unfold maxLen; omega) (by omega) (by have := HB5.out.size; simp; omega) ?_; intro v8 w8 hA; obtain ⟨a8, c8, rfl⟩ := hA.own.form; have K8 := Aside.mk (show Kept (fun b => (Value.slice wa ws.length wc).ownBlock = some b) w5 w8 from (Kept.of_below (below_new w5 _)).trans ((Kept.of_grown hA.grown).mono (fun b e _ => e.symm)) (fun _ e _ => e)); have g8 := (K8.out.block wb hlt (fun e => H5.out.row.blk_ne H5.out.blk (by decide) e)).trans H5.out.blk; clear c0 f0 hlt; have c0 := cell_blk (k := 0) g8; have f0 := fun k => frozen_blk (k := k) g8; simp at c0; have HA2 := Aside.mk hA; clear hA g8))
    all_goals
      obtain ⟨vals', r1, r2, r3⟩ := code17_end H.out HC.out HTB.out hb HB1.out (by rw [HN.out]; exact HA.out) (by rw [HN.out]; exact HA2.out)
      have HE := Aside.mk (And.intro r1 (And.intro r2 r3))
      have hcd := codeOf_new HC.out
      have HCD := Aside.mk hcd
      have q0 := cell_blk (k := 0) r1.blk
      simp at q0
      clear r1 r2 r3 hcd c0
      go_wp2_with fail
      go_ret
      exact ⟨ret_int (by rw [HCD.out]), _, vals', HE.out.1, HE.out.2.1, HE.out.2.2⟩
end Go.Proofs.Ytmhjjhaipcgbiaa


namespace Go.Proofs.Ytmhjjhaipcgbiaa
open Go.RowKit
set_option linter.unusedVariables false
set_option linter.unusedSimpArgs false
set_option maxRecDepth 100000
set_option maxHeartbeats 1000000
structure LX (w wr : World) (k s : Int) (n : Nat) (c : CS) (nv dv ev wv : Value) (vals : List Value) : Prop where
  bt : wr.heap[w.heap.size]? = some (.cells #[.int .i64 k, .int .i64 s] 23 (0, 0))
  br : wr.heap[w.heap.size + 1]? = some (.cells #[.int .i64 0, .int .i64 0, .int .i64 0, .int .i64 0, .slice none 0 0, .slice none 0 0, .slice none 0 0, .slice none 0 0] 43 (0, 0))
  bc : wr.heap[w.heap.size + 1 + 1]? = some (.cells #[.int .i64 k, .int .i64 s, .int .i64 (n : Int), .int .i64 0, .slice none 0 0, dv, ev, .slice none 0 0] 43 (0, 0))
  words : W17 wr w.heap.size (w.heap.size + 1 + 1 + 1) c.words wv vals
  nulls : Own wr w.heap.size 4 1 nv c.nulls.length (c.nulls.map .bool)
  data : Own wr w.heap.size 5 1 dv c.data.length (c.data.map (.int .u8))
  ends : Own wr w.heap.size 3 1 ev c.ends.length (c.ends.map (.int .i64))
  apart : ∀ v ∈ vals, ∀ b, v.ownBlock = some b → dv.ownBlock ≠ some b
  bel : Below w.heap.size w wr
variable {w wr : World} {k s : Int} {n : Nat} {c : CS} {nv dv ev wv : Value} {vals : List Value}
theorem LX.ty (h : LX w wr k s n c nv dv ev wv vals) {v : Value} {E base : Nat} {m : Nat} {xs : List Value} (ho : Own wr base E 1 v m xs) {F : TypeId} (hE : F ≠ E) : ∀ b, v.ownBlock = some b → b < wr.heap.size → ∀ cs, wr.heap[b]? ≠ some (.cells cs F (0, 0)) := by
  intro b e _ cs hc
  obtain ⟨cur, hg⟩ := own_blk ho e
  rw [hg] at hc
  cases hc
  exact hE rfl
theorem LX.word_lt (h : LX w wr k s n c nv dv ev wv vals) : ∀ v ∈ vals, ∀ b, v.ownBlock = some b → b < wr.heap.size ∧ ∃ cur, wr.heap[b]? = some (.cells cur 5 (0, 0)) := by
  intro v hv b e
  obtain ⟨i, hi, rfl⟩ := List.mem_iff_getElem.1 hv
  have hl := h.words.len
  obtain ⟨a, cap, q1, q2⟩ := h.words.each i _ (by omega) (List.getElem?_eq_getElem (by omega))
  rw [List.getElem?_eq_getElem hi] at q1
  rw [Option.some.inj q1] at e
  exact ⟨(q2.lt b e).2, own_blk q2 e⟩
theorem LX.below {w2 : World} (h : LX w wr k s n c nv dv ev wv vals) (hb : Below wr.heap.size wr w2) : LX w w2 k s n c nv dv ev wv vals :=
  ⟨(hb.block _ (lt_of_blk h.bt)).trans h.bt, (hb.block _ (lt_of_blk h.br)).trans h.br, (hb.block _ (lt_of_blk h.bc)).trans h.bc, h.words.below hb, h.nulls.below hb, h.data.below hb, h.ends.below hb, h.apart, below_chain h.bel hb⟩
theorem LX.null {w5 : World} {o : Obj} {v5 : Value} {b : Bool} (h : LX w wr k s n c nv dv ev wv vals) (hA : AppP (wr.alloc o) w.heap.size 4 1 nv c.nulls.length (c.nulls.map .bool) 1 [.bool b] v5 w5) :
    LX w w5 k s n ⟨c.nulls ++ [b], c.data, c.ends, c.words⟩ v5 dv ev wv vals := by
  have K : Kept (fun b => nv.ownBlock = some b) wr w5 := (Kept.of_below (below_new wr o)).trans ((Kept.of_grown hA.grown).mono (fun b e _ => e.symm)) (fun _ e _ => e)
  have bx : ∀ {i : Nat} {cs : Array Value} {F : TypeId}, wr.heap[i]? = some (.cells cs F (0, 0)) → F ≠ 4 → w5.heap[i]? = some (.cells cs F (0, 0)) := fun {i cs F} hi hF => (K.block _ (lt_of_blk hi) (fun e => h.ty h.nulls hF i e (lt_of_blk hi) _ hi)).trans hi
  refine ⟨bx h.bt (by decide), bx h.br (by decide), bx h.bc (by decide), h.words.keptT K ?_ ?_, ?_, h.data.keptT K (h.ty h.nulls (by decide)), h.ends.keptT K (h.ty h.nulls (by decide)), h.apart, h.bel.trans (K.to_below h.bel.size (fun b e => (h.nulls.lt b e).1))⟩
  · rintro E (rfl | rfl) <;> exact h.ty h.nulls (by decide)
  · intro j v hj b e e2
    obtain ⟨_, cur, hg⟩ := h.word_lt v (List.mem_of_getElem? hj) b e
    exact h.ty h.nulls (by decide) b e2 (lt_of_blk hg) _ hg
  · have := hA.own
    rw [List.length_append, List.map_append]
    exact this
theorem LX.dat {w5 : World} {v5 : Value} {data' : List Int} (h : LX w wr k s n c nv dv ev wv vals) (K : Kept (fun b => dv.ownBlock = some b) wr w5) (ho : Own w5 w.heap.size 5 1 v5 data'.length (data'.map (.int .u8))) (hb : v5.ownBlock = dv.ownBlock ∨ ∃ b, v5.ownBlock = some b ∧ wr.heap.size ≤ b) :
    LX w (w5.setCell ⟨w.heap.size + 1 + 1, 5, none⟩ v5) k s n ⟨c.nulls, data', c.ends, c.words⟩ nv v5 ev wv vals := by
  have bx : ∀ {i : Nat} {cs : Array Value} {F : TypeId}, wr.heap[i]? = some (.cells cs F (0, 0)) → F ≠ 5 → w5.heap[i]? = some (.cells cs F (0, 0)) := fun {i cs F} hi hF => (K.block _ (lt_of_blk hi) (fun e => h.ty h.data hF i e (lt_of_blk hi) _ hi)).trans hi
  have g := bx h.bc (by decide)
  have K2 : Kept (fun b => dv.ownBlock = some b ∨ b = w.heap.size + 1 + 1) wr (w5.setCell ⟨w.heap.size + 1 + 1, 5, none⟩ v5) := (K.mono (fun b e _ => .inl e)).trans (Kept.setCell w5 ⟨w.heap.size + 1 + 1, 5, none⟩ v5) (fun b e _ => .inr e)
  have ty2 : ∀ {F : TypeId}, F ≠ 5 → F ≠ 43 → ∀ b, (dv.ownBlock = some b ∨ b = w.heap.size + 1 + 1) → b < wr.heap.size → ∀ cs, wr.heap[b]? ≠ some (.cells cs F (0, 0)) := by
    rintro F h1 h2 b (e | rfl) hb cs hc
    · exact h.ty h.data h1 b e hb cs hc
    · rw [h.bc] at hc; cases hc; exact h2 rfl
  refine ⟨?_, ?_, by simpa using heap_setCell_at (k := 5) g v5, h.words.keptT K2 ?_ ?_, h.nulls.keptT K2 (ty2 (by decide) (by decide)), ho.set_other (ho.blk_ne g (by decide)) _, h.ends.keptT K2 (ty2 (by decide) (by decide)), ?_, (h.bel.trans (K.to_below h.bel.size (fun b e => (h.data.lt b e).1))).setCell (by simp; omega) _⟩
  · rw [Below.heap_setCell _ _ _ _ (by simp; omega)]; exact bx h.bt (by decide)
  · rw [Below.heap_setCell _ _ _ _ (by simp)]; exact bx h.br (by decide)
  · rintro E (rfl | rfl) <;> exact ty2 (by decide) (by decide)
  · intro j v hj b e e2
    obtain ⟨_, cur, hg⟩ := h.word_lt v (List.mem_of_getElem? hj) b e
    rcases e2 with e2 | rfl
    · exact h.apart v (List.mem_of_getElem? hj) b e e2
    · rw [h.bc] at hg; cases hg
  · intro v hv b e e2
    rcases hb with h1 | ⟨b', h1, h2⟩
    · exact h.apart v hv b e (h1 ▸ e2)
    · rw [h1] at e2; cases e2
      have := (h.word_lt v hv _ e).1; omega
theorem LX.end_ {w5 : World} {o : Obj} {v5 : Value} {y : Int} (h : LX w wr k s n c nv dv ev wv vals) (hA : AppP (wr.alloc o) w.heap.size 3 1 ev c.ends.length (c.ends.map (.int .i64)) 1 [.int .i64 y] v5 w5) :
    LX w (w5.setCell ⟨w.heap.size + 1 + 1, 6, none⟩ v5) k s n ⟨c.nulls, c.data, c.ends ++ [y], c.words⟩ nv dv v5 wv vals := by
  have K : Kept (fun b => ev.ownBlock = some b) wr w5 := (Kept.of_below (below_new wr o)).trans ((Kept.of_grown hA.grown).mono (fun b e _ => e.symm)) (fun _ e _ => e)
  have bx : ∀ {i : Nat} {cs : Array Value} {F : TypeId}, wr.heap[i]? = some (.cells cs F (0, 0)) → F ≠ 3 → w5.heap[i]? = some (.cells cs F (0, 0)) := fun {i cs F} hi hF => (K.block _ (lt_of_blk hi) (fun e => h.ty h.ends hF i e (lt_of_blk hi) _ hi)).trans hi
  have g := bx h.bc (by decide)
  have K2 : Kept (fun b => ev.ownBlock = some b ∨ b = w.heap.size + 1 + 1) wr (w5.setCell ⟨w.heap.size + 1 + 1, 6, none⟩ v5) := (K.mono (fun b e _ => .inl e)).trans (Kept.setCell w5 ⟨w.heap.size + 1 + 1, 6, none⟩ v5) (fun b e _ => .inr e)
  have ty2 : ∀ {F : TypeId}, F ≠ 3 → F ≠ 43 → ∀ b, (ev.ownBlock = some b ∨ b = w.heap.size + 1 + 1) → b < wr.heap.size → ∀ cs, wr.heap[b]? ≠ some (.cells cs F (0, 0)) := by
    rintro F h1 h2 b (e | rfl) hb cs hc
    · exact h.ty h.ends h1 b e hb cs hc
    · rw [h.bc] at hc; cases hc; exact h2 rfl
  refine ⟨?_, ?_, by simpa using heap_setCell_at (k := 6) g v5, h.words.keptT K2 ?_ ?_, h.nulls.keptT K2 (ty2 (by decide) (by decide)), h.data.keptT K2 (ty2 (by decide) (by decide)), ?_, h.apart, (h.bel.trans (K.to_below h.bel.size (fun b e => (h.ends.lt b e).1))).setCell (by simp; omega) _⟩
  · rw [Below.heap_setCell _ _ _ _ (by simp; omega)]; exact bx h.bt (by decide)
  · rw [Below.heap_setCell _ _ _ _ (by simp)]; exact bx h.br (by decide)
  · rintro E (rfl | rfl) <;> exact ty2 (by decide) (by decide)
  · intro j v hj b e e2
    obtain ⟨_, cur, hg⟩ := h.word_lt v (List.mem_of_getElem? hj) b e
    exact ty2 (by decide) (by decide) b e2 (lt_of_blk hg) _ hg
  · have := hA.own.set_other (a := ⟨w.heap.size + 1 + 1, 6, none⟩) (hA.own.blk_ne g (by decide)) v5
    rw [List.length_append, List.map_append]
    exact this
theorem LX.word {w5 : World} {t : List Int} {wv' : Value} {vals' : List Value} (h : LX w wr k s n c nv dv ev wv vals) (hw : W17 w5 w.heap.size (w.heap.size + 1 + 1 + 1) (addWord c.words t) wv' vals') (K : Kept (fun b => b = w.heap.size + 1 + 1 + 1 ∨ wv.ownBlock = some b) wr w5) (hv : ∀ v ∈ vals', v ∈ vals ∨ ∀ b, v.ownBlock = some b → wr.heap.size ≤ b) :
    LX w w5 k s n ⟨c.nulls, c.data, c.ends, addWord c.words t⟩ nv dv ev wv' vals' := by
  have ty2 : ∀ {F : TypeId}, F ≠ 37 → F ≠ 185 → ∀ b, (b = w.heap.size + 1 + 1 + 1 ∨ wv.ownBlock = some b) → b < wr.heap.size → ∀ cs, wr.heap[b]? ≠ some (.cells cs F (0, 0)) := by
    rintro F h1 h2 b (rfl | e) hb cs hc
    · rw [h.words.blk] at hc; cases hc; exact h2 rfl
    · exact h.ty h.words.row h1 b e hb cs hc
  have bx : ∀ {i : Nat} {cs : Array Value} {F : TypeId}, wr.heap[i]? = some (.cells cs F (0, 0)) → F ≠ 37 → F ≠ 185 → w5.heap[i]? = some (.cells cs F (0, 0)) := fun {i cs F} hi h1 h2 => (K.block _ (lt_of_blk hi) (fun e => ty2 h1 h2 i e (lt_of_blk hi) _ hi)).trans hi
  refine ⟨bx h.bt (by decide) (by decide), bx h.br (by decide) (by decide), bx h.bc (by decide) (by decide), hw, h.nulls.keptT K (ty2 (by decide) (by decide)), h.data.keptT K (ty2 (by decide) (by decide)), h.ends.keptT K (ty2 (by decide) (by decide)), ?_, h.bel.trans (K.to_below h.bel.size (fun b e => by
    rcases e with rfl | e
    · omega
    · exact (h.words.row.lt b e).1))⟩
  intro v hv' b e e2
  rcases hv v hv' with h1 | h1
  · exact h.apart v h1 b e e2
  · have := h1 b e
    have := (h.data.lt b e2).2
    omega
end Go.Proofs.Ytmhjjhaipcgbiaa
