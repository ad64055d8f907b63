/- Texts of this claim, one behind the other: Lay3, Lay4, Append. -/
import Derived.Test.YtmhjjhaipcgbiaaGreatZemP29
import Derived.Test.YtmhjjhaipcgbiaaGreatZemP28
import Derived.Test.YtmhjjhaipcgbiaaGreatZemP23
import Derived.Test.YtmhjjhaipcgbiaaGreatZemP19
import Derived.Test.YtmhjjhaipcgbiaaGreatZemP22

namespace Go.Proofs.YtmhjjhaipcgbiaaGreat
open Go.RowKit
set_option linter.unusedVariables false
set_option linter.unusedSimpArgs false
set_option maxRecDepth 100000
set_option maxHeartbeats 1000000
def Code17P (base wb : Nat) (ws : List (List Int)) (t : List Int) (wv : Value) (vals : List Value) (w : World) (e : Ending) (w' : World) : Prop :=
  e = .returned (.int .i64 (codeOf ws t : Int)) ∧ ∃ wv' vals', W17 w' base wb (addWord ws t) wv' vals' ∧ Kept (fun b => b = wb ∨ wv.ownBlock = some b) w w' ∧ ∀ v ∈ vals', v ∈ vals ∨ ∀ b, v.ownBlock = some b → w.heap.size ≤ b
theorem below_app_new {w1 w5 : World} {o1 : Obj} {E : TypeId} {sz m : Nat} {news : List Value} {v : Value} (hA : AppP (w1.drew.alloc o1) w1.heap.size E sz (.slice (some ⟨w1.heap.size, 0, none⟩) 0 0) 0 [] m news v w5) : Below w1.heap.size w1 w5 := by
  have hs1 : (w1.drew.alloc o1).heap.size = w1.heap.size + 1 := by show (w1.drew.alloc o1).heap.size = w1.drew.heap.size + 1; simp
  exact (((below_drewN w1 _ 1).alloc (Nat.le_refl _) o1)).trans (below_of_grown hA.grown (Nat.le_trans (Nat.le_succ _) (Nat.le_of_eq hs1.symm)) (fun k e => by
    have e : k = w1.heap.size := by simpa [Value.ownBlock] using e.symm
    exact Nat.le_of_eq e.symm))
theorem code17_end {base wb : Nat} {ws : List (List Int)} {t : List Int} {wv : Value} {vals : List Value} {w w1 w5 w8 : World} {v2 : Value} {a2 : Option Addr} {c2 : Nat} {o1 : Obj} (h : W17 w base wb ws wv vals) (hn : ws.contains t = false) (ht : IsBytes t) (hb : base ≤ w.heap.size) (h1 : Below w.heap.size w w1)
    (hA : AppP (w1.drew.alloc o1) w1.heap.size 5 1 (.slice (some ⟨w1.heap.size, 0, none⟩) 0 0) 0 [] t.length (t.map (.int .u8)) (.slice a2 t.length c2) w5)
    (hA2 : AppP (w5.alloc (.cells #[.slice a2 t.length c2] 43)) base 43 1 wv ws.length vals 1 [.slice a2 t.length c2] v2 w8) :
    ∃ vals', W17 (w8.setCell ⟨wb, 0, none⟩ v2) base wb (addWord ws t) v2 vals' ∧ Kept (fun b => b = wb ∨ wv.ownBlock = some b) w (w8.setCell ⟨wb, 0, none⟩ v2) ∧ ∀ v ∈ vals', v ∈ vals ∨ ∀ b, v.ownBlock = some b → w.heap.size ≤ b := by
  have b5 := below_app_new hA
  have K8 : Kept (fun b => wv.ownBlock = some b) w5 w8 := (Kept.of_below (below_new w5 _)).trans ((Kept.of_grown hA2.grown).mono (fun b e _ => e.symm)) (fun _ e _ => e)
  have h5 := (h.below h1).below b5
  have b05 : Below w.heap.size w w5 := below_chain h1 b5
  have g8 := (K8.block wb (lt_of_blk h5.blk) (fun e => h5.row.blk_ne h5.blk (by decide) e)).trans h5.blk
  have hnew : Own w5 w1.heap.size 5 1 (.slice a2 t.length c2) t.length (t.map (.int .u8)) := by simpa using hA.own
  have hu8 : ∀ {v : Value} {n b0 : Nat} {xs : List Value}, Own w5 b0 5 1 v n xs → Own (w8.setCell ⟨wb, 0, none⟩ v2) b0 5 1 v n xs := fun {v n b0 xs} ho => by
    have h8 := ho.keptT K8 (fun b e _ cs hc => by
      obtain ⟨cur, hg⟩ := own_blk h5.row e
      rw [hg] at hc; cases hc)
    exact h8.set_other (h8.blk_ne g8 (by decide)) _
  refine ⟨vals ++ [.slice a2 t.length c2], ⟨by simpa using heap_setCell_at (k := 0) g8 v2, h.bb, ?_, ?_, ?_, ?_, ?_⟩, ((Kept.of_below (S := fun b => b = wb ∨ wv.ownBlock = some b) b05).trans K8 (fun b e _ => .inr e)).trans (Kept.setCell w8 ⟨wb, 0, none⟩ v2) (fun b e _ => .inl e), ?_⟩
  · rw [addWord_new hn, List.length_append]
    exact hA2.own.set_other (hA2.own.blk_ne g8 (by decide)) _
  · rw [addWord_new hn]; simp [h.len]
  · rw [addWord_new hn]
    intro j u hj hu
    rcases Nat.lt_or_ge j ws.length with hl | hl
    · rw [List.getElem?_append_left hl] at hu
      obtain ⟨a, cap, q1, q2⟩ := h5.each j u hl hu
      exact ⟨a, cap, by rw [List.getElem?_append_left (by rw [h.len]; exact hl)]; exact q1, hu8 q2⟩
    · rw [List.getElem?_append_right hl] at hu
      have h0 : j - ws.length = 0 := by have := (List.getElem?_eq_some_iff.1 hu).1; simp at this; omega
      rw [h0] at hu
      simp at hu
      subst hu
      exact ⟨a2, c2, by rw [List.getElem?_append_right (by rw [h.len]; exact hl), h.len, h0]; rfl, (hu8 hnew).mono (Nat.le_trans hb h1.size)⟩
  · rw [addWord_new hn]
    intro j j' v v' hjj hj hv hv' b e e2
    rw [List.length_append] at hj
    rcases Nat.lt_or_ge j' ws.length with hl | hl
    · rw [List.getElem?_append_left (by rw [h.len]; omega)] at hv hv'
      exact h.sep j j' v v' hjj hl hv hv' b e e2
    · have hj2 : j' = ws.length := by simp at hj; omega
      subst hj2
      rw [List.getElem?_append_left (by rw [h.len]; omega)] at hv
      rw [List.getElem?_append_right (by rw [h.len]; exact Nat.le_refl _), h.len, Nat.sub_self] at hv'
      simp at hv'
      subst hv'
      obtain ⟨a, cap, q1, q2⟩ := h.each j _ hjj (List.getElem?_eq_getElem hjj)
      rw [hv] at q1
      cases q1
      have := (q2.lt b e).2
      have := (hnew.lt b e2).1
      have := h1.size
      omega
  · exact addWord_bytes h.bytes ht
  · intro v hv
    rcases List.mem_append.1 hv with h2 | h2
    · exact .inl h2
    · simp at h2
      subst h2
      exact .inr (fun b e => Nat.le_trans h1.size (hnew.lt b e).1)
theorem code17 (base wb : Nat) (ws : List (List Int)) (wv : Value) (vals : List Value) (t : List Int) (ht : IsBytes t) (htl : t.length ≤ 100000000) (hw : ws.length ≤ 100000000) (ta : Option Addr) (tc : Nat) (w : World) (hb : base ≤ w.heap.size) (h : W17 w base wb ws wv vals) (hr : Rd w 1 (.slice ta t.length tc) t.length (t.map (.int .u8))) :
    Calls Tryz.prog 76 #[.pointer (some ⟨wb, 0, none⟩), .slice ta t.length tc] w (Code17P base wb ws t wv vals w) := by
  have HF := Aside.mk (find17 base wb ws wv vals t ht hw ta tc w h hr)
  obtain ⟨wa, wc, rfl⟩ := h.row.form
  cases hcon : ws.contains t with
  | true =>
    have HC := Aside.mk hcon
    unfold FindP at HF
    rw [hcon] at HF
    simp only [if_true] at HF
    have H := Aside.mk h
    clear h hcon hr
    go_enter Tryz.func76, Tryz.ntmps76
    go_wp2_with (go_at_call 147; refine HF.out.mono ?_; rintro e w1 ⟨rfl, hb1⟩; have HB1 := Aside.mk hb1; clear hb1)
    go_ret
    refine ⟨rfl, .slice wa ws.length wc, vals, ?_, Kept.of_below HB1.out, fun v hv => .inl hv⟩
    rw [addWord_old HC.out]
    exact H.out.below HB1.out
  | false =>
    have HC := Aside.mk hcon
    unfold FindP at HF
    rw [hcon] at HF
    simp only [Bool.false_eq_true, if_false] at HF
    have H := Aside.mk h
    have HR := Aside.mk hr
    have HTB := Aside.mk ht
    clear h hcon hr ht
    generalize hn : t.length = n at *
    have HN := Aside.mk hn
    clear hn
    go_enter Tryz.func76, Tryz.ntmps76
    go_wp2_with (go_at_call 147; refine HF.out.mono ?_; rintro e w1 ⟨rfl, hb1⟩; have HB1 := Aside.mk hb1; clear hb1)
    have H1 := Aside.mk (H.out.below HB1.out)
    have c0 := cell_blk (k := 0) H1.out.blk
    have f0 := fun k => frozen_blk (k := k) H1.out.blk
    have hlt := lt_of_blk H1.out.blk
    simp at c0
    have HR1 := Aside.mk (HR.out.below HB1.out)
    have hbl := HB1.out.size
    go_region_law (first
      | (refine step_app2 (P := Tryz.prog) (w1.drew.alloc (.cells #[] 5)) (.tmp 20) (.tmp 21) 43 43 (by rfl) (by rfl) w1.heap.size 5 (.int .u8 0) 1 1 Tryz.underlying43 u8info (by rfl) (.slice (some ⟨w1.heap.size, 0, none⟩) 0 0) 0 [] (by rfl) (own_empty w1.drew w1.heap.size w1.heap.size 5 1 rfl (Nat.le_refl _)) (.slice ta n tc) n (t.map (.int .u8)) (by rfl) (((HR1.out.below (below_drewN _ _ 1)).below (below_new _ _)).src Tryz.underlying43 (one_map (fun x : Int => Value.int .u8 x) (fun _ => rfl) t)) (by unfold maxLen; omega) (by omega) (by show w1.drew.heap.size ≤ _; simp) ?_; intro v5 w5 hA; obtain ⟨a5, c5, rfl⟩ := hA.own.form; simp only [Nat.zero_add] at hA ⊢; have HB5 := Aside.mk (below_app_new hA); have HA := Aside.mk hA; have H5 := Aside.mk (H1.out.below HB5.out); clear c0 f0 hlt hA; have c0 := cell_blk (k := 0) H5.out.blk; have f0 := fun k => frozen_blk (k := k) H5.out.blk; have hlt := lt_of_blk H5.out.blk; simp at c0)
      | (refine step_app2 (P := Tryz.prog) (w5.alloc (.cells #[.slice a5 n c5] 43)) (.tmp 19) (.tmp 23) 37 37 (by rfl) (by rfl) base 43 (.slice none 0 0) 1 24 Tryz.underlying37 bytesinfo (by rfl) (.slice wa ws.length wc) ws.length vals (by rfl) (H5.out.row.alloc _) (.slice (some ⟨w5.heap.size, 0, none⟩) 1 1) 1 [.slice a5 n c5] (by rfl) (src_one Tryz.underlying37 _ _ _ rfl rfl) (by unfold maxLen; omega) (by omega) (by have := HB5.out.size; simp; omega) ?_; intro v8 w8 hA; obtain ⟨a8, c8, rfl⟩ := hA.own.form; have K8 := Aside.mk (show Kept (fun b => (Value.slice wa ws.length wc).ownBlock = some b) w5 w8 from (Kept.of_below (below_new w5 _)).trans ((Kept.of_grown hA.grown).mono (fun b e _ => e.symm)) (fun _ e _ => e)); have g8 := (K8.out.block wb hlt (fun e => H5.out.row.blk_ne H5.out.blk (by decide) e)).trans H5.out.blk; clear c0 f0 hlt; have c0 := cell_blk (k := 0) g8; have f0 := fun k => frozen_blk (k := k) g8; simp at c0; have HA2 := Aside.mk hA; clear hA g8))
    all_goals
      obtain ⟨vals', r1, r2, r3⟩ := code17_end H.out HC.out HTB.out hb HB1.out (by rw [HN.out]; exact HA.out) (by rw [HN.out]; exact HA2.out)
      have HE := Aside.mk (And.intro r1 (And.intro r2 r3))
      have hcd := codeOf_new HC.out
      have HCD := Aside.mk hcd
      have q0 := cell_blk (k := 0) r1.blk
      simp at q0
      clear r1 r2 r3 hcd c0
      go_wp2_with fail
      go_ret
      exact ⟨ret_int (by rw [HCD.out]), _, vals', HE.out.1, HE.out.2.1, HE.out.2.2⟩
end Go.Proofs.YtmhjjhaipcgbiaaGreat


namespace Go.Proofs.YtmhjjhaipcgbiaaGreat
open Go.RowKit
set_option linter.unusedVariables false
set_option linter.unusedSimpArgs false
set_option maxRecDepth 100000
set_option maxHeartbeats 1000000
structure LX (w wr : World) (k s : Int) (n : Nat) (c : CS) (nv dv ev wv : Value) (vals : List Value) : Prop where
  bt : wr.heap[w.heap.size]? = some (.cells #[.int .i64 k, .int .i64 s] 23 (0, 0))
  br : wr.heap[w.heap.size + 1]? = some (.cells #[.int .i64 0, .int .i64 0, .int .i64 0, .int .i64 0, .slice none 0 0, .slice none 0 0, .slice none 0 0, .slice none 0 0] 63 (0, 0))
  bc : wr.heap[w.heap.size + 1 + 1]? = some (.cells #[.int .i64 k, .int .i64 s, .int .i64 (n : Int), .int .i64 0, .slice none 0 0, dv, ev, .slice none 0 0] 63 (0, 0))
  words : W17 wr w.heap.size (w.heap.size + 1 + 1 + 1) c.words wv vals
  nulls : Own wr w.heap.size 4 1 nv c.nulls.length (c.nulls.map .bool)
  data : Own wr w.heap.size 5 1 dv c.data.length (c.data.map (.int .u8))
  ends : Own wr w.heap.size 3 1 ev c.ends.length (c.ends.map (.int .i64))
  apart : ∀ v ∈ vals, ∀ b, v.ownBlock = some b → dv.ownBlock ≠ some b
  bel : Below w.heap.size w wr
variable {w wr : World} {k s : Int} {n : Nat} {c : CS} {nv dv ev wv : Value} {vals : List Value}
theorem LX.ty (h : LX w wr k s n c nv dv ev wv vals) {v : Value} {E base : Nat} {m : Nat} {xs : List Value} (ho : Own wr base E 1 v m xs) {F : TypeId} (hE : F ≠ E) : ∀ b, v.ownBlock = some b → b < wr.heap.size → ∀ cs, wr.heap[b]? ≠ some (.cells cs F (0, 0)) := by
  intro b e _ cs hc
  obtain ⟨cur, hg⟩ := own_blk ho e
  rw [hg] at hc
  cases hc
  exact hE rfl
theorem LX.word_lt (h : LX w wr k s n c nv dv ev wv vals) : ∀ v ∈ vals, ∀ b, v.ownBlock = some b → b < wr.heap.size ∧ ∃ cur, wr.heap[b]? = some (.cells cur 5 (0, 0)) := by
  intro v hv b e
  obtain ⟨i, hi, rfl⟩ := List.mem_iff_getElem.1 hv
  have hl := h.words.len
  obtain ⟨a, cap, q1, q2⟩ := h.words.each i _ (by omega) (List.getElem?_eq_getElem (by omega))
  rw [List.getElem?_eq_getElem hi] at q1
  rw [Option.some.inj q1] at e
  exact ⟨(q2.lt b e).2, own_blk q2 e⟩
theorem LX.below {w2 : World} (h : LX w wr k s n c nv dv ev wv vals) (hb : Below wr.heap.size wr w2) : LX w w2 k s n c nv dv ev wv vals :=
  ⟨(hb.block _ (lt_of_blk h.bt)).trans h.bt, (hb.block _ (lt_of_blk h.br)).trans h.br, (hb.block _ (lt_of_blk h.bc)).trans h.bc, h.words.below hb, h.nulls.below hb, h.data.below hb, h.ends.below hb, h.apart, below_chain h.bel hb⟩
theorem LX.null {w5 : World} {o : Obj} {v5 : Value} {b : Bool} (h : LX w wr k s n c nv dv ev wv vals) (hA : AppP (wr.alloc o) w.heap.size 4 1 nv c.nulls.length (c.nulls.map .bool) 1 [.bool b] v5 w5) :
    LX w w5 k s n ⟨c.nulls ++ [b], c.data, c.ends, c.words⟩ v5 dv ev wv vals := by
  have K : Kept (fun b => nv.ownBlock = some b) wr w5 := (Kept.of_below (below_new wr o)).trans ((Kept.of_grown hA.grown).mono (fun b e _ => e.symm)) (fun _ e _ => e)
  have bx : ∀ {i : Nat} {cs : Array Value} {F : TypeId}, wr.heap[i]? = some (.cells cs F (0, 0)) → F ≠ 4 → w5.heap[i]? = some (.cells cs F (0, 0)) := fun {i cs F} hi hF => (K.block _ (lt_of_blk hi) (fun e => h.ty h.nulls hF i e (lt_of_blk hi) _ hi)).trans hi
  refine ⟨bx h.bt (by decide), bx h.br (by decide), bx h.bc (by decide), h.words.keptT K ?_ ?_, ?_, h.data.keptT K (h.ty h.nulls (by decide)), h.ends.keptT K (h.ty h.nulls (by decide)), h.apart, h.bel.trans (K.to_below h.bel.size (fun b e => (h.nulls.lt b e).1))⟩
  · rintro E (rfl | rfl) <;> exact h.ty h.nulls (by decide)
  · intro j v hj b e e2
    obtain ⟨_, cur, hg⟩ := h.word_lt v (List.mem_of_getElem? hj) b e
    exact h.ty h.nulls (by decide) b e2 (lt_of_blk hg) _ hg
  · have := hA.own
    rw [List.length_append, List.map_append]
    exact this
theorem LX.dat {w5 : World} {v5 : Value} {data' : List Int} (h : LX w wr k s n c nv dv ev wv vals) (K : Kept (fun b => dv.ownBlock = some b) wr w5) (ho : Own w5 w.heap.size 5 1 v5 data'.length (data'.map (.int .u8))) (hb : v5.ownBlock = dv.ownBlock ∨ ∃ b, v5.ownBlock = some b ∧ wr.heap.size ≤ b) :
    LX w (w5.setCell ⟨w.heap.size + 1 + 1, 5, none⟩ v5) k s n ⟨c.nulls, data', c.ends, c.words⟩ nv v5 ev wv vals := by
  have bx : ∀ {i : Nat} {cs : Array Value} {F : TypeId}, wr.heap[i]? = some (.cells cs F (0, 0)) → F ≠ 5 → w5.heap[i]? = some (.cells cs F (0, 0)) := fun {i cs F} hi hF => (K.block _ (lt_of_blk hi) (fun e => h.ty h.data hF i e (lt_of_blk hi) _ hi)).trans hi
  have g := bx h.bc (by decide)
  have K2 : Kept (fun b => dv.ownBlock = some b ∨ b = w.heap.size + 1 + 1) wr (w5.setCell ⟨w.heap.size + 1 + 1, 5, none⟩ v5) := (K.mono (fun b e _ => .inl e)).trans (Kept.setCell w5 ⟨w.heap.size + 1 + 1, 5, none⟩ v5) (fun b e _ => .inr e)
  have ty2 : ∀ {F : TypeId}, F ≠ 5 → F ≠ 63 → ∀ b, (dv.ownBlock = some b ∨ b = w.heap.size + 1 + 1) → b < wr.heap.size → ∀ cs, wr.heap[b]? ≠ some (.cells cs F (0, 0)) := by
    rintro F h1 h2 b (e | rfl) hb cs hc
    · exact h.ty h.data h1 b e hb cs hc
    · rw [h.bc] at hc; cases hc; exact h2 rfl
  refine ⟨?_, ?_, by simpa using heap_setCell_at (k := 5) g v5, h.words.keptT K2 ?_ ?_, h.nulls.keptT K2 (ty2 (by decide) (by decide)), ho.set_other (ho.blk_ne g (by decide)) _, h.ends.keptT K2 (ty2 (by decide) (by decide)), ?_, (h.bel.trans (K.to_below h.bel.size (fun b e => (h.data.lt b e).1))).setCell (by simp; omega) _⟩
  · rw [Below.heap_setCell _ _ _ _ (by simp; omega)]; exact bx h.bt (by decide)
  · rw [Below.heap_setCell _ _ _ _ (by simp)]; exact bx h.br (by decide)
  · rintro E (rfl | rfl) <;> exact ty2 (by decide) (by decide)
  · intro j v hj b e e2
    obtain ⟨_, cur, hg⟩ := h.word_lt v (List.mem_of_getElem? hj) b e
    rcases e2 with e2 | rfl
    · exact h.apart v (List.mem_of_getElem? hj) b e e2
    · rw [h.bc] at hg; cases hg
  · intro v hv b e e2
    rcases hb with h1 | ⟨b', h1, h2⟩
    · exact h.apart v hv b e (h1 ▸ e2)
    · rw [h1] at e2; cases e2
      have := (h.word_lt v hv _ e).1; omega
theorem LX.end_ {w5 : World} {o : Obj} {v5 : Value} {y : Int} (h : LX w wr k s n c nv dv ev wv vals) (hA : AppP (wr.alloc o) w.heap.size 3 1 ev c.ends.length (c.ends.map (.int .i64)) 1 [.int .i64 y] v5 w5) :
    LX w (w5.setCell ⟨w.heap.size + 1 + 1, 6, none⟩ v5) k s n ⟨c.nulls, c.data, c.ends ++ [y], c.words⟩ nv dv v5 wv vals := by
  have K : Kept (fun b => ev.ownBlock = some b) wr w5 := (Kept.of_below (below_new wr o)).trans ((Kept.of_grown hA.grown).mono (fun b e _ => e.symm)) (fun _ e _ => e)
  have bx : ∀ {i : Nat} {cs : Array Value} {F : TypeId}, wr.heap[i]? = some (.cells cs F (0, 0)) → F ≠ 3 → w5.heap[i]? = some (.cells cs F (0, 0)) := fun {i cs F} hi hF => (K.block _ (lt_of_blk hi) (fun e => h.ty h.ends hF i e (lt_of_blk hi) _ hi)).trans hi
  have g := bx h.bc (by decide)
  have K2 : Kept (fun b => ev.ownBlock = some b ∨ b = w.heap.size + 1 + 1) wr (w5.setCell ⟨w.heap.size + 1 + 1, 6, none⟩ v5) := (K.mono (fun b e _ => .inl e)).trans (Kept.setCell w5 ⟨w.heap.size + 1 + 1, 6, none⟩ v5) (fun b e _ => .inr e)
  have ty2 : ∀ {F : TypeId}, F ≠ 3 → F ≠ 63 → ∀ b, (ev.ownBlock = some b ∨ b = w.heap.size + 1 + 1) → b < wr.heap.size → ∀ cs, wr.heap[b]? ≠ some (.cells cs F (0, 0)) := by
    rintro F h1 h2 b (e | rfl) hb cs hc
    · exact h.ty h.ends h1 b e hb cs hc
    · rw [h.bc] at hc; cases hc; exact h2 rfl
  refine ⟨?_, ?_, by simpa using heap_setCell_at (k := 6) g v5, h.words.keptT K2 ?_ ?_, h.nulls.keptT K2 (ty2 (by decide) (by decide)), h.data.keptT K2 (ty2 (by decide) (by decide)), ?_, h.apart, (h.bel.trans (K.to_below h.bel.size (fun b e => (h.ends.lt b e).1))).setCell (by simp; omega) _⟩
  · rw [Below.heap_setCell _ _ _ _ (by simp; omega)]; exact bx h.bt (by decide)
  · rw [Below.heap_setCell _ _ _ _ (by simp)]; exact bx h.br (by decide)
  · rintro E (rfl | rfl) <;> exact ty2 (by decide) (by decide)
  · intro j v hj b e e2
    obtain ⟨_, cur, hg⟩ := h.word_lt v (List.mem_of_getElem? hj) b e
    exact ty2 (by decide) (by decide) b e2 (lt_of_blk hg) _ hg
  · have := hA.own.set_other (a := ⟨w.heap.size + 1 + 1, 6, none⟩) (hA.own.blk_ne g (by decide)) v5
    rw [List.length_append, List.map_append]
    exact this
theorem LX.word {w5 : World} {t : List Int} {wv' : Value} {vals' : List Value} (h : LX w wr k s n c nv dv ev wv vals) (hw : W17 w5 w.heap.size (w.heap.size + 1 + 1 + 1) (addWord c.words t) wv' vals') (K : Kept (fun b => b = w.heap.size + 1 + 1 + 1 ∨ wv.ownBlock = some b) wr w5) (hv : ∀ v ∈ vals', v ∈ vals ∨ ∀ b, v.ownBlock = some b → wr.heap.size ≤ b) :
    LX w w5 k s n ⟨c.nulls, c.data, c.ends, addWord c.words t⟩ nv dv ev wv' vals' := by
  have ty2 : ∀ {F : TypeId}, F ≠ 43 → F ≠ 148 → ∀ b, (b = w.heap.size + 1 + 1 + 1 ∨ wv.ownBlock = some b) → b < wr.heap.size → ∀ cs, wr.heap[b]? ≠ some (.cells cs F (0, 0)) := by
    rintro F h1 h2 b (rfl | e) hb cs hc
    · rw [h.words.blk] at hc; cases hc; exact h2 rfl
    · exact h.ty h.words.row h1 b e hb cs hc
  have bx : ∀ {i : Nat} {cs : Array Value} {F : TypeId}, wr.heap[i]? = some (.cells cs F (0, 0)) → F ≠ 43 → F ≠ 148 → w5.heap[i]? = some (.cells cs F (0, 0)) := fun {i cs F} hi h1 h2 => (K.block _ (lt_of_blk hi) (fun e => ty2 h1 h2 i e (lt_of_blk hi) _ hi)).trans hi
  refine ⟨bx h.bt (by decide) (by decide), bx h.br (by decide) (by decide), bx h.bc (by decide) (by decide), hw, h.nulls.keptT K (ty2 (by decide) (by decide)), h.data.keptT K (ty2 (by decide) (by decide)), h.ends.keptT K (ty2 (by decide) (by decide)), ?_, h.bel.trans (K.to_below h.bel.size (fun b e => by
    rcases e with rfl | e
    · omega
    · exact (h.words.row.lt b e).1))⟩
  intro v hv' b e e2
  rcases hv v hv' with h1 | h1
  · exact h.apart v h1 b e e2
  · have := h1 b e
    have := (h.data.lt b e2).2
    omega
end Go.Proofs.YtmhjjhaipcgbiaaGreat


namespace Go.Proofs.YtmhjjhaipcgbiaaGreat
open Go.RowKit Go.Shelf
set_option linter.unusedVariables false
set_option linter.unusedSimpArgs false
set_option maxRecDepth 100000
set_option maxHeartbeats 4000000
attribute [local go_sem] Oper.semAt_some
def CS.app (k : Int) (cs : CS) (l : List V) : CS := l.foldl (CS.add k) cs
theorem CS.app_snoc (k : Int) (cs : CS) (l : List V) (v : V) : CS.app k cs (l ++ [v]) = (CS.app k cs l).add k v := by simp [CS.app, List.foldl_append]
def valsC (c : Col) (n : Nat) : List V := (List.range n).map (valC c)
theorem valsC_snoc (c : Col) (n : Nat) : valsC c (n + 1) = valsC c n ++ [valC c n] := by simp [valsC, List.range_succ]
theorem app_next (c : Col) (cs : CS) (n : Nat) : CS.app c.k cs (valsC c (n + 1)) = (CS.app c.k cs (valsC c n)).add c.k (valC c n) := by rw [valsC_snoc, CS.app_snoc]
structure AppI (c : Col) (B D E X : SL) (vals : List Value) (cs : CS) (S : Nat → Prop) (bl Bs b0 : Nat) (w w1 : World) (i : Nat) (W : World) : Prop where
  bs : BS W (fun b => S b ∧ b < w.heap.size ∨ w1.heap.size + 2 ≤ b) bl c.k c.s (CS.app c.k cs (valsC c i))
  kept : Kept (fun b => S b ∧ b < w.heap.size) w W
  b0 : W.heap[b0]? = some (.cells #[.pointer (some ⟨bl, 0, none⟩)] 25 (0, 0))
  bx : W.heap[Bs]? = some (.cells #[.int .i64 c.k, .int .i64 c.s, .int .i64 c.n, .int .i64 c.m, .slice B.a c.bits.length B.c, .slice D.a c.data.length D.c, .slice E.a c.ends.length E.c, .slice X.a c.words.length X.c] 63 (0, 0))
theorem AppI.moved {c : Col} {B D E X : SL} {vals : List Value} {cs : CS} {S : Nat → Prop} {bl Bs b0 : Nat} {w w1 A A' : World} {i : Nat} (hs : w.heap.size ≤ w1.heap.size) (h0 : b0 < w1.heap.size) (h1 : Bs < w1.heap.size)
    (h : AppI c B D E X vals cs S bl Bs b0 w w1 i A) (hk : Kept (fun k => k = w1.heap.size ∨ k = w1.heap.size + 1) A A') : AppI c B D E X vals cs S bl Bs b0 w w1 i A' :=
  ⟨h.bs.kept hk (fun b hb _ e => by omega), h.kept.trans hk (fun b hb hlt => by omega), (hk.block _ (lt_of_blk h.b0) (by omega)).trans h.b0, (hk.block _ (lt_of_blk h.bx) (by omega)).trans h.bx⟩
theorem append_BS (S : Nat → Prop) (bl : Nat) (c : Col) (hc : COK c) (B D E X : SL) (vals : List Value) (hr : checkC c = 0) (hDa : D.a = none ∨ ∃ g off, D.a = some ⟨g, off, none⟩) (N : Nat) (hn : c.n = (N : Int)) (cs : CS)
    (hroom : ∀ i, i < N → Room (CS.app c.k cs (valsC c i)) (valC c i)) (w : World) (h : BS w S bl c.k c.s cs) (hcol : ∀ w', Kept S w w' → RdC w' c B D E X vals) :
    Calls Tryz.prog 28 #[.pointer (some ⟨bl, 0, none⟩), colV c B D E X] w (StepP S bl c.k c.s (CS.app c.k cs (valsC c N)) (.int .i64 0) w) := by
  have HB0 := Aside.mk (h.mono (S' := fun b => S b ∧ b < w.heap.size) (fun b h1 h2 => ⟨h1, h2⟩))
  have hck := Aside.mk (fun (w2 : World) (hb : Below w.heap.size w w2) => check_any c hc B D E X vals w2 (hcol w2 (Kept.of_below hb)))
  have HE := Aside.mk (fun Bs => each1_any c hc B D E X vals hr hDa Bs N hn)
  have hea := Aside.mk (fun w2 => each_any c B D E X w2)
  rw [hr] at hck
  have HCOL := Aside.mk hcol
  have HRM := Aside.mk hroom
  have HN := Aside.mk hn
  have HLT := Aside.mk (show bl < w.heap.size by obtain ⟨lw, nv, dv, ev, T, h⟩ := h; exact lt_of_blk h.b.blk)
  have HBC := Aside.mk (fun (w2 : World) (hb : Below w.heap.size w w2) => show w2.cell? ⟨bl, 0, none⟩ = some (.int .i64 c.k) ∧ w2.cell? ⟨bl, 1, none⟩ = some (.int .i64 c.s) by
    obtain ⟨lw, nv, dv, ev, T, h⟩ := h.below hb
    constructor <;> (rw [cell_blk h.b.blk]; rfl))
  clear h hcol hroom hr hc hn hDa
  dsimp only [colV] at hck hea ⊢
  refine calls_of_marks Tryz.func28 rfl ?_; simp only [Tryz.ntmps28, List.size_toArray, List.length_cons, List.length_nil, Nat.reduceAdd, Nat.reduceSub, Array.replicate_succ, Array.replicate_zero, List.push_toArray, List.append_toArray, List.nil_append, List.cons_append]
  go_wp2_with fail
  obtain ⟨t1, t2, t3, t4⟩ := below_two w (.cells #[.pointer (some ⟨bl, 0, none⟩)] 25 (0, 0)) (.cells #[.int .i64 c.k, .int .i64 c.s, .int .i64 c.n, .int .i64 c.m, .slice B.a c.bits.length B.c, .slice D.a c.data.length D.c, .slice E.a c.ends.length E.c, .slice X.a c.words.length X.c] 63 (0, 0))
  have hg : ∀ W', ((w.alloc (.cells #[.pointer (some ⟨bl, 0, none⟩)] 25)).alloc (.cells #[.int .i64 c.k, .int .i64 c.s, .int .i64 c.n, .int .i64 c.m, .slice B.a c.bits.length B.c, .slice D.a c.data.length D.c, .slice E.a c.ends.length E.c, .slice X.a c.words.length X.c] 63)) = W' → Below w.heap.size w W' ∧ W'.heap.size = w.heap.size + 2 ∧ W'.heap[w.heap.size]? = some (.cells #[.pointer (some ⟨bl, 0, none⟩)] 25 (0, 0)) ∧ W'.heap[w.heap.size + 1]? = some (.cells #[.int .i64 c.k, .int .i64 c.s, .int .i64 c.n, .int .i64 c.m, .slice B.a c.bits.length B.c, .slice D.a c.data.length D.c, .slice E.a c.ends.length E.c, .slice X.a c.words.length X.c] 63 (0, 0)) := fun W' e => by rw [← e]; exact ⟨t1, t2, t3, t4⟩
  clear t1 t2 t3 t4
  generalize ((w.alloc (.cells #[.pointer (some ⟨bl, 0, none⟩)] 25)).alloc (.cells #[.int .i64 c.k, .int .i64 c.s, .int .i64 c.n, .int .i64 c.m, .slice B.a c.bits.length B.c, .slice D.a c.data.length D.c, .slice E.a c.ends.length E.c, .slice X.a c.words.length X.c] 63)) = w2 at *
  obtain ⟨t1, t2, t3, t4⟩ := hg w2 rfl
  have B2 := Aside.mk t1
  have HS2 := Aside.mk t2
  have H3 := Aside.mk t3
  have H4 := Aside.mk t4
  clear t1 t2 t3 t4 hg
  refine (hck.out _ B2.out).mono ?_
  rintro e w3 ⟨rfl, hb3⟩
  have B3 := Aside.mk (below_chain B2.out hb3)
  replace H3 := Aside.mk ((hb3.block _ (lt_of_blk H3.out)).trans H3.out)
  replace H4 := Aside.mk ((hb3.block _ (lt_of_blk H4.out)).trans H4.out)
  have HS3 := Aside.mk hb3.size
  clear hb3
  obtain ⟨c0, c1, c2, c3, c4, c5, c6, c7⟩ := box8 H4.out
  have d0 : w3.cell? ⟨w.heap.size, 0, none⟩ = some (.pointer (some ⟨bl, 0, none⟩)) := by rw [cell_blk H3.out]; rfl
  obtain ⟨e0, e1⟩ := HBC.out w3 B3.out
  go_wp2_with fail
  go_quiet (fail)
  clear c0 c1 c2 c3 c4 c5 c6 c7 d0 e0 e1
  generalize hq : w3.drewN _ = w4
  have B4 : Aside (Below w.heap.size w w4) := Aside.mk (by rw [← hq]; exact B3.out.trans (below_drewN _ _ _))
  have H3' : Aside (w4.heap[w.heap.size]? = some (.cells #[.pointer (some ⟨bl, 0, none⟩)] 25 (0, 0))) := Aside.mk (by rw [← hq]; exact H3.out)
  have H4' : Aside (w4.heap[w.heap.size + 1]? = some (.cells #[.int .i64 c.k, .int .i64 c.s, .int .i64 c.n, .int .i64 c.m, .slice B.a c.bits.length B.c, .slice D.a c.data.length D.c, .slice E.a c.ends.length E.c, .slice X.a c.words.length X.c] 63 (0, 0))) := Aside.mk (by rw [← hq]; exact H4.out)
  clear hq H3 H4 B3 HS3
  obtain ⟨c0, c1, c2, c3, c4, c5, c6, c7⟩ := box8 H4'.out
  go_wp2_with (go_at_call 83; refine (hea.out _).mono ?_; rintro e w5 ⟨rfl, hb5, hbx⟩; have B5 := Aside.mk (below_chain B4.out hb5); have H3 := Aside.mk ((hb5.block _ (lt_of_blk H3'.out)).trans H3'.out); have HBX := Aside.mk hbx; clear hb5 hbx)
  have HL0 := Aside.mk (show w.heap.size < w4.heap.size from lt_of_blk H3'.out)
  have HS45 := Aside.mk (lt_of_blk HBX.out)
  refine wp_seq (gf := 150) (lb := #[.pointer (some ⟨w4.heap.size, 0, none⟩)]) rfl (enters_of Tryz.func150 (by kernel_rfl) rfl) (HE.out w4.heap.size) (fun _ _ => rfl)
    (AppI c B D E X vals cs S bl w4.heap.size w.heap.size w w5) (fun _ _ => False)
    (fun k A h => ⟨HCOL.out A (h.kept.mono (fun b hb _ => hb.1)), h.bx⟩)
    (fun k A A' hk h => h.moved B5.out.size (by have := HL0.out; have := HS45.out; omega) HS45.out hk) (fun _ _ _ _ h => h)
    (fun W hb hs => ⟨(HB0.out.below (below_chain B5.out hb)).mono (fun b h _ => .inl h), Kept.of_below (below_chain B5.out hb), (hb.block _ (lt_of_blk H3.out)).trans H3.out, (hb.block _ (lt_of_blk HBX.out)).trans HBX.out⟩) ?round ?done ?stop
  case stop => exact fun _ _ h _ => h.elim
  case round =>
    rintro l i v W hi hI ⟨ta, tc, rfl, hrd⟩ hlt hmk
    have HMK := Aside.mk hmk
    clear hmk
    dsimp only [valV]
    have HI := Aside.mk hI
    have HRD := Aside.mk hrd
    clear hI hrd
    have HLT5 := Aside.mk hlt
    clear hlt
    gi_wp2
    refine ⟨fun k hk => Below.heap_alloc W _ k (by have := HLT5.out; omega), fun W₂ hk hsz => ?_⟩
    have hWsz := HLT5.out
    have hsz2 : W₂.heap.size = W.heap.size + 1 := by rw [hsz]; simp
    have hkW : Kept (fun k => k = w5.heap.size ∨ k = w5.heap.size + 1) W W₂ := (Kept.of_below ((Below.refl _ W).alloc (Nat.le_refl _) _)).trans hk (fun _ h _ => h)
    have HI2 := Aside.mk (HI.out.moved B5.out.size (by have := HL0.out; have := HS45.out; omega) HS45.out hkW)
    have hvb := (hk.block W.heap.size (by simp) (by omega)).trans (heap_alloc_new W (.cells #[.int .u64 ((valC c i).bits : Int), .slice ta (valC c i).text.length tc, .bool (valC c i).null] 145))
    obtain ⟨q0, q1, q2⟩ := box3 hvb
    have d0 : W₂.cell? ⟨w.heap.size, 0, none⟩ = some (.pointer (some ⟨bl, 0, none⟩)) := by rw [cell_blk HI2.out.b0]; rfl
    have hrd2 := HRD.out.marks HMK.out hkW
    have HADD := Aside.mk (add_BS _ bl c.k c.s _ (valC c i) ta tc (HRM.out i hi) W₂ HI2.out.bs hrd2)
    have HS2' := Aside.mk hsz2
    clear hvb hrd2 hsz hsz2 hkW hWsz
    generalize hvc : valC c i = vc at *
    have HVC := Aside.mk hvc
    clear hvc
    gi_wp2_with (refine ⟨trivial, ?_⟩; gi_at_call 72; refine (CallsIn.inRound l (callsIn_wide.2 HADD.out)).mono ?_; rintro e w6 ⟨rfl, hb6, hk6⟩; have HB6 := Aside.mk hb6; have HK6 := Aside.mk hk6; clear hb6 hk6)
    refine ⟨fun k hk => HK6.out.block k (by have := HLT5.out; have := HS2'.out; omega) (fun e => by have := B5.out.size; omega), ?_, ?_, ?_, ?_⟩
    · rw [app_next, HVC.out]
      exact HB6.out.mono (fun b hb _ => hb.elim id (fun h => .inr (by have := HLT5.out; have := HS2'.out; omega)))
    · exact HI2.out.kept.trans HK6.out (fun b hb hlt => hb.elim id (fun h => by have := B5.out.size; omega))
    · exact (HK6.out.block _ (lt_of_blk HI2.out.b0) (by have := HL0.out; have := HS45.out; omega)).trans HI2.out.b0
    · exact (HK6.out.block _ (lt_of_blk HI2.out.bx) (by have := HL0.out; have := HS45.out; omega)).trans HI2.out.bx
  case done =>
    rintro W hI hK
    have HI := Aside.mk hI
    have HK := Aside.mk hK
    clear hI hK
    go_wp2
    refine left_marks HK.out (v := .int .i64 0) ?_ ⟨rfl, ?_, ?_⟩
    · simp [results, Tryz.results28, go_sem]
    · exact (HI.out.bs.kept (kept_putObj (.inl rfl)) (fun b hb _ e => by have := B5.out.size; omega)).mono (fun b hb _ => hb.elim (fun h => .inl h.1) (fun h => .inr (by have := B5.out.size; omega)))
    · exact (HI.out.kept.mono (fun b hb _ => hb.1)).trans (kept_putObj (.inl rfl)) (fun b hb hlt => by have := B5.out.size; omega)
end Go.Proofs.YtmhjjhaipcgbiaaGreat
