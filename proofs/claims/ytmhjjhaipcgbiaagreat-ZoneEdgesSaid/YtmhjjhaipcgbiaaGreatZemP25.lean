/- Texts of this claim, one behind the other: Book1, Book3, KeepC. -/
import Derived.Test.YtmhjjhaipcgbiaaGreatZemP24
import Derived.Test.YtmhjjhaipcgbiaaGreatZemP23

namespace Go.Proofs.YtmhjjhaipcgbiaaGreat
open Go.RowKit
set_option linter.unusedVariables false
set_option linter.unusedSimpArgs false
set_option maxRecDepth 100000
set_option maxHeartbeats 1000000
def BookP (T : Nat → Prop) (bk : Nat) (v : Value) (w : World) (e : Ending) (w' : World) : Prop := e = .returned (.tuple #[]) ∧ BK w' (fun b => T b ∨ v.ownBlock = some b ∨ w.heap.size ≤ b) bk ∧ Kept T w w'
theorem book_end {T : Nat → Prop} {bk : Nat} {a : Option Addr} {c xl : Nat} {xs : List Int} {w w6 w7 w8 : World} {rows irows : List KRow} {ss hs : List Value} {ba bc sa sc va vc ta tc ua uc iv hv} (H : BKx w T bk rows irows ss hs (.slice ba rows.length bc) (.slice sa rows.length sc) iv hv)
    (hr : Own w 0 5 1 (.slice a xl c) xl (xs.map (.int .u8))) (hrT : ∀ b, (Value.slice a xl c).ownBlock = some b → ¬ T b) (hxl : xs.length = xl) (hb : IsBytes xs) (hl : xl ≤ 100000000) (hf : rows.length < 400)
    (K6 : Kept (fun b => b = bk ∨ (Value.slice ba rows.length bc).ownBlock = some b) w w6) (hT : ∀ (E : TypeId), E ≠ 41 → E ≠ 43 → ∀ b, (b = bk ∨ (Value.slice ba rows.length bc).ownBlock = some b) → b < w.heap.size → ∀ cs, w.heap[b]? ≠ some (.cells cs E (0, 0)))
    (hv6 : Own w6 0 43 1 (.slice va (rows.length + 1) vc) (rows.length + 1) (rows.map KRow.val ++ [.slice a xl c]))
    (hvb : (Value.slice va (rows.length + 1) vc).ownBlock = (Value.slice ba rows.length bc).ownBlock ∨ ∃ b, (Value.slice va (rows.length + 1) vc).ownBlock = some b ∧ w.heap.size ≤ b)
    (hb6 : w6.heap[bk]? = some (.cells #[.slice va (rows.length + 1) vc, .slice sa rows.length sc, .slice none 0 0, .slice none 0 0, iv, hv] 41 (0, 0)))
    (hb7 : Below w6.heap.size w6 w7) (ho7 : Own w7 w6.drew.heap.size 5 1 (.slice ta xl tc) xl (xs.map (.int .u8)))
    (K8 : Kept (fun b => (Value.slice sa rows.length sc).ownBlock = some b) w7 w8)
    (hA : AppP (w7.alloc (.cells #[.slice ta xl tc] 43)) 0 43 1 (.slice sa rows.length sc) rows.length ss 1 [.slice ta xl tc] (.slice ua (rows.length + 1) uc) w8)
    (hbk9 : (w8.setCell ⟨bk, 1, none⟩ (.slice ua (rows.length + 1) uc)).heap[bk]? = some (.cells ((#[.slice va (rows.length + 1) vc, .slice sa rows.length sc, .slice none 0 0, .slice none 0 0, iv, hv] : Array Value).setIfInBounds 1 (.slice ua (rows.length + 1) uc)) 41 (0, 0))) :
    BookP T bk (.slice a xl c) w (.returned (.tuple #[])) (w8.setCell ⟨bk, 1, none⟩ (.slice ua (rows.length + 1) uc)) := by
  have hs9 : Kept (fun b => b = bk) w8 (w8.setCell ⟨bk, 1, none⟩ (.slice ua (rows.length + 1) uc)) := Kept.setCell w8 ⟨bk, 1, none⟩ _
  have K : Kept (fun b => b = bk ∨ (Value.slice ba rows.length bc).ownBlock = some b ∨ (Value.slice sa rows.length sc).ownBlock = some b) w (w8.setCell ⟨bk, 1, none⟩ (.slice ua (rows.length + 1) uc)) := by
    refine Kept.trans (S := fun b => b = bk ∨ (Value.slice ba rows.length bc).ownBlock = some b ∨ (Value.slice sa rows.length sc).ownBlock = some b) (Kept.trans (S := fun b => b = bk ∨ (Value.slice ba rows.length bc).ownBlock = some b ∨ (Value.slice sa rows.length sc).ownBlock = some b) (Kept.trans (K6.mono (fun b h _ => h.elim .inl (fun h => .inr (.inl h)))) (Kept.of_below (S := fun _ => False) hb7) (fun _ h _ => h.elim)) K8 (fun b h _ => .inr (.inr h))) hs9 (fun b h _ => .inl h)
  have hT2 : ∀ (E : TypeId), E ≠ 41 → E ≠ 43 → ∀ b, (b = bk ∨ (Value.slice ba rows.length bc).ownBlock = some b ∨ (Value.slice sa rows.length sc).ownBlock = some b) → b < w.heap.size → ∀ cs, w.heap[b]? ≠ some (.cells cs E (0, 0)) := by
    rintro E h1 h2 b (h | h | h) hb cs hc
    · exact hT E h1 h2 b (.inl h) hb cs hc
    · exact hT E h1 h2 b (.inr h) hb cs hc
    · obtain ⟨cur, hg⟩ := own_blk H.bs.rs h
      rw [hg] at hc; cases hc; exact h2 rfl
  have hbk7 := (hb7.block bk (lt_of_blk hb6)).trans hb6
  have hbk8 := (K8.block bk (lt_of_blk hbk7) (fun e => by
    have := H.bs.rs.blk_ne H.blk (by decide)
    exact this e)).trans hbk7
  have hsvlt : ∀ b, (Value.slice sa rows.length sc).ownBlock = some b → b < w.heap.size := fun b e => (H.bs.rs.lt b e).2
  have hvs : ∀ b, (Value.slice va (rows.length + 1) vc).ownBlock = some b → (Value.slice sa rows.length sc).ownBlock ≠ some b := fun b e e2 => by
    rcases hvb with h1 | ⟨b', h1, h2⟩
    · exact H.bt.vs b (h1 ▸ e) e2
    · rw [h1] at e; cases e; have := hsvlt _ e2; omega
  have hv8 : Own w8 0 43 1 (.slice va (rows.length + 1) vc) (rows.length + 1) (rows.map KRow.val ++ [.slice a xl c]) := (hv6.below hb7).kept K8 (fun b e h => hvs b e h)
  have hw7 : w.heap.size ≤ w7.heap.size := Nat.le_trans K6.size hb7.size
  have hw7a : (w7.alloc (.cells #[.slice ta xl tc] 43)).heap.size = w7.heap.size + 1 := by simp
  have hsd8 : Own w8 w.heap.size 5 1 (.slice ta xl tc) xl (xs.map (.int .u8)) := by
    refine (ho7.kept K8 (fun b e h => ?_)).mono K6.size
    obtain ⟨cur, hg⟩ := own_blk ho7 e
    obtain ⟨cur2, hg2⟩ := own_blk H.bs.rs h
    have h6 := (K6.block b (hsvlt b h) (fun e => by
      rcases e with e | e
      · subst e; exact H.bs.rs.blk_ne H.blk (by decide) h
      · exact H.bt.vs b e h)).trans hg2
    have h7 := (hb7.block b (lt_of_blk h6)).trans h6
    rw [hg] at h7; cases h7
  subst hxl
  obtain ⟨r1, r2, r3⟩ := br_add (r := ⟨a, c, xs⟩) H.b H.bs H.bt hf hr hrT hl K (hT2 _ (by decide) (by decide)) (hv8.set_other (hv8.blk_ne hbk8 (by decide)) _) (hA.own.set_other (hA.own.blk_ne hbk8 (by decide)) _) (hsd8.set_other (hsd8.blk_ne hbk8 (by decide)) _) hvb
    (hA.blk.imp id (fun ⟨b, e, h⟩ => ⟨b, e, by omega⟩)) (fun b e e2 => by
      rcases hA.blk with h1 | ⟨b', h1, h2⟩
      · exact hvs b e (h1 ▸ e2)
      · rw [h1] at e2; cases e2
        rcases hvb with h3 | ⟨b'', h3, h4⟩
        · have := (H.b.rv.lt _ (h3 ▸ e)).2; omega
        · have := (hv6.lt _ e).2; have := hb7.size; omega)
  have r3' : BT (fun b => T b ∨ (Value.slice a xs.length c).ownBlock = some b ∨ w.heap.size ≤ b) (.slice va (rows.length + 1) vc) (.slice ua (rows.length + 1) uc) (rows ++ [⟨a, c, xs⟩]) (ss ++ [.slice ta xs.length tc]) := r3
  refine ⟨rfl, ⟨rows ++ [⟨a, c, xs⟩], irows, ss ++ [.slice ta xs.length tc], hs, _, _, iv, hv, by simpa using hbk9, .inl H.tb, r1, r2, r3', ?_, H.i.keptT K (hT2 _ (by decide) (by decide)) (hT2 _ (by decide) (by decide)), H.is.keptT K (hT2 _ (by decide) (by decide)) (hT2 _ (by decide) (by decide)), ?_⟩, K.mono (fun b h _ => ?_)⟩
  · intro r hr
    rcases List.mem_append.1 hr with h | h
    · exact H.by_ r h
    · simp at h; subst h; exact hb
  · exact ⟨fun b e => .inl (H.it.tv b e), fun b e => .inl (H.it.ts b e), H.it.vs, fun r hr b e => .inl (H.it.trow r hr b e), fun u hu b e => .inl (H.it.tsaid u hu b e)⟩
  · rcases h with h | h | h
    · exact h ▸ H.tb
    · exact H.bt.tv b h
    · exact H.bt.ts b h
theorem book_bytes (T : Nat → Prop) (bk : Nat) (a : Option Addr) (c : Nat) (xs : List Int) (hb : IsBytes xs) (hl : xs.length ≤ 100000000) (w : World) (h : BK w T bk) (hr : Own w 0 5 1 (.slice a xs.length c) xs.length (xs.map (.int .u8))) (hrT : ∀ b, (Value.slice a xs.length c).ownBlock = some b → ¬ T b) :
    Calls Tryz.prog 42 #[.pointer (some ⟨bk, 0, none⟩), .slice a xs.length c] w (BookP T bk (.slice a xs.length c) w) := by
  obtain ⟨rows, irows, ss, hs, bv, sv, iv, hv, h⟩ := h
  obtain ⟨ba, bc, rfl⟩ := h.b.rv.form
  obtain ⟨sa, sc, rfl⟩ := h.bs.rs.form
  obtain ⟨ia, ic, rfl⟩ := h.i.rv.form
  obtain ⟨ha, hc, rfl⟩ := h.is.rs.form
  obtain ⟨c0, c1, c2, c3, c4, c5⟩ := box6b h.blk
  have hbl := lt_of_blk h.blk
  have hf0 := fun k => frozen_blk (k := k) h.blk
  have hfew := h.b.few
  have H := Aside.mk h
  have HR := Aside.mk hr
  have HRT := Aside.mk hrT
  have HB := Aside.mk hb
  have HTW := Aside.mk (fun (w2 : World) (h2 : Rd w2 1 (.slice a xs.length c) xs.length (xs.map (.int .u8))) => twin_bytes xs ⟨a, c⟩ hl w2 h2)
  dsimp only at HTW
  clear h hr hrT hb
  generalize hxl : xs.length = xl at *
  have HXL := Aside.mk hxl
  clear hxl
  by_cases hf : rows.length < 400
  · go_enter Tryz.func42, Tryz.ntmps42
    go_wp2_with (at_builtin; refine wpList_app2 _ rfl _ _ 37 37 rfl 0 43 (.slice none 0 0) 1 24 Tryz.underlying37 bytesinfo rfl _ rows.length (rows.map KRow.val) rfl (H.out.b.rv.alloc _) _ 1 [.slice a xl c] rfl (src_one Tryz.underlying37 _ _ _ rfl rfl) (by unfold maxLen; omega) (by omega) (Nat.zero_le _) ?_)
    intro v' w5 hA
    obtain ⟨va, vc, rfl⟩ := hA.own.form
    have K5 := Aside.mk (show Kept (fun b => (Value.slice ba rows.length bc).ownBlock = some b) w w5 from (Kept.of_below (below_new w _)).trans ((Kept.of_grown hA.grown).mono (fun b e _ => e.symm)) (fun _ e _ => e))
    have hb5 := (K5.out.block bk hbl (fun e => H.out.b.rv.blk_ne H.out.blk (by decide) e)).trans H.out.blk
    have HA := Aside.mk hA
    clear c0 c1 c2 c3 c4 c5 hf0 hA
    obtain ⟨c0, c1, c2, c3, c4, c5⟩ := box6b hb5
    have hf0 := fun k => frozen_blk (k := k) hb5
    have hbl5 := lt_of_blk hb5
    have hb6 := heap_setCell_at (k := 0) hb5 (.slice va (rows.length + 1) vc)
    simp at hb6
    have HB6 := Aside.mk hb6
    clear hb5 hb6
    go_wp2_with fail
    have K6 := Aside.mk (show Kept (fun b => b = bk ∨ (Value.slice ba rows.length bc).ownBlock = some b) w (w5.setCell ⟨bk, 0, none⟩ (.slice va (rows.length + 1) vc)) from (K5.out.mono (fun b e _ => .inr e)).trans (Kept.setCell _ _ _) (fun b e _ => .inl e))
    have HV6 := Aside.mk (show Own (w5.setCell ⟨bk, 0, none⟩ (.slice va (rows.length + 1) vc)) 0 43 1 (.slice va (rows.length + 1) vc) (rows.length + 1) (rows.map KRow.val ++ [.slice a xl c]) from HA.out.own.set_other (HA.out.own.blk_ne (by
      have := (K5.out.block bk hbl (fun e => H.out.b.rv.blk_ne H.out.blk (by decide) e)).trans H.out.blk
      exact this) (by decide)) _)
    have HVB := Aside.mk (show (Value.slice va (rows.length + 1) vc).ownBlock = (Value.slice ba rows.length bc).ownBlock ∨ ∃ b, (Value.slice va (rows.length + 1) vc).ownBlock = some b ∧ w.heap.size ≤ b from HA.out.blk.imp id (fun ⟨b, e, h⟩ => ⟨b, e, Nat.le_trans (by simp) h⟩))
    clear c0 c1 c2 c3 c4 c5 hf0 hbl5
    generalize w5.setCell ⟨bk, 0, none⟩ (.slice va (rows.length + 1) vc) = w6 at *
    clear HA K5
    obtain ⟨c0, c1, c2, c3, c4, c5⟩ := box6b HB6.out
    have hf0 := fun k => frozen_blk (k := k) HB6.out
    have hT6 : ∀ (E : TypeId), E ≠ 41 → E ≠ 43 → ∀ b, (b = bk ∨ (Value.slice ba rows.length bc).ownBlock = some b) → b < w.heap.size → ∀ cs, w.heap[b]? ≠ some (.cells cs E (0, 0)) := by
      rintro E h1 h2 b (rfl | e) _ cs hc
      · rw [H.out.blk] at hc; cases hc; exact h1 rfl
      · obtain ⟨cur, hg⟩ := own_blk H.out.b.rv e
        rw [hg] at hc; cases hc; exact h2 rfl
    have HR6 := Aside.mk (HR.out.keptT K6.out (hT6 _ (by decide) (by decide)))
    have HS6 := Aside.mk (show Own w6 0 43 1 (.slice sa rows.length sc) rows.length ss from H.out.bs.rs.kept K6.out (fun b e h => by
      rcases h with h | h
      · subst h; exact H.out.bs.rs.blk_ne H.out.blk (by decide) e
      · exact H.out.bt.vs b h e))
    have HT6 := Aside.mk hT6
    clear hT6
    have HTW6 := Aside.mk (HTW.out w6.drew (HR6.out.rd.below (below_drewN w6 _ 1)))
    clear HTW
    go_region_law (first
      | (refine step_call (P := Tryz.prog) w6.drew (by rfl) 80 [.tmp 25] _ (by rfl) [.slice a xl c] (by rfl) (fun _ _ => rfl) HTW6.out ?_; rintro e w7 ⟨ta, tc, rfl, ho, hb7⟩; have HO7 := Aside.mk ho; have HB7 := Aside.mk (undrew hb7); have hblk7 := (HB7.out.block bk (lt_of_blk HB6.out)).trans HB6.out; clear c0 c1 c2 c3 c4 c5 hf0; obtain ⟨c0, c1, c2, c3, c4, c5⟩ := box6b hblk7; have hf0 := fun k => frozen_blk (k := k) hblk7; have HBK7 := Aside.mk hblk7; have hbl7 := lt_of_blk hblk7; clear ho hb7 hblk7; refine ⟨_, rfl, ?_⟩)
      | (refine step_app2 (P := Tryz.prog) (w7.alloc (.cells #[.slice ta xl tc] 43)) (.tmp 24) (.tmp 27) 37 37 (by rfl) (by rfl) 0 43 (.slice none 0 0) 1 24 Tryz.underlying37 bytesinfo (by rfl) (.slice sa rows.length sc) rows.length ss (by rfl) ((HS6.out.below HB7.out).alloc _) (.slice (some ⟨w7.heap.size, 0, none⟩) 1 1) 1 [.slice ta xl tc] (by rfl) (src_one Tryz.underlying37 _ _ _ rfl rfl) (by unfold maxLen; omega) (by omega) (Nat.zero_le _) ?_; intro v8 w8 hA; obtain ⟨ua, uc, rfl⟩ := hA.own.form; have K8 := Aside.mk (show Kept (fun b => (Value.slice sa rows.length sc).ownBlock = some b) w7 w8 from (Kept.of_below (below_new w7 _)).trans ((Kept.of_grown hA.grown).mono (fun b e _ => e.symm)) (fun _ e _ => e)); have hblk8 := (K8.out.block bk hbl7 (fun e => HS6.out.blk_ne HB6.out (by decide) e)).trans HBK7.out; clear c0 c1 c2 c3 c4 c5 hf0; obtain ⟨c0, c1, c2, c3, c4, c5⟩ := box6b hblk8; have hf0 := fun k => frozen_blk (k := k) hblk8; have HBK8 := Aside.mk hblk8; have HA2 := Aside.mk hA; clear hA hblk8))
    all_goals
      have HBK9 := Aside.mk (heap_setCell_at (k := 1) HBK8.out (.slice ua (rows.length + 1) uc))
      go_wp2_with fail
      refine bodyPost_ret (v := .tuple #[]) (by simp [results, Tryz.results42, go_sem]) rfl ?_
      have h9 := book_end H.out HR.out HRT.out HXL.out HB.out hl hf K6.out HT6.out HV6.out HVB.out HB6.out HB7.out HO7.out K8.out HA2.out HBK9.out
      exact h9
  · have hf2 : rows.length = 400 := by omega
    go_enter Tryz.func42, Tryz.ntmps42
    go_wp2_with fail
    refine bodyPost_ret (v := .tuple #[]) (by simp [results, Tryz.results42, go_sem]) rfl ⟨rfl, ?_, Kept.refl _ _⟩
    exact ⟨rows, irows, ss, hs, _, _, _, _, H.out.mono (fun b hb _ => .inl hb)⟩
end Go.Proofs.YtmhjjhaipcgbiaaGreat


namespace Go.Proofs.YtmhjjhaipcgbiaaGreat
open Go.RowKit
set_option linter.unusedVariables false
set_option linter.unusedSimpArgs false
set_option maxRecDepth 100000
set_option maxHeartbeats 1000000
theorem intsinfo : (Tryz.prog.info? 61).map (fun i => (i.zero, i.size, i.bytes)) = some (some (.slice none 0 0), 1, 24) := by kernel_rfl
theorem intinfo3 : (Tryz.prog.info? 3).map (fun i => (i.zero, i.size, i.bytes)) = some (some (.int .i64 0), 1, 8) := by kernel_rfl
theorem ibook_end {T : Nat → Prop} {bk : Nat} {a : Option Addr} {c xl : Nat} {xs : List Int} {w w6 w7 w8 : World} {rows irows : List KRow} {ss hs : List Value} {ba bc sa sc va vc ta tc ua uc iv hv} (H : BKx w T bk irows rows hs ss iv hv (.slice ba rows.length bc) (.slice sa rows.length sc))
    (hr : Own w 0 3 1 (.slice a xl c) xl (xs.map (.int .i64))) (hrT : ∀ b, (Value.slice a xl c).ownBlock = some b → ¬ T b) (hxl : xs.length = xl) (hl : xl ≤ 100000000) (hf : rows.length < 400)
    (K6 : Kept (fun b => b = bk ∨ (Value.slice ba rows.length bc).ownBlock = some b) w w6) (hT : ∀ (E : TypeId), E ≠ 41 → E ≠ 61 → ∀ b, (b = bk ∨ (Value.slice ba rows.length bc).ownBlock = some b) → b < w.heap.size → ∀ cs, w.heap[b]? ≠ some (.cells cs E (0, 0)))
    (hv6 : Own w6 0 61 1 (.slice va (rows.length + 1) vc) (rows.length + 1) (rows.map KRow.val ++ [.slice a xl c]))
    (hvb : (Value.slice va (rows.length + 1) vc).ownBlock = (Value.slice ba rows.length bc).ownBlock ∨ ∃ b, (Value.slice va (rows.length + 1) vc).ownBlock = some b ∧ w.heap.size ≤ b)
    (hb6 : w6.heap[bk]? = some (.cells #[iv, hv, .slice none 0 0, .slice none 0 0, .slice va (rows.length + 1) vc, .slice sa rows.length sc] 41 (0, 0)))
    (hb7 : Below w6.heap.size w6 w7) (ho7 : Own w7 w6.drew.heap.size 3 1 (.slice ta xl tc) xl (xs.map (.int .i64)))
    (K8 : Kept (fun b => (Value.slice sa rows.length sc).ownBlock = some b) w7 w8)
    (hA : AppP (w7.alloc (.cells #[.slice ta xl tc] 61)) 0 61 1 (.slice sa rows.length sc) rows.length ss 1 [.slice ta xl tc] (.slice ua (rows.length + 1) uc) w8)
    (hbk9 : (w8.setCell ⟨bk, 5, none⟩ (.slice ua (rows.length + 1) uc)).heap[bk]? = some (.cells ((#[iv, hv, .slice none 0 0, .slice none 0 0, .slice va (rows.length + 1) vc, .slice sa rows.length sc] : Array Value).setIfInBounds 5 (.slice ua (rows.length + 1) uc)) 41 (0, 0))) :
    BookP T bk (.slice a xl c) w (.returned (.tuple #[])) (w8.setCell ⟨bk, 5, none⟩ (.slice ua (rows.length + 1) uc)) := by
  have hs9 : Kept (fun b => b = bk) w8 (w8.setCell ⟨bk, 5, none⟩ (.slice ua (rows.length + 1) uc)) := Kept.setCell w8 ⟨bk, 5, none⟩ _
  have K : Kept (fun b => b = bk ∨ (Value.slice ba rows.length bc).ownBlock = some b ∨ (Value.slice sa rows.length sc).ownBlock = some b) w (w8.setCell ⟨bk, 5, none⟩ (.slice ua (rows.length + 1) uc)) := by
    refine Kept.trans (S := fun b => b = bk ∨ (Value.slice ba rows.length bc).ownBlock = some b ∨ (Value.slice sa rows.length sc).ownBlock = some b) (Kept.trans (S := fun b => b = bk ∨ (Value.slice ba rows.length bc).ownBlock = some b ∨ (Value.slice sa rows.length sc).ownBlock = some b) (Kept.trans (K6.mono (fun b h _ => h.elim .inl (fun h => .inr (.inl h)))) (Kept.of_below (S := fun _ => False) hb7) (fun _ h _ => h.elim)) K8 (fun b h _ => .inr (.inr h))) hs9 (fun b h _ => .inl h)
  have hT2 : ∀ (E : TypeId), E ≠ 41 → E ≠ 61 → ∀ b, (b = bk ∨ (Value.slice ba rows.length bc).ownBlock = some b ∨ (Value.slice sa rows.length sc).ownBlock = some b) → b < w.heap.size → ∀ cs, w.heap[b]? ≠ some (.cells cs E (0, 0)) := by
    rintro E h1 h2 b (h | h | h) hb cs hc
    · exact hT E h1 h2 b (.inl h) hb cs hc
    · exact hT E h1 h2 b (.inr h) hb cs hc
    · obtain ⟨cur, hg⟩ := own_blk H.is.rs h
      rw [hg] at hc; cases hc; exact h2 rfl
  have hbk7 := (hb7.block bk (lt_of_blk hb6)).trans hb6
  have hbk8 := (K8.block bk (lt_of_blk hbk7) (fun e => by
    have := H.is.rs.blk_ne H.blk (by decide)
    exact this e)).trans hbk7
  have hsvlt : ∀ b, (Value.slice sa rows.length sc).ownBlock = some b → b < w.heap.size := fun b e => (H.is.rs.lt b e).2
  have hvs : ∀ b, (Value.slice va (rows.length + 1) vc).ownBlock = some b → (Value.slice sa rows.length sc).ownBlock ≠ some b := fun b e e2 => by
    rcases hvb with h1 | ⟨b', h1, h2⟩
    · exact H.it.vs b (h1 ▸ e) e2
    · rw [h1] at e; cases e; have := hsvlt _ e2; omega
  have hv8 : Own w8 0 61 1 (.slice va (rows.length + 1) vc) (rows.length + 1) (rows.map KRow.val ++ [.slice a xl c]) := (hv6.below hb7).kept K8 (fun b e h => hvs b e h)
  have hw7 : w.heap.size ≤ w7.heap.size := Nat.le_trans K6.size hb7.size
  have hw7a : (w7.alloc (.cells #[.slice ta xl tc] 61)).heap.size = w7.heap.size + 1 := by simp
  have hsd8 : Own w8 w.heap.size 3 1 (.slice ta xl tc) xl (xs.map (.int .i64)) := by
    refine (ho7.kept K8 (fun b e h => ?_)).mono K6.size
    obtain ⟨cur, hg⟩ := own_blk ho7 e
    obtain ⟨cur2, hg2⟩ := own_blk H.is.rs h
    have h6 := (K6.block b (hsvlt b h) (fun e => by
      rcases e with e | e
      · subst e; exact H.is.rs.blk_ne H.blk (by decide) h
      · exact H.it.vs b e h)).trans hg2
    have h7 := (hb7.block b (lt_of_blk h6)).trans h6
    rw [hg] at h7; cases h7
  subst hxl
  obtain ⟨r1, r2, r3⟩ := br_add (r := ⟨a, c, xs⟩) H.i H.is H.it hf hr hrT hl K (hT2 _ (by decide) (by decide)) (hv8.set_other (hv8.blk_ne hbk8 (by decide)) _) (hA.own.set_other (hA.own.blk_ne hbk8 (by decide)) _) (hsd8.set_other (hsd8.blk_ne hbk8 (by decide)) _) hvb
    (hA.blk.imp id (fun ⟨b, e, h⟩ => ⟨b, e, by omega⟩)) (fun b e e2 => by
      rcases hA.blk with h1 | ⟨b', h1, h2⟩
      · exact hvs b e (h1 ▸ e2)
      · rw [h1] at e2; cases e2
        rcases hvb with h3 | ⟨b'', h3, h4⟩
        · have := (H.i.rv.lt _ (h3 ▸ e)).2; omega
        · have := (hv6.lt _ e).2; have := hb7.size; omega)
  have r3' : BT (fun b => T b ∨ (Value.slice a xs.length c).ownBlock = some b ∨ w.heap.size ≤ b) (.slice va (rows.length + 1) vc) (.slice ua (rows.length + 1) uc) (rows ++ [⟨a, c, xs⟩]) (ss ++ [.slice ta xs.length tc]) := r3
  refine ⟨rfl, ⟨irows, rows ++ [⟨a, c, xs⟩], hs, ss ++ [.slice ta xs.length tc], iv, hv, _, _, by simpa using hbk9, .inl H.tb, H.b.keptT K (hT2 _ (by decide) (by decide)) (hT2 _ (by decide) (by decide)), H.bs.keptT K (hT2 _ (by decide) (by decide)) (hT2 _ (by decide) (by decide)), ?_, H.by_, r1, r2, r3'⟩, K.mono (fun b h _ => ?_)⟩
  · exact ⟨fun b e => .inl (H.bt.tv b e), fun b e => .inl (H.bt.ts b e), H.bt.vs, fun r hr b e => .inl (H.bt.trow r hr b e), fun u hu b e => .inl (H.bt.tsaid u hu b e)⟩
  · rcases h with h | h | h
    · exact h ▸ H.tb
    · exact H.it.tv b h
    · exact H.it.ts b h
theorem book_ints (T : Nat → Prop) (bk : Nat) (a : Option Addr) (c : Nat) (xs : List Int) (hl : xs.length ≤ 100000000) (w : World) (h : BK w T bk) (hr : Own w 0 3 1 (.slice a xs.length c) xs.length (xs.map (.int .i64))) (hrT : ∀ b, (Value.slice a xs.length c).ownBlock = some b → ¬ T b) :
    Calls Tryz.prog 94 #[.pointer (some ⟨bk, 0, none⟩), .slice a xs.length c] w (BookP T bk (.slice a xs.length c) w) := by
  obtain ⟨irows, rows, hs, ss, iv, hv, bv, sv, h⟩ := h
  obtain ⟨ba, bc, rfl⟩ := h.i.rv.form
  obtain ⟨sa, sc, rfl⟩ := h.is.rs.form
  obtain ⟨ia, ic, rfl⟩ := h.b.rv.form
  obtain ⟨ha, hc, rfl⟩ := h.bs.rs.form
  obtain ⟨c0, c1, c2, c3, c4, c5⟩ := box6b h.blk
  have hbl := lt_of_blk h.blk
  have hf0 := fun k => frozen_blk (k := k) h.blk
  have hfew := h.i.few
  have H := Aside.mk h
  have HR := Aside.mk hr
  have HRT := Aside.mk hrT
  clear h hr hrT
  generalize hxl : xs.length = xl at *
  have HXL := Aside.mk hxl
  clear hxl
  by_cases hf : rows.length < 400
  · go_enter Tryz.func94, Tryz.ntmps94
    go_wp2_with (at_builtin; refine wpList_app2 _ rfl _ _ 39 39 rfl 0 61 (.slice none 0 0) 1 24 Tryz.underlying39 intsinfo rfl _ rows.length (rows.map KRow.val) rfl (H.out.i.rv.alloc _) _ 1 [.slice a xl c] rfl (src_one Tryz.underlying39 _ _ _ rfl rfl) (by unfold maxLen; omega) (by omega) (Nat.zero_le _) ?_)
    intro v' w5 hA
    obtain ⟨va, vc, rfl⟩ := hA.own.form
    have K5 := Aside.mk (show Kept (fun b => (Value.slice ba rows.length bc).ownBlock = some b) w w5 from (Kept.of_below (below_new w _)).trans ((Kept.of_grown hA.grown).mono (fun b e _ => e.symm)) (fun _ e _ => e))
    have hb5 := (K5.out.block bk hbl (fun e => H.out.i.rv.blk_ne H.out.blk (by decide) e)).trans H.out.blk
    have HA := Aside.mk hA
    clear c0 c1 c2 c3 c4 c5 hf0 hA
    obtain ⟨c0, c1, c2, c3, c4, c5⟩ := box6b hb5
    have hf0 := fun k => frozen_blk (k := k) hb5
    have hbl5 := lt_of_blk hb5
    have hb6 := heap_setCell_at (k := 4) hb5 (.slice va (rows.length + 1) vc)
    simp at hb6
    have HB6 := Aside.mk hb6
    clear hb5 hb6
    go_wp2_with fail
    have K6 := Aside.mk (show Kept (fun b => b = bk ∨ (Value.slice ba rows.length bc).ownBlock = some b) w (w5.setCell ⟨bk, 4, none⟩ (.slice va (rows.length + 1) vc)) from (K5.out.mono (fun b e _ => .inr e)).trans (Kept.setCell _ _ _) (fun b e _ => .inl e))
    have HV6 := Aside.mk (show Own (w5.setCell ⟨bk, 4, none⟩ (.slice va (rows.length + 1) vc)) 0 61 1 (.slice va (rows.length + 1) vc) (rows.length + 1) (rows.map KRow.val ++ [.slice a xl c]) from HA.out.own.set_other (HA.out.own.blk_ne (by
      have := (K5.out.block bk hbl (fun e => H.out.i.rv.blk_ne H.out.blk (by decide) e)).trans H.out.blk
      exact this) (by decide)) _)
    have HVB := Aside.mk (show (Value.slice va (rows.length + 1) vc).ownBlock = (Value.slice ba rows.length bc).ownBlock ∨ ∃ b, (Value.slice va (rows.length + 1) vc).ownBlock = some b ∧ w.heap.size ≤ b from HA.out.blk.imp id (fun ⟨b, e, h⟩ => ⟨b, e, Nat.le_trans (by simp) h⟩))
    clear c0 c1 c2 c3 c4 c5 hf0 hbl5
    generalize w5.setCell ⟨bk, 4, none⟩ (.slice va (rows.length + 1) vc) = w6 at *
    clear HA K5
    obtain ⟨c0, c1, c2, c3, c4, c5⟩ := box6b HB6.out
    have hf0 := fun k => frozen_blk (k := k) HB6.out
    have hT6 : ∀ (E : TypeId), E ≠ 41 → E ≠ 61 → ∀ b, (b = bk ∨ (Value.slice ba rows.length bc).ownBlock = some b) → b < w.heap.size → ∀ cs, w.heap[b]? ≠ some (.cells cs E (0, 0)) := by
      rintro E h1 h2 b (rfl | e) _ cs hc
      · rw [H.out.blk] at hc; cases hc; exact h1 rfl
      · obtain ⟨cur, hg⟩ := own_blk H.out.i.rv e
        rw [hg] at hc; cases hc; exact h2 rfl
    have HR6 := Aside.mk (HR.out.keptT K6.out (hT6 _ (by decide) (by decide)))
    have HS6 := Aside.mk (show Own w6 0 61 1 (.slice sa rows.length sc) rows.length ss from H.out.is.rs.kept K6.out (fun b e h => by
      rcases h with h | h
      · subst h; exact H.out.is.rs.blk_ne H.out.blk (by decide) e
      · exact H.out.it.vs b h e))
    have HT6 := Aside.mk hT6
    clear hT6
    have HSR := Aside.mk ((HR6.out.rd.below (below_drewN w6 _ 1)).src (P := Tryz.prog) Tryz.underlying61 (one_map (fun x : Int => Value.int .i64 x) (fun _ => rfl) xs))
    go_region_law (first
      | (refine step_app2 (P := Tryz.prog) w6.drew (.tmp 26) (.tmp 27) 61 61 (by rfl) (by rfl) w6.drew.heap.size 3 (.int .i64 0) 1 8 Tryz.underlying61 intinfo3 (by rfl) (.slice none 0 0) 0 [] (by rfl) (Own.nil _ _ _ _) (.slice a xl c) xl (xs.map (.int .i64)) (by rfl) HSR.out (by unfold maxLen; omega) (by omega) (Nat.le_refl _) ?_; intro v7 w7 hA; obtain ⟨ta, tc, rfl⟩ := hA.own.form; have HO7 := Aside.mk (show Own w7 w6.drew.heap.size 3 1 (.slice ta xl tc) xl (xs.map (.int .i64)) from by simpa using hA.own); have HB7 := Aside.mk (undrew (below_of_grown hA.grown (Nat.le_refl _) (fun k e => by cases e))); simp only [Nat.zero_add]; have hblk7 := (HB7.out.block bk (lt_of_blk HB6.out)).trans HB6.out; clear c0 c1 c2 c3 c4 c5 hf0 hA; obtain ⟨c0, c1, c2, c3, c4, c5⟩ := box6b hblk7; have hf0 := fun k => frozen_blk (k := k) hblk7; have HBK7 := Aside.mk hblk7; have hbl7 := lt_of_blk hblk7; clear hblk7)
      | (refine step_app2 (P := Tryz.prog) (w7.alloc (.cells #[.slice ta xl tc] 61)) (.tmp 25) (.tmp 29) 39 39 (by rfl) (by rfl) 0 61 (.slice none 0 0) 1 24 Tryz.underlying39 intsinfo (by rfl) (.slice sa rows.length sc) rows.length ss (by rfl) ((HS6.out.below HB7.out).alloc _) (.slice (some ⟨w7.heap.size, 0, none⟩) 1 1) 1 [.slice ta xl tc] (by rfl) (src_one Tryz.underlying39 _ _ _ rfl rfl) (by unfold maxLen; omega) (by omega) (Nat.zero_le _) ?_; intro v8 w8 hA; obtain ⟨ua, uc, rfl⟩ := hA.own.form; have K8 := Aside.mk (show Kept (fun b => (Value.slice sa rows.length sc).ownBlock = some b) w7 w8 from (Kept.of_below (below_new w7 _)).trans ((Kept.of_grown hA.grown).mono (fun b e _ => e.symm)) (fun _ e _ => e)); have hblk8 := (K8.out.block bk hbl7 (fun e => HS6.out.blk_ne HB6.out (by decide) e)).trans HBK7.out; clear c0 c1 c2 c3 c4 c5 hf0; obtain ⟨c0, c1, c2, c3, c4, c5⟩ := box6b hblk8; have hf0 := fun k => frozen_blk (k := k) hblk8; have HBK8 := Aside.mk hblk8; have HA2 := Aside.mk hA; clear hA hblk8))
    all_goals
      have HBK9 := Aside.mk (heap_setCell_at (k := 5) HBK8.out (.slice ua (rows.length + 1) uc))
      go_wp2_with fail
      refine bodyPost_ret (v := .tuple #[]) (by simp [results, Tryz.results94, go_sem]) rfl ?_
      have h9 := ibook_end H.out HR.out HRT.out HXL.out hl hf K6.out HT6.out HV6.out HVB.out HB6.out HB7.out HO7.out K8.out HA2.out HBK9.out
      exact h9
  · have hf2 : rows.length = 400 := by omega
    go_enter Tryz.func94, Tryz.ntmps94
    go_wp2_with fail
    refine bodyPost_ret (v := .tuple #[]) (by simp [results, Tryz.results94, go_sem]) rfl ⟨rfl, ?_, Kept.refl _ _⟩
    exact ⟨irows, rows, hs, ss, _, _, _, _, H.out.mono (fun b hb _ => .inl hb)⟩
end Go.Proofs.YtmhjjhaipcgbiaaGreat


namespace Go.Proofs.YtmhjjhaipcgbiaaGreat
open Go.RowKit
set_option linter.unusedVariables false
set_option linter.unusedSimpArgs false
set_option maxRecDepth 100000
set_option maxHeartbeats 1000000
def KS (T : Nat → Prop) (l : List Value) (n b : Nat) : Prop := T b ∨ (∃ v ∈ l, v.ownBlock = some b) ∨ n ≤ b
theorem ks_next {T : Nat → Prop} {l : List Value} {bk : Nat} {v : Value} {w1 wr w' : World} {e : Ending} (h : BookP (KS T l w1.heap.size) bk v wr e w') (hk : Kept (KS T l w1.heap.size) w1 wr) : e = .returned (.tuple #[]) ∧ BK w' (KS T (l ++ [v]) w1.heap.size) bk ∧ Kept (KS T (l ++ [v]) w1.heap.size) w1 w' := by
  have hm : ∀ b, KS T l w1.heap.size b → KS T (l ++ [v]) w1.heap.size b := fun b h => h.imp id (fun h => h.imp (fun ⟨u, hu, e⟩ => ⟨u, List.mem_append_left _ hu, e⟩) id)
  refine ⟨h.1, h.2.1.mono (fun b e _ => ?_), (hk.trans h.2.2 (fun b e _ => e)).mono (fun b e _ => hm b e)⟩
  rcases e with h | h | h
  · exact hm b h
  · exact .inr (.inl ⟨v, by simp, h⟩)
  · exact .inr (.inr (Nat.le_trans hk.size h))
theorem ks_row {T : Nat → Prop} {l : List Value} {base n : Nat} {E : TypeId} {v : Value} {xs : List Value} {w1 wr : World} (ho : Own w1 base E 1 v n xs) (hT : ∀ b, T b → b < base) (hl : ∀ u ∈ l, ∀ b, v.ownBlock = some b → u.ownBlock ≠ some b) (hk : Kept (KS T l w1.heap.size) w1 wr) :
    Own wr 0 E 1 v n xs ∧ ∀ b, v.ownBlock = some b → ¬ KS T l w1.heap.size b := by
  have h : ∀ b, v.ownBlock = some b → ¬ KS T l w1.heap.size b := fun b e h => by
    rcases h with h | ⟨u, hu, h⟩ | h
    · have := hT b h; have := (ho.lt b e).1; omega
    · exact hl u hu b e h
    · have := (ho.lt b e).2; omega
  exact ⟨(ho.kept hk h).mono (Nat.zero_le _), h⟩
theorem own_types {w : World} {b1 b2 n1 n2 : Nat} {E1 E2 : TypeId} {v1 v2 : Value} {xs1 xs2 : List Value} (h1 : Own w b1 E1 1 v1 n1 xs1) (h2 : Own w b2 E2 1 v2 n2 xs2) (hne : E1 ≠ E2) (b : Nat) (e : v1.ownBlock = some b) : v2.ownBlock ≠ some b := by
  obtain ⟨cur, q⟩ := own_blk h1 e
  exact h2.blk_ne q hne
theorem own_same0 {a : Option Addr} {x y b : Nat} (e : (Value.slice a x y).ownBlock = some b) : (Value.slice a 0 0).ownBlock = some b := by cases a <;> exact e
def front3 (c : Col) (B D E : SL) : List Value := [.slice D.a c.data.length D.c, .slice B.a c.bits.length B.c, .slice E.a c.ends.length E.c]
theorem keep_rows {T : Nat → Prop} {c : Col} {B D E X : SL} {vals : List Value} {base : Nat} {w1 : World} (hT : ∀ b, T b → b < base) (hc : OwnC w1 base c B D E X vals) :
    (∀ wr, Kept (KS T [] w1.heap.size) w1 wr → Own wr 0 5 1 (.slice D.a c.data.length D.c) c.data.length (c.data.map (.int .u8)) ∧ ∀ b, (Value.slice D.a c.data.length D.c).ownBlock = some b → ¬ KS T [] w1.heap.size b) ∧
    (∀ wr, Kept (KS T [.slice D.a c.data.length D.c] w1.heap.size) w1 wr → Own wr 0 5 1 (.slice B.a c.bits.length B.c) c.bits.length (c.bits.map (.int .u8)) ∧ ∀ b, (Value.slice B.a c.bits.length B.c).ownBlock = some b → ¬ KS T [.slice D.a c.data.length D.c] w1.heap.size b) ∧
    (∀ wr, Kept (KS T [.slice D.a c.data.length D.c, .slice B.a c.bits.length B.c] w1.heap.size) w1 wr → Own wr 0 3 1 (.slice E.a c.ends.length E.c) c.ends.length (c.ends.map (.int .i64)) ∧ ∀ b, (Value.slice E.a c.ends.length E.c).ownBlock = some b → ¬ KS T [.slice D.a c.data.length D.c, .slice B.a c.bits.length B.c] w1.heap.size b) ∧
    (∀ wr i, Kept (KS T (front3 c B D E ++ vals.take i) w1.heap.size) w1 wr → Own wr 0 43 1 (.slice X.a c.words.length X.c) c.words.length vals) ∧
    (∀ wr i t, c.words[i]? = some t → Kept (KS T (front3 c B D E ++ vals.take i) w1.heap.size) w1 wr → ∃ a cp, vals[i]? = some (.slice a t.length cp) ∧ Own wr 0 5 1 (.slice a t.length cp) t.length (t.map (.int .u8)) ∧ ∀ b, (Value.slice a t.length cp).ownBlock = some b → ¬ KS T (front3 c B D E ++ vals.take i) w1.heap.size b) := by
  have hv : ∀ v ∈ vals, ∃ n xs, Own w1 base 5 1 v n xs := fun v hv => by
    obtain ⟨j, hj, rfl⟩ := List.mem_iff_getElem.1 hv
    have hj2 : j < c.words.length := by have := hc.len; omega
    obtain ⟨a, cp, q1, q2⟩ := hc.each j _ hj2 (List.getElem?_eq_getElem hj2)
    rw [List.getElem?_eq_getElem hj] at q1
    rw [Option.some.inj q1]
    exact ⟨_, _, q2⟩
  refine ⟨fun wr hk => ks_row hc.data hT (by simp) hk, fun wr hk => ks_row hc.bits hT (fun u hu b e => ?_) hk, fun wr hk => ks_row hc.ends hT (fun u hu b e => ?_) hk, fun wr i hk => (ks_row hc.words hT (fun u hu b e => ?_) hk).1, fun wr i t ht hk => ?_⟩
  · simp at hu; subst hu
    exact fun e2 => hc.sep.bd b (own_same0 e) (own_same0 e2)
  · simp at hu
    rcases hu with rfl | rfl
    · exact own_types hc.ends hc.data (by decide) b e
    · exact own_types hc.ends hc.bits (by decide) b e
  · rcases List.mem_append.1 hu with hu | hu
    · simp [front3] at hu
      rcases hu with rfl | rfl | rfl
      · exact own_types hc.words hc.data (by decide) b e
      · exact own_types hc.words hc.bits (by decide) b e
      · exact own_types hc.words hc.ends (by decide) b e
    · obtain ⟨n, xs, q⟩ := hv u (List.mem_of_mem_take hu)
      exact own_types hc.words q (by decide) b e
  · have hi := (List.getElem?_eq_some_iff.1 ht).1
    obtain ⟨a, cp, q1, q2⟩ := hc.each i t hi ht
    have hm : Value.slice a t.length cp ∈ vals := List.mem_of_getElem? q1
    have h := ks_row (l := front3 c B D E ++ vals.take i) q2 hT (fun u hu b e => ?_) hk
    · exact ⟨a, cp, q1, h.1, h.2⟩
    · rcases List.mem_append.1 hu with hu | hu
      · simp [front3] at hu
        rcases hu with rfl | rfl | rfl
        · exact fun e2 => (hc.sep.bw _ hm b e).2 (own_same0 e2)
        · exact fun e2 => (hc.sep.bw _ hm b e).1 (own_same0 e2)
        · exact own_types q2 hc.ends (by decide) b e
      · obtain ⟨j, hj, rfl⟩ := List.mem_iff_getElem.1 hu
        simp at hj
        rw [List.getElem_take]
        exact fun e2 => hc.sep.ww j i _ _ (by omega) (by have := hc.len; omega) (List.getElem?_eq_getElem (by omega)) q1 b e2 e
def RowsC (c : Col) (B D E : SL) (vals : List Value) (b : Nat) : Prop := ∃ v ∈ front3 c B D E ++ vals, v.ownBlock = some b
theorem rowsC_blk {w : World} {base : Nat} {c : Col} {B D E X : SL} {vals : List Value} (hc : OwnC w base c B D E X vals) {b : Nat} (h : RowsC c B D E vals b) : base ≤ b ∧ b < w.heap.size ∧ ∃ cur F, w.heap[b]? = some (.cells cur F (0, 0)) ∧ (F = 5 ∨ F = 3) := by
  obtain ⟨v, hv, e⟩ := h
  rcases List.mem_append.1 hv with hv | hv
  · simp [front3] at hv
    rcases hv with rfl | rfl | rfl
    · obtain ⟨cur, q⟩ := own_blk hc.data e
      exact ⟨(hc.data.lt b e).1, (hc.data.lt b e).2, cur, _, q, .inl rfl⟩
    · obtain ⟨cur, q⟩ := own_blk hc.bits e
      exact ⟨(hc.bits.lt b e).1, (hc.bits.lt b e).2, cur, _, q, .inl rfl⟩
    · obtain ⟨cur, q⟩ := own_blk hc.ends e
      exact ⟨(hc.ends.lt b e).1, (hc.ends.lt b e).2, cur, _, q, .inr rfl⟩
  · obtain ⟨j, hj, rfl⟩ := List.mem_iff_getElem.1 hv
    have hj2 : j < c.words.length := by have := hc.len; omega
    obtain ⟨a, cp, q1, q2⟩ := hc.each j _ hj2 (List.getElem?_eq_getElem hj2)
    rw [List.getElem?_eq_getElem hj] at q1
    rw [Option.some.inj q1] at e
    obtain ⟨cur, q⟩ := own_blk q2 e
    exact ⟨(q2.lt b e).1, (q2.lt b e).2, cur, _, q, .inl rfl⟩
theorem keep_colR (T : Nat → Prop) (bk : Nat) (c : Col) (B D E X : SL) (vals : List Value) (base : Nat) (hT : ∀ b, T b → b < base) (hd : IsBytes c.data) (hb : IsBytes c.bits) (hw : ∀ t ∈ c.words, IsBytes t) (hdl : c.data.length ≤ 100000000) (hbl : c.bits.length ≤ 100000000) (hel : c.ends.length ≤ 100000000) (hwl : ∀ t ∈ c.words, t.length ≤ 100000000) (hwn : c.words.length ≤ 100000000)
    (w : World) (hbase : base ≤ w.heap.size) (h : BK w T bk) (hc : OwnC w base c B D E X vals) :
    Calls Tryz.prog 35 #[.pointer (some ⟨bk, 0, none⟩), colV c B D E X] w (fun e w' => e = .returned (.tuple #[]) ∧ BK w' (fun b => T b ∨ RowsC c B D E vals b ∨ w.heap.size ≤ b) bk ∧ Kept (fun b => T b ∨ RowsC c B D E vals b ∨ w.heap.size ≤ b) w w') := by
  obtain ⟨xa, xc⟩ := X
  obtain ⟨w1, ew1⟩ : ∃ x, x = w.alloc (.cells #[.int .i64 c.k, .int .i64 c.s, .int .i64 c.n, .int .i64 c.m, .slice B.a c.bits.length B.c, .slice D.a c.data.length D.c, .slice E.a c.ends.length E.c, .slice xa c.words.length xc] 63) := ⟨_, rfl⟩
  have hsz : w1.heap.size = w.heap.size + 1 := by rw [ew1]; simp
  have hc1 : OwnC w1 base c B D E ⟨xa, xc⟩ vals := by rw [ew1]; exact hc.below (below_new w _)
  have hbk1 : w1.heap[w.heap.size]? = some (.cells #[.int .i64 c.k, .int .i64 c.s, .int .i64 c.n, .int .i64 c.m, .slice B.a c.bits.length B.c, .slice D.a c.data.length D.c, .slice E.a c.ends.length E.c, .slice xa c.words.length xc] 63 (0, 0)) := by rw [ew1]; exact heap_alloc_new w _
  have hb1 : Below w.heap.size w w1 := by rw [ew1]; exact below_new w _
  obtain ⟨r1, r2, r3, r4, r5⟩ := keep_rows hT hc1
  have hvl : ∀ v ∈ front3 c B D E ++ vals, ∀ b, v.ownBlock = some b → base ≤ b ∧ b < w.heap.size := fun v hv b e => by
    rcases List.mem_append.1 hv with hv | hv
    · simp [front3] at hv
      rcases hv with rfl | rfl | rfl
      · exact hc.data.lt b e
      · exact hc.bits.lt b e
      · exact hc.ends.lt b e
    · obtain ⟨j, hj, rfl⟩ := List.mem_iff_getElem.1 hv
      have hj2 : j < c.words.length := by have := hc.len; omega
      obtain ⟨a, cp, q1, q2⟩ := hc.each j _ hj2 (List.getElem?_eq_getElem hj2)
      rw [List.getElem?_eq_getElem hj] at q1
      rw [Option.some.inj q1] at e
      exact q2.lt b e
  have HBX := Aside.mk (show ∀ {l : List Value} {wr : World}, (∀ v ∈ l, v ∈ front3 c B D E ++ vals) → Kept (KS T l w1.heap.size) w1 wr → wr.heap[w.heap.size]? = some (.cells #[.int .i64 c.k, .int .i64 c.s, .int .i64 c.n, .int .i64 c.m, .slice B.a c.bits.length B.c, .slice D.a c.data.length D.c, .slice E.a c.ends.length E.c, .slice xa c.words.length xc] 63 (0, 0)) from fun {l wr} hl hk => (hk.block _ (by omega) (fun h => by
    rcases h with h | ⟨u, hu, h⟩ | h
    · have := hT _ h; omega
    · have := (hvl u (hl u hu) _ h).2; omega
    · omega)).trans hbk1)
  have HEND := Aside.mk (show ∀ {wr : World}, BK wr (KS T (front3 c B D E ++ vals.take c.words.length) w1.heap.size) bk ∧ Kept (KS T (front3 c B D E ++ vals.take c.words.length) w1.heap.size) w1 wr → BK wr (fun b => T b ∨ RowsC c B D E vals b ∨ w.heap.size ≤ b) bk ∧ Kept (fun b => T b ∨ RowsC c B D E vals b ∨ w.heap.size ≤ b) w wr from fun {wr} h => by
    have hm : ∀ b, KS T (front3 c B D E ++ vals.take c.words.length) w1.heap.size b → T b ∨ RowsC c B D E vals b ∨ w.heap.size ≤ b := fun b h => by
      rcases h with h | ⟨u, hu, h⟩ | h
      · exact .inl h
      · refine .inr (.inl ⟨u, ?_, h⟩)
        rcases List.mem_append.1 hu with hu | hu
        · exact List.mem_append_left _ hu
        · exact List.mem_append_right _ (List.mem_of_mem_take hu)
      · exact .inr (.inr (by omega))
    exact ⟨h.1.mono (fun b e _ => hm b e), (Kept.of_below hb1).trans h.2 (fun b e _ => hm b e)⟩)
  have HK0 := Aside.mk (And.intro (show BK w1 (KS T [] w1.heap.size) bk from by rw [ew1]; exact (h.below (below_new w _)).mono (fun b e _ => .inl e)) (Kept.refl (S := KS T [] w1.heap.size) w1))
  have R1 := Aside.mk r1
  have R2 := Aside.mk r2
  have R3 := Aside.mk r3
  have R4 := Aside.mk r4
  have R5 := Aside.mk r5
  have HLEN := Aside.mk hc.len
  obtain ⟨d0, d1, d2, d3, d4, d5, d6, d7⟩ := box8 hbk1
  have HBK1 := Aside.mk hbk1
  clear r1 r2 r3 r4 r5 hvl h hc hc1 hT hbk1 hb1
  dsimp only [colV]
  go_enter Tryz.func35, Tryz.ntmps35
  go_wp2_with fail
  rw [← ew1]
  refine (book_bytes (KS T [] w1.heap.size) bk D.a D.c c.data hd hdl w1 HK0.out.1 (R1.out w1 HK0.out.2).1 (R1.out w1 HK0.out.2).2).mono ?_
  intro e w2 hp
  obtain ⟨rfl, hp2⟩ := ks_next hp HK0.out.2
  have HK2 := Aside.mk hp2
  clear d0 d1 d2 d3 d4 d5 d6 d7 hp hp2
  obtain ⟨d0, d1, d2, d3, d4, d5, d6, d7⟩ := box8 (HBX.out (l := [.slice D.a c.data.length D.c]) (by simp [front3]) HK2.out.2)
  go_wp2_with fail
  refine (book_bytes (KS T [.slice D.a c.data.length D.c] w1.heap.size) bk B.a B.c c.bits hb hbl w2 HK2.out.1 (R2.out w2 HK2.out.2).1 (R2.out w2 HK2.out.2).2).mono ?_
  intro e w3 hp
  obtain ⟨rfl, hp2⟩ := ks_next hp HK2.out.2
  have HK3 := Aside.mk hp2
  clear d0 d1 d2 d3 d4 d5 d6 d7 hp hp2
  obtain ⟨d0, d1, d2, d3, d4, d5, d6, d7⟩ := box8 (HBX.out (l := [.slice D.a c.data.length D.c, .slice B.a c.bits.length B.c]) (by simp [front3]) HK3.out.2)
  go_wp2_with fail
  refine (book_ints (KS T [.slice D.a c.data.length D.c, .slice B.a c.bits.length B.c] w1.heap.size) bk E.a E.c c.ends hel w3 HK3.out.1 (R3.out w3 HK3.out.2).1 (R3.out w3 HK3.out.2).2).mono ?_
  intro e w4 hp
  obtain ⟨rfl, hp2⟩ := ks_next hp HK3.out.2
  have HK4 := Aside.mk hp2
  clear d0 d1 d2 d3 d4 d5 d6 d7 hp hp2
  go_wp2_with fail
  go_loopw [4] (fun i0 wr => ∃ i : Nat, i ≤ c.words.length ∧ i0 = .int .i64 (i : Int) ∧ Aside (BK wr (KS T (front3 c B D E ++ vals.take i) w1.heap.size) bk ∧ Kept (KS T (front3 c B D E ++ vals.take i) w1.heap.size) w1 wr)) (fun i0 _ => c.words.length - (intOf i0).toNat)
  case atStart => exact ⟨0, by omega, rfl, ⟨by simpa [front3] using HK4.out⟩⟩
  case round =>
    obtain ⟨i, hi, rfl, HP⟩ := hrel
    obtain ⟨d0, d1, d2, d3, d4, d5, d6, d7⟩ := box8 (HBX.out (l := front3 c B D E ++ vals.take i) (fun v hv => by
      rcases List.mem_append.1 hv with hv | hv
      · exact List.mem_append_left _ hv
      · exact List.mem_append_right _ (List.mem_of_mem_take hv)) HP.out.2)
    by_cases hlt : i < c.words.length
    · obtain ⟨a, cp, q1, q2, q3⟩ := R5.out wr i _ (List.getElem?_eq_getElem hlt) HP.out.2
      have hbw := hw _ (List.getElem_mem hlt)
      have hbl := hwl _ (List.getElem_mem hlt)
      have HV := Aside.mk q1
      obtain ⟨g, o, cap, e2, hx1, hx2, hx3, hx4, q4, _⟩ := (R4.out wr i HP.out.2).some_ (by omega)
      have d8 := q4 i _ q1
      simp only [Value.slice.injEq, true_and] at e2
      obtain ⟨rfl, rfl⟩ := e2
      have HQ := Aside.mk (And.intro hbw (And.intro hbl (And.intro q2 q3)))
      clear q1 q2 q3 q4 hbw hbl
      generalize c.words[i] = t at *
      obtain ⟨n, hn⟩ : ∃ n, n = t.length := ⟨_, rfl⟩
      have HN := Aside.mk hn
      rw [← hn] at d8
      clear hn
      go_wp2_with fail
      rw [HN.out]
      refine (book_bytes (KS T (front3 c B D E ++ vals.take i) w1.heap.size) bk a cp t HQ.out.1 HQ.out.2.1 wr HP.out.1 HQ.out.2.2.1 HQ.out.2.2.2).mono ?_
      intro e w5 hp
      obtain ⟨rfl, hp2⟩ := ks_next hp HP.out.2
      have HP5 := Aside.mk hp2
      clear hp hp2
      go_wp2_with fail
      refine ⟨⟨i + 1, by omega, by simp, ⟨?_⟩⟩, by simp [intOf]; omega⟩
      have h5 := HP5.out
      rw [List.append_assoc] at h5
      rw [List.take_add_one, HV.out]
      exact h5
    · obtain rfl : i = c.words.length := by omega
      go_wp2_with fail
      refine bodyPost_end (v := .tuple #[]) (by simp [results, Tryz.results35, go_sem]) rfl ?_
      exact ⟨rfl, HEND.out HP.out⟩
end Go.Proofs.YtmhjjhaipcgbiaaGreat
