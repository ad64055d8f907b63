/- Texts of this claim, one behind the other: Cut, Lay. -/
import Derived.Test.YtmhjjhaipcgbiaaBakP35
import Derived.Test.YtmhjjhaipcgbiaaBakP34

namespace Go.Proofs.Ytmhjjhaipcgbiaa
open Go.RowKit Go.Shelf
set_option linter.unusedVariables false
set_option linter.unusedSimpArgs false
set_option maxRecDepth 100000
set_option maxHeartbeats 4000000
attribute [local go_sem] Oper.semAt_some
def pieceC (c : Col) (f i : Nat) : List V := (valsC c i).drop f
structure CutI (c : Col) (B D E X : SL) (f t : Nat) (bl Bs b0 n0 : Nat) (w w1 : World) (i : Nat) (W : World) : Prop where
  le : i ≤ t
  bs : BS W (fun b => n0 ≤ b ∧ b < b0 ∨ w1.heap.size + 2 ≤ b) bl c.k c.s (CS.app c.k CS.zero (pieceC c f i))
  bel : Below w.heap.size w W
  bf : W.heap[w.heap.size + 1]? = some (.cells #[.int .i64 (f : Int)] 3 (0, 0))
  bt : W.heap[w.heap.size + 1 + 1]? = some (.cells #[.int .i64 (t : Int)] 3 (0, 0))
  bz : W.heap[w.heap.size + 1 + 1 + 1]? = some (.cells #[.int .i64 0, .int .i64 0, .int .i64 0, .int .i64 0, .slice none 0 0, .slice none 0 0, .slice none 0 0, .slice none 0 0] 43 (0, 0))
  b0 : W.heap[b0]? = some (.cells #[.pointer (some ⟨bl, 0, none⟩)] 56 (0, 0))
  bx : W.heap[Bs]? = some (.cells #[.int .i64 c.k, .int .i64 c.s, .int .i64 c.n, .int .i64 c.m, .slice B.a c.bits.length B.c, .slice D.a c.data.length D.c, .slice E.a c.ends.length E.c, .slice X.a c.words.length X.c] 43 (0, 0))
structure CutL (n0 b0 Bs : Nat) (w w1 : World) : Prop where
  h0 : w.heap.size + 4 ≤ n0
  h1 : n0 ≤ b0
  h2 : b0 < Bs
  h3 : Bs < w1.heap.size
theorem CutI.moved {c : Col} {B D E X : SL} {f t bl Bs b0 n0 : Nat} {w w1 A A' : World} {i : Nat} (hl : CutL n0 b0 Bs w w1) (h : CutI c B D E X f t bl Bs b0 n0 w w1 i A) (hk : Kept (fun k => k = w1.heap.size ∨ k = w1.heap.size + 1) A A') : CutI c B D E X f t bl Bs b0 n0 w w1 i A' := by
  obtain ⟨l0, l1, l2, l3⟩ := hl
  exact ⟨h.le, h.bs.kept hk (fun b hb _ e => by omega), h.bel.trans (hk.to_below h.bel.size (fun b e => by omega)), (hk.block _ (lt_of_blk h.bf) (by omega)).trans h.bf, (hk.block _ (lt_of_blk h.bt) (by omega)).trans h.bt, (hk.block _ (lt_of_blk h.bz) (by omega)).trans h.bz,
    (hk.block _ (lt_of_blk h.b0) (by omega)).trans h.b0, (hk.block _ (lt_of_blk h.bx) (by omega)).trans h.bx⟩
theorem below_four (w : World) (o1 o2 o3 o4 : Obj) : Below w.heap.size w ((((w.alloc o1).alloc o2).alloc o3).alloc o4) ∧ ((((w.alloc o1).alloc o2).alloc o3).alloc o4).heap.size = w.heap.size + 4 ∧
    ((((w.alloc o1).alloc o2).alloc o3).alloc o4).heap[w.heap.size]? = some o1 ∧ ((((w.alloc o1).alloc o2).alloc o3).alloc o4).heap[w.heap.size + 1]? = some o2 ∧ ((((w.alloc o1).alloc o2).alloc o3).alloc o4).heap[w.heap.size + 1 + 1]? = some o3 ∧ ((((w.alloc o1).alloc o2).alloc o3).alloc o4).heap[w.heap.size + 1 + 1 + 1]? = some o4 := by
  obtain ⟨h1, h2, h3, h4, h5⟩ := below_three w o1 o2 o3
  refine ⟨h1.alloc (by omega) _, by rw [World.size_alloc, h2], ?_, ?_, ?_, ?_⟩
  · exact (Below.heap_alloc _ _ _ (by omega)).trans h3
  · exact (Below.heap_alloc _ _ _ (by omega)).trans h4
  · exact (Below.heap_alloc _ _ _ (by omega)).trans h5
  · have := World.alloc_heap_new (((w.alloc o1).alloc o2).alloc o3) o4
    rwa [h2] at this
end Go.Proofs.Ytmhjjhaipcgbiaa


namespace Go.Proofs.Ytmhjjhaipcgbiaa
open Go.RowKit
set_option linter.unusedVariables false
set_option linter.unusedSimpArgs false
set_option maxRecDepth 100000
set_option maxHeartbeats 4000000
def LayIn (k s : Int) (N : Nat) (l : List V) (i : Nat) (nv : Value) (w wr : World) : Prop := ∃ dv ev wv vals, LX w wr k s N (CS.of k (l.take i)) nv dv ev wv vals
def nrm (v : V) : V := bif v.null then ⟨true, 0, []⟩ else v
theorem nrm_text (v : V) : (nrm v).text.length ≤ v.text.length := by cases v with | mk n b t => cases n <;> simp [nrm]
theorem nrm_wf {v : V} (h : IsBytes v.text ∧ v.bits < 18446744073709551616) : IsBytes (nrm v).text ∧ (nrm v).bits < 18446744073709551616 := by
  cases v with
  | mk n b t =>
    cases n
    · exact h
    · exact ⟨fun x hx => (by cases hx), by simp [nrm]⟩
theorem nrm_id {k s : Int} {v : V} (h : vOK k s v) : nrm v = v := by
  cases v with
  | mk n b t =>
    cases n
    · rfl
    · obtain ⟨h1, h2⟩ := h.2.2.1 rfl
      simp only at h1 h2
      subst h1 h2
      rfl
theorem nrm_map {k s : Int} {l : List V} (h : ∀ v ∈ l, vOK k s v) : l.map nrm = l := by
  conv => rhs; rw [← List.map_id l]
  exact List.map_congr_left (fun v hv => nrm_id (h v hv))
theorem nrm_few {l : List V} (h : Few l) : Few (l.map nrm) := ⟨by simpa using h.1, fun v hv => by
  obtain ⟨u, hu, rfl⟩ := List.mem_map.1 hv
  exact Nat.le_trans (nrm_text u) (h.2 u hu)⟩
theorem room_wf {k : Int} {l : List V} (hf : Few l) (hl : ∀ v ∈ l, IsBytes v.text ∧ v.bits < 18446744073709551616) {i : Nat} (hi : i < l.length) : Room (CS.of k (l.take i)) l[i] := by
  have hm := List.getElem_mem hi
  obtain ⟨h1, h2, h3, h4⟩ := of_sizes k (l.take i) (fun v hv => hf.2 v (List.mem_of_mem_take hv))
  have h5 := hf.2 _ hm
  have h6 := hf.1
  rw [List.length_take] at h1 h2 h3 h4
  exact ⟨by omega, by omega, by omega, by omega, (hl _ hm).1, (hl _ hm).2⟩
theorem lay_next {k s : Int} {N : Nat} {l : List V} {i : Nat} {nv dv ev wv : Value} {vals : List Value} {w W : World} {c c' : CS} {v : V} (hn : CS.of k (l.take (i + 1)) = c.add k v) (e : c.add k v = c') (h : LX w W k s N c' nv dv ev wv vals) : LayIn k s N l (i + 1) nv w W := ⟨dv, ev, wv, vals, by rw [hn, e]; exact h⟩
theorem lay_start (w : World) (k s : Int) (n : Nat) : LX w ((((w.alloc (.cells #[.int .i64 k, .int .i64 s] 23)).alloc (.cells #[.int .i64 0, .int .i64 0, .int .i64 0, .int .i64 0, .slice none 0 0, .slice none 0 0, .slice none 0 0, .slice none 0 0] 43)).alloc (.cells #[.int .i64 k, .int .i64 s, .int .i64 (n : Int), .int .i64 0, .slice none 0 0, .slice none 0 0, .slice none 0 0, .slice none 0 0] 43)).alloc (.cells #[.slice none 0 0] 185)) k s n CS.zero (.slice none 0 0) (.slice none 0 0) (.slice none 0 0) (.slice none 0 0) [] := by
  obtain ⟨h1, h2, h3, h4, h5, h6⟩ := below_four w (.cells #[.int .i64 k, .int .i64 s] 23 (0, 0)) (.cells #[.int .i64 0, .int .i64 0, .int .i64 0, .int .i64 0, .slice none 0 0, .slice none 0 0, .slice none 0 0, .slice none 0 0] 43 (0, 0)) (.cells #[.int .i64 k, .int .i64 s, .int .i64 (n : Int), .int .i64 0, .slice none 0 0, .slice none 0 0, .slice none 0 0, .slice none 0 0] 43 (0, 0)) (.cells #[.slice none 0 0] 185 (0, 0))
  exact ⟨h3, h4, h5, ⟨h6, by omega, Own.nil _ _ _ _, rfl, (fun j t hj _ => absurd hj (Nat.not_lt_zero _)), (fun j j' _ _ _ hj => absurd hj (Nat.not_lt_zero _)), (fun t ht => (by cases ht))⟩, Own.nil _ _ _ _, Own.nil _ _ _ _, Own.nil _ _ _ _, fun v hv => (by cases hv), h1⟩
theorem lay_end {w wr w5 : World} {k s : Int} {n : Nat} {c : CS} {nv : Value} {da ea wa ma : Option Addr} {dc ec wc mc : Nat} {vals : List Value} (hL : LX w wr k s n c nv (.slice da c.data.length dc) (.slice ea c.ends.length ec) (.slice wa c.words.length wc) vals) (h5 : LX w w5 k s n c nv (.slice da c.data.length dc) (.slice ea c.ends.length ec) (.slice wa c.words.length wc) vals)
    (ho : Own w5 wr.heap.size 5 1 (.slice ma (mof c.nulls).length mc) (mof c.nulls).length ((mof c.nulls).map (.int .u8))) (hb : Below wr.heap.size wr w5) (x : Int) :
    OwnC (((((((((((w5.setCell ⟨w.heap.size + 1 + 1, 3, none⟩ (.int .i64 (c.nulls.length : Int))).setCell ⟨w.heap.size + 1 + 1, 4, none⟩ (.slice ma (mof c.nulls).length mc)).setCell ⟨w.heap.size + 1 + 1, 7, none⟩ (.slice wa c.words.length wc)).setCell ⟨w.heap.size + 1, 0, none⟩ (.int .i64 k)).setCell ⟨w.heap.size + 1, 1, none⟩ (.int .i64 s)).setCell ⟨w.heap.size + 1, 2, none⟩ (.int .i64 x)).setCell ⟨w.heap.size + 1, 3, none⟩ (.int .i64 (c.nulls.length : Int))).setCell ⟨w.heap.size + 1, 4, none⟩ (.slice ma (mof c.nulls).length mc)).setCell ⟨w.heap.size + 1, 5, none⟩ (.slice da c.data.length dc)).setCell ⟨w.heap.size + 1, 6, none⟩ (.slice ea c.ends.length ec)).setCell ⟨w.heap.size + 1, 7, none⟩ (.slice wa c.words.length wc)) w.heap.size (c.col k s) ⟨ma, mc⟩ ⟨da, dc⟩ ⟨ea, ec⟩ ⟨wa, wc⟩ vals ∧
    Below w.heap.size w (((((((((((w5.setCell ⟨w.heap.size + 1 + 1, 3, none⟩ (.int .i64 (c.nulls.length : Int))).setCell ⟨w.heap.size + 1 + 1, 4, none⟩ (.slice ma (mof c.nulls).length mc)).setCell ⟨w.heap.size + 1 + 1, 7, none⟩ (.slice wa c.words.length wc)).setCell ⟨w.heap.size + 1, 0, none⟩ (.int .i64 k)).setCell ⟨w.heap.size + 1, 1, none⟩ (.int .i64 s)).setCell ⟨w.heap.size + 1, 2, none⟩ (.int .i64 x)).setCell ⟨w.heap.size + 1, 3, none⟩ (.int .i64 (c.nulls.length : Int))).setCell ⟨w.heap.size + 1, 4, none⟩ (.slice ma (mof c.nulls).length mc)).setCell ⟨w.heap.size + 1, 5, none⟩ (.slice da c.data.length dc)).setCell ⟨w.heap.size + 1, 6, none⟩ (.slice ea c.ends.length ec)).setCell ⟨w.heap.size + 1, 7, none⟩ (.slice wa c.words.length wc)) := by
  have K : Kept (fun b => b = w.heap.size + 1 + 1 ∨ b = w.heap.size + 1) w5 (((((((((((w5.setCell ⟨w.heap.size + 1 + 1, 3, none⟩ (.int .i64 (c.nulls.length : Int))).setCell ⟨w.heap.size + 1 + 1, 4, none⟩ (.slice ma (mof c.nulls).length mc)).setCell ⟨w.heap.size + 1 + 1, 7, none⟩ (.slice wa c.words.length wc)).setCell ⟨w.heap.size + 1, 0, none⟩ (.int .i64 k)).setCell ⟨w.heap.size + 1, 1, none⟩ (.int .i64 s)).setCell ⟨w.heap.size + 1, 2, none⟩ (.int .i64 x)).setCell ⟨w.heap.size + 1, 3, none⟩ (.int .i64 (c.nulls.length : Int))).setCell ⟨w.heap.size + 1, 4, none⟩ (.slice ma (mof c.nulls).length mc)).setCell ⟨w.heap.size + 1, 5, none⟩ (.slice da c.data.length dc)).setCell ⟨w.heap.size + 1, 6, none⟩ (.slice ea c.ends.length ec)).setCell ⟨w.heap.size + 1, 7, none⟩ (.slice wa c.words.length wc)) := by
    refine Kept.trans ?_ (kept8 _ (w.heap.size + 1) _ _ _ _ _ _ _ _) (fun b e _ => .inr e)
    refine Kept.trans (Kept.trans (Kept.trans (Kept.refl _ w5) (Kept.setCell _ _ _) (fun b e _ => .inl e)) (Kept.setCell _ _ _) (fun b e _ => .inl e)) (Kept.setCell _ _ _) (fun b e _ => .inl e)
  generalize (((((((((((w5.setCell ⟨w.heap.size + 1 + 1, 3, none⟩ (.int .i64 (c.nulls.length : Int))).setCell ⟨w.heap.size + 1 + 1, 4, none⟩ (.slice ma (mof c.nulls).length mc)).setCell ⟨w.heap.size + 1 + 1, 7, none⟩ (.slice wa c.words.length wc)).setCell ⟨w.heap.size + 1, 0, none⟩ (.int .i64 k)).setCell ⟨w.heap.size + 1, 1, none⟩ (.int .i64 s)).setCell ⟨w.heap.size + 1, 2, none⟩ (.int .i64 x)).setCell ⟨w.heap.size + 1, 3, none⟩ (.int .i64 (c.nulls.length : Int))).setCell ⟨w.heap.size + 1, 4, none⟩ (.slice ma (mof c.nulls).length mc)).setCell ⟨w.heap.size + 1, 5, none⟩ (.slice da c.data.length dc)).setCell ⟨w.heap.size + 1, 6, none⟩ (.slice ea c.ends.length ec)).setCell ⟨w.heap.size + 1, 7, none⟩ (.slice wa c.words.length wc)) = W at *
  have ty : ∀ {F : TypeId}, F ≠ 43 → ∀ b, (b = w.heap.size + 1 + 1 ∨ b = w.heap.size + 1) → b < w5.heap.size → ∀ cs, w5.heap[b]? ≠ some (.cells cs F (0, 0)) := by
    rintro F hF b (rfl | rfl) hb cs hc
    · rw [h5.bc] at hc; cases hc; exact hF rfl
    · rw [h5.br] at hc; cases hc; exact hF rfl
  have hsz := hL.bel.size
  refine ⟨⟨(ho.keptT K (ty (by decide))).mono hsz, h5.data.keptT K (ty (by decide)), h5.ends.keptT K (ty (by decide)), h5.words.row.keptT K (ty (by decide)), h5.words.len, fun j t hj ht => ?_, ⟨fun b e e2 => ?_, fun v hv b e => ⟨fun e2 => ?_, fun e2 => ?_⟩, ?_⟩⟩, h5.bel.trans (K.to_below h5.bel.size (fun b e => by omega))⟩
  · obtain ⟨a, cap, q1, q2⟩ := h5.words.each j t hj ht
    exact ⟨a, cap, q1, q2.keptT K (ty (by decide))⟩
  · rw [← own_len00 ma (mof c.nulls).length mc] at e
    rw [← own_len00 da c.data.length dc] at e2
    have := (ho.lt b e).1
    have := (hL.data.lt b e2).2
    omega
  · rw [← own_len00 ma (mof c.nulls).length mc] at e2
    have := (ho.lt b e2).1
    have := (hL.word_lt v hv b e).1
    omega
  · rw [← own_len00 da c.data.length dc] at e2
    exact hL.apart v hv b e e2
  · rw [hL.words.len]; exact hL.words.sep
set_option maxHeartbeats 40000000 in
theorem lay_gen (k s : Int) (l : List V) (ho : okType k s = true) (hf : Few l) (hl : ∀ v ∈ l, IsBytes v.text ∧ v.bits < 18446744073709551616) (A : SL) (w : World) (h : RdVs w A l) :
    Calls Try.prog 78 #[.agg #[.int .i64 k, .int .i64 s], .slice A.a l.length A.c] w (ColBP ((CS.of k (l.map nrm)).col k s) w) := by
  obtain ⟨aa, ac⟩ := A
  have HR := Aside.mk h
  have HF := Aside.mk (nrm_few hf)
  have HLO := Aside.mk (show ∀ v ∈ l.map nrm, IsBytes v.text ∧ v.bits < 18446744073709551616 from fun v hv => by
    obtain ⟨u, hu, rfl⟩ := List.mem_map.1 hv
    exact nrm_wf (hl u hu))
  have HLV := Aside.mk hl
  have HML := Aside.mk (show ∀ {i : Nat} (hi : i < l.length) (hm : i < (l.map nrm).length), (l.map nrm)[i]'hm = nrm l[i] from fun hi hm => by simp)
  have HLL := Aside.mk (show (l.map nrm).length = l.length by simp)
  have HO := Aside.mk ho
  have hfl := hf.1
  clear h hf hl ho
  generalize l.map nrm = m at *
  dsimp only
  go_enter Try.func78, Try.ntmps78
  go_wp2_with fail
  go_loopw [6, 8] (fun nv iv wr => ∃ i : Nat, i ≤ l.length ∧ iv = .int .i64 (i : Int) ∧ Aside (LayIn k s l.length m i nv w wr)) (fun _ iv _ => l.length - (intOf iv).toNat)
  case atStart =>
    exact ⟨0, by omega, rfl, ⟨.slice none 0 0, .slice none 0 0, .slice none 0 0, [], lay_start w k s l.length⟩⟩
  case round =>
    obtain ⟨i, hi, rfl, hp⟩ := hrel
    obtain ⟨dv, ev, wv, vals, hL⟩ := hp.out
    clear hp
    have c0 := cell_blk (k := 0) hL.bt
    have c1 := cell_blk (k := 1) hL.bt
    simp at c0 c1
    by_cases hlt : i < l.length
    · obtain ⟨g, off, cap, ta, tc, e1, e2, q1, q2, v0, v1, v2, hrt⟩ := HR.out.at hlt
      simp only at e1 e2
      subst e1 e2
      have HRT := Aside.mk hrt
      have hlm : i < m.length := by have := HLL.out; omega
      have HROOM := Aside.mk (show Room (CS.of k (m.take i)) (nrm l[i]) from by rw [← HML.out hlt hlm]; exact room_wf HF.out HLO.out hlm)
      have HNX := Aside.mk (show CS.of k (m.take (i + 1)) = (CS.of k (m.take i)).add k (nrm l[i]) from by rw [← HML.out hlt hlm]; exact of_next k m hlm)
      have HV := Aside.mk (HLV.out _ (List.getElem_mem hlt))
      obtain ⟨s1, s2, s3, s4⟩ := of_sizes k (m.take i) (fun v hv => HF.out.2 v (List.mem_of_mem_take hv))
      rw [List.length_take] at s1 s2 s3 s4
      clear hrt hlm
      generalize l[i] = v at *
      generalize CS.of k (m.take i) = c at *
      obtain ⟨vn, vb, vt⟩ := v
      dsimp only at v0 v1 v2 HRT
      have HV0 := Aside.mk v0
      have HV1 := Aside.mk v1
      have HV2 := Aside.mk v2
      clear v0 v1 v2 c0 c1
      obtain ⟨na, nc, rfl⟩ := hL.nulls.form
      obtain ⟨da, dc, rfl⟩ := hL.data.form
      obtain ⟨ea, ec, rfl⟩ := hL.ends.form
      have HL := Aside.mk hL
      clear hL
      have HNN := Aside.mk HL.out.nulls
      obtain ⟨nn, hnn⟩ : ∃ n, n = c.nulls.length := ⟨_, rfl⟩
      rw [← hnn] at HNN
      rw [← hnn]
      have HN2 := Aside.mk hnn
      have hn8 : nn ≤ 20000 := by omega
      clear hnn
      obtain ⟨en, hen⟩ : ∃ n, n = c.ends.length := ⟨_, rfl⟩
      have HE2 := Aside.mk hen
      have he8 : en ≤ 20000 := by omega
      clear hen
      obtain ⟨dn, hdn⟩ : ∃ n, n = c.data.length := ⟨_, rfl⟩
      have HD2 := Aside.mk hdn
      have hd8 : dn ≤ 98000000 := by omega
      clear hdn
      -- ROUND
      have c0 := cell_blk (k := 0) HL.out.bt
      have c1 := cell_blk (k := 1) HL.out.bt
      simp at c0 c1
      obtain ⟨b0, b1, b2, b3, b4, b5, b6, b7⟩ := box8 HL.out.bc
      have fz := fun k => frozen_blk (k := k) HL.out.bc
      have u0 := (HL.out.bel.cell (p := ⟨g, off + i * 3, none⟩) (World.block_lt_of_cell? _ _ HV0.out)).trans HV0.out
      have u1 := (HL.out.bel.cell (p := ⟨g, off + i * 3 + 1, none⟩) (World.block_lt_of_cell? _ _ HV1.out)).trans HV1.out
      have u2 := (HL.out.bel.cell (p := ⟨g, off + i * 3 + 2, none⟩) (World.block_lt_of_cell? _ _ HV2.out)).trans HV2.out
      have hlc := lt_of_blk HL.out.bc
      have hlb := lt_of_blk HL.out.bt
      have hlg := World.block_lt_of_cell? _ _ u0
      try dsimp only at b5 b6
      rw [← HE2.out] at b6
      rw [← HD2.out] at b5
      by_cases h15 : k = 15
      · subst h15
        cases vn with
        | true =>
          replace HNX := Aside.mk (show CS.of 15 (m.take (i + 1)) = c.add 15 ⟨true, 0, []⟩ from HNX.out)
          go_wp2_with (at_builtin; refine wpList_app2 _ rfl _ _ 113 113 rfl w.heap.size 4 (.bool false) 1 1 Try.underlying113 boolinfo rfl _ nn (c.nulls.map .bool) rfl (HNN.out.alloc _) _ 1 [_] rfl (src_one Try.underlying113 _ _ _ rfl rfl) (by unfold maxLen; omega) (by omega) (by have := HL.out.bel.size; simp; omega) ?_)
          intro v5 w5 hA
          obtain ⟨na5, nc5, rfl⟩ := hA.own.form
          have H5 := Aside.mk (LX.null HL.out (by rw [← HN2.out]; exact hA))
          clear hA
          clear c0 c1 b0 b1 b2 b3 b4 b5 b6 b7 fz u0 u1 u2 hlc hlb hlg
          have c0 := cell_blk (k := 0) H5.out.bt
          have c1 := cell_blk (k := 1) H5.out.bt
          simp at c0 c1
          obtain ⟨b0, b1, b2, b3, b4, b5, b6, b7⟩ := box8 H5.out.bc
          have fz := fun k => frozen_blk (k := k) H5.out.bc
          have u0 := (H5.out.bel.cell (p := ⟨g, off + i * 3, none⟩) (World.block_lt_of_cell? _ _ HV0.out)).trans HV0.out
          have u1 := (H5.out.bel.cell (p := ⟨g, off + i * 3 + 1, none⟩) (World.block_lt_of_cell? _ _ HV1.out)).trans HV1.out
          have u2 := (H5.out.bel.cell (p := ⟨g, off + i * 3 + 2, none⟩) (World.block_lt_of_cell? _ _ HV2.out)).trans HV2.out
          have hlc := lt_of_blk H5.out.bc
          have hlb := lt_of_blk H5.out.bt
          have hlg := World.block_lt_of_cell? _ _ u0
          try dsimp only at b5 b6
          rw [← HE2.out] at b6
          rw [← HD2.out] at b5
          have HEN := Aside.mk H5.out.ends
          dsimp only at HEN
          rw [← HE2.out] at HEN
          go_wp2_with (at_builtin; refine wpList_app2 _ rfl _ _ 40 40 rfl w.heap.size 3 (.int .i64 0) 1 8 Try.underlying40 intinfo2 rfl _ en (c.ends.map (.int .i64)) rfl (HEN.out.alloc _) _ 1 [_] rfl (src_one Try.underlying40 _ _ _ rfl rfl) (by unfold maxLen; omega) (by omega) (by have := H5.out.bel.size; simp; omega) ?_)
          intro v6 w6 hA
          obtain ⟨ea6, ec6, rfl⟩ := hA.own.form
          have H6 := Aside.mk (LX.end_ H5.out (by dsimp only; rw [← HE2.out]; exact hA))
          have g6 := ((show Kept (fun b => (Value.slice ea en ec).ownBlock = some b) w5 w6 from (Kept.of_below (below_new w5 _)).trans ((Kept.of_grown hA.grown).mono (fun b e _ => e.symm)) (fun _ e _ => e)).block _ hlc (fun e => HEN.out.blk_ne H5.out.bc (by decide) e)).trans H5.out.bc
          clear hA b0 b1 b2 b3 b4 b5 b6 b7 fz
          obtain ⟨b0, b1, b2, b3, b4, b5, b6, b7⟩ := box8 g6
          have fz := fun k => frozen_blk (k := k) g6
          clear g6
          go_wp2_with fail
          exact ⟨⟨i + 1, by omega, by simp, ⟨lay_next HNX.out (by simp [CS.add, HD2.out]) H6.out⟩⟩, by simp [intOf]; omega⟩
        | false =>
          replace HNX := Aside.mk (show CS.of 15 (m.take (i + 1)) = c.add 15 ⟨false, vb, vt⟩ from HNX.out)
          replace HROOM := Aside.mk (show Room c ⟨false, vb, vt⟩ from HROOM.out)
          have hvt := HV.out.1
          have hr1 := HROOM.out.1
          dsimp only at hr1
          go_wp2_with (at_builtin; refine wpList_app2 _ rfl _ _ 113 113 rfl w.heap.size 4 (.bool false) 1 1 Try.underlying113 boolinfo rfl _ nn (c.nulls.map .bool) rfl (HNN.out.alloc _) _ 1 [_] rfl (src_one Try.underlying113 _ _ _ rfl rfl) (by unfold maxLen; omega) (by omega) (by have := HL.out.bel.size; simp; omega) ?_)
          intro v5 w5 hA
          obtain ⟨na5, nc5, rfl⟩ := hA.own.form
          have H5 := Aside.mk (LX.null HL.out (by rw [← HN2.out]; exact hA))
          clear hA
          clear c0 c1 b0 b1 b2 b3 b4 b5 b6 b7 fz u0 u1 u2 hlc hlb hlg
          have c0 := cell_blk (k := 0) H5.out.bt
          have c1 := cell_blk (k := 1) H5.out.bt
          simp at c0 c1
          obtain ⟨b0, b1, b2, b3, b4, b5, b6, b7⟩ := box8 H5.out.bc
          have fz := fun k => frozen_blk (k := k) H5.out.bc
          have u0 := (H5.out.bel.cell (p := ⟨g, off + i * 3, none⟩) (World.block_lt_of_cell? _ _ HV0.out)).trans HV0.out
          have u1 := (H5.out.bel.cell (p := ⟨g, off + i * 3 + 1, none⟩) (World.block_lt_of_cell? _ _ HV1.out)).trans HV1.out
          have u2 := (H5.out.bel.cell (p := ⟨g, off + i * 3 + 2, none⟩) (World.block_lt_of_cell? _ _ HV2.out)).trans HV2.out
          have hlc := lt_of_blk H5.out.bc
          have hlb := lt_of_blk H5.out.bt
          have hlg := World.block_lt_of_cell? _ _ u0
          try dsimp only at b5 b6
          rw [← HE2.out] at b6
          rw [← HD2.out] at b5
          have HDA := Aside.mk H5.out.data
          dsimp only at HDA
          rw [← HD2.out] at HDA
          have hrd5 := HRT.out.below H5.out.bel
          have HSR := Aside.mk ((hrd5.below (below_drewN w5 _ 1)).src (P := Try.prog) Try.underlying37 (one_map (fun x : Int => Value.int .u8 x) (fun _ => rfl) vt))
          clear hrd5
          generalize hvl : vt.length = vl at *
          have HVL := Aside.mk hvl
          clear hvl
          go_wp2_with fail
          go_region_law ((refine step_app2 (P := Try.prog) w5.drew (.tmp 46) (.tmp 51) 37 37 (by rfl) (by rfl) w.heap.size 5 (.int .u8 0) 1 1 Try.underlying37 u8info (by rfl) (.slice da dn dc) dn (c.data.map (.int .u8)) (by rfl) (HDA.out.drewN 1) (.slice ta vl tc) vl (vt.map (.int .u8)) (by rfl) HSR.out (by unfold maxLen; omega) (by omega) (by have := H5.out.bel.size; exact this) ?_; intro v7 w7 hA; obtain ⟨da7, dc7, rfl⟩ := hA.own.form; have K7 := Aside.mk (show Kept (fun b => (Value.slice da dn dc).ownBlock = some b) w5 w7 from (Kept.of_below (below_drewN w5 _ 1)).trans ((Kept.of_grown hA.grown).mono (fun b e _ => e.symm)) (fun _ e _ => e)); have g7 := (K7.out.block _ hlc (fun e => HDA.out.blk_ne H5.out.bc (by decide) e)).trans H5.out.bc; clear b0 b1 b2 b3 b4 b5 b6 b7 fz; obtain ⟨b0, b1, b2, b3, b4, b5, b6, b7⟩ := box8 g7; have fz := fun k => frozen_blk (k := k) g7; have HA7 := Aside.mk hA; clear hA g7))
          all_goals
            have HE7 := Aside.mk H5.out.ends
            have H8 := Aside.mk (LX.dat (data' := c.data ++ vt) H5.out (by rw [← HD2.out]; exact K7.out) (by rw [List.length_append, HVL.out, ← HD2.out, List.map_append]; exact HA7.out.own) (by rw [← HD2.out]; exact HA7.out.blk))
            clear c0 c1 b0 b1 b2 b3 b4 b5 b6 b7 fz u0 u1 u2 hlb hlg hlc
            go_upto_region 12 with fail
            generalize w7.setCell ⟨w.heap.size + 1 + 1, 5, none⟩ (.slice da7 (dn + vl) dc7) = w8 at *
            obtain ⟨b0, b1, b2, b3, b4, b5, b6, b7⟩ := box8 H8.out.bc
            have fz := fun k => frozen_blk (k := k) H8.out.bc
            have hlc := lt_of_blk H8.out.bc
            rw [← HE2.out] at b6
            have HEN := Aside.mk H8.out.ends
            dsimp only at HEN
            rw [← HE2.out] at HEN
            go_wp2_with (at_builtin; refine wpList_app2 _ rfl _ _ 40 40 rfl w.heap.size 3 (.int .i64 0) 1 8 Try.underlying40 intinfo2 rfl _ en (c.ends.map (.int .i64)) rfl (HEN.out.alloc _) _ 1 [_] rfl (src_one Try.underlying40 _ _ _ rfl rfl) (by unfold maxLen; omega) (by omega) (by have := H8.out.bel.size; simp; omega) ?_)
            intro v6 w6 hA
            obtain ⟨ea6, ec6, rfl⟩ := hA.own.form
            have H6 := Aside.mk (LX.end_ H8.out (by dsimp only; rw [← HE2.out]; exact hA))
            have g6 := ((show Kept (fun b => (Value.slice ea en ec).ownBlock = some b) w8 w6 from (Kept.of_below (below_new w8 _)).trans ((Kept.of_grown hA.grown).mono (fun b e _ => e.symm)) (fun _ e _ => e)).block _ hlc (fun e => HEN.out.blk_ne H8.out.bc (by decide) e)).trans H8.out.bc
            clear hA b0 b1 b2 b3 b4 b5 b6 b7 fz
            obtain ⟨b0, b1, b2, b3, b4, b5, b6, b7⟩ := box8 g6
            have fz := fun k => frozen_blk (k := k) g6
            clear g6
            go_wp2_with fail
            exact ⟨⟨i + 1, by omega, by simp, ⟨lay_next HNX.out (by simp [CS.add, HD2.out, ← HVL.out]) H6.out⟩⟩, by simp [intOf]; omega⟩
      · have k15 : (k == 15) = false := by simpa using h15
        obtain ⟨Wn, hW, _, hW8⟩ := width_pos HO.out h15
        have HWD := Aside.mk (fun W : World => show Calls Try.prog 13 #[.int .i64 k] W fun e w' => e = .returned (.int .i64 (Wn : Int)) ∧ W = w' from by have := r18width_any k W; rwa [hW] at this)
        have HW2 := Aside.mk hW
        clear hW
        have hvb := HV.out.2
        dsimp only at hvb
        by_cases h16 : k = 16
        · subst h16
          have hw4 : Wn = 4 := by have := HW2.out; simp [widthOf] at this; omega
          have HW4 := Aside.mk hw4
          clear hw4
          cases vn with
          | true =>
            replace HNX := Aside.mk (show CS.of 16 (m.take (i + 1)) = c.add 16 ⟨true, 0, []⟩ from HNX.out)
            go_wp2_with (at_builtin; refine wpList_app2 _ rfl _ _ 113 113 rfl w.heap.size 4 (.bool false) 1 1 Try.underlying113 boolinfo rfl _ nn (c.nulls.map .bool) rfl (HNN.out.alloc _) _ 1 [_] rfl (src_one Try.underlying113 _ _ _ rfl rfl) (by unfold maxLen; omega) (by omega) (by have := HL.out.bel.size; simp; omega) ?_)
            intro v5 w5 hA
            obtain ⟨na5, nc5, rfl⟩ := hA.own.form
            have H5 := Aside.mk (LX.null HL.out (by rw [← HN2.out]; exact hA))
            clear hA
            clear c0 c1 b0 b1 b2 b3 b4 b5 b6 b7 fz u0 u1 u2 hlc hlb hlg
            have c0 := cell_blk (k := 0) H5.out.bt
            have c1 := cell_blk (k := 1) H5.out.bt
            simp at c0 c1
            obtain ⟨b0, b1, b2, b3, b4, b5, b6, b7⟩ := box8 H5.out.bc
            have fz := fun k => frozen_blk (k := k) H5.out.bc
            have u0 := (H5.out.bel.cell (p := ⟨g, off + i * 3, none⟩) (World.block_lt_of_cell? _ _ HV0.out)).trans HV0.out
            have u1 := (H5.out.bel.cell (p := ⟨g, off + i * 3 + 1, none⟩) (World.block_lt_of_cell? _ _ HV1.out)).trans HV1.out
            have u2 := (H5.out.bel.cell (p := ⟨g, off + i * 3 + 2, none⟩) (World.block_lt_of_cell? _ _ HV2.out)).trans HV2.out
            have hlc := lt_of_blk H5.out.bc
            have hlb := lt_of_blk H5.out.bt
            have hlg := World.block_lt_of_cell? _ _ u0
            try dsimp only at b5 b6
            rw [← HE2.out] at b6
            rw [← HD2.out] at b5
            go_wp2_with fail
            have HDA := Aside.mk H5.out.data
            dsimp only at HDA
            have HPUT := Aside.mk (put18_any w.heap.size c.data (0) Wn (by decide) hW8 (by omega) da dc w5.drew (HDA.out.drewN 1) (H5.out.bel.size))
            rw [← HD2.out] at HPUT HDA
            go_region_law (first
              | (refine step_call (P := Try.prog) w5.drew (by rfl) 13 [.tmp 91] _ (by rfl) [.int .i64 16] (by rfl) (fun _ _ => rfl) (HWD.out _) ?_; rintro e wn ⟨rfl, rfl⟩; refine ⟨_, rfl, ?_⟩)
              | (refine step_call (P := Try.prog) w5.drew (by rfl) 109 [.tmp 88, .tmp 89, .tmp 92] _ (by rfl) [.slice da dn dc, .int .u64 ((0 : Nat) : Int), .int .i64 (Wn : Int)] (by rfl) (fun _ _ => rfl) HPUT.out ?_; rintro e w7 ⟨da7, dc7, rfl, ho, hk, hb⟩; rw [← HD2.out] at ho hk hb ⊢; have K7 := Aside.mk (show Kept (fun b => (Value.slice da dn dc).ownBlock = some b) w5 w7 from (Kept.of_below (below_drewN w5 _ 1)).trans hk (fun _ e _ => e)); have g7 := (K7.out.block _ hlc (fun e => HDA.out.blk_ne H5.out.bc (by decide) e)).trans H5.out.bc; clear b0 b1 b2 b3 b4 b5 b6 b7 fz; obtain ⟨b0, b1, b2, b3, b4, b5, b6, b7⟩ := box8 g7; have fz := fun k => frozen_blk (k := k) g7; have HA7 := Aside.mk (And.intro ho hb); clear ho hk hb g7; refine ⟨_, rfl, ?_⟩))
            all_goals
              have H8 := Aside.mk (LX.dat (data' := c.data ++ lows (0) Wn) H5.out (by rw [← HD2.out]; exact K7.out) (by rw [List.length_append, lows_len, ← HD2.out]; exact HA7.out.1) (by rw [← HD2.out]; exact HA7.out.2))
              go_wp2_with fail
              exact ⟨⟨i + 1, by omega, by simp, ⟨lay_next HNX.out (by rw [HW4.out]; simp [CS.add]) H8.out⟩⟩, by simp [intOf]; omega⟩
          | false =>
            replace HNX := Aside.mk (show CS.of 16 (m.take (i + 1)) = c.add 16 ⟨false, vb, vt⟩ from HNX.out)
            replace HROOM := Aside.mk (show Room c ⟨false, vb, vt⟩ from HROOM.out)
            have hvt := HV.out.1
            dsimp only at hvt
            have hr1 := HROOM.out.1
            dsimp only at hr1
            go_wp2_with (at_builtin; refine wpList_app2 _ rfl _ _ 113 113 rfl w.heap.size 4 (.bool false) 1 1 Try.underlying113 boolinfo rfl _ nn (c.nulls.map .bool) rfl (HNN.out.alloc _) _ 1 [_] rfl (src_one Try.underlying113 _ _ _ rfl rfl) (by unfold maxLen; omega) (by omega) (by have := HL.out.bel.size; simp; omega) ?_)
            intro v5 w5 hA
            obtain ⟨na5, nc5, rfl⟩ := hA.own.form
            have H5 := Aside.mk (LX.null HL.out (by rw [← HN2.out]; exact hA))
            clear hA
            clear c0 c1 b0 b1 b2 b3 b4 b5 b6 b7 fz u0 u1 u2 hlc hlb hlg
            have c0 := cell_blk (k := 0) H5.out.bt
            have c1 := cell_blk (k := 1) H5.out.bt
            simp at c0 c1
            obtain ⟨b0, b1, b2, b3, b4, b5, b6, b7⟩ := box8 H5.out.bc
            have fz := fun k => frozen_blk (k := k) H5.out.bc
            have u0 := (H5.out.bel.cell (p := ⟨g, off + i * 3, none⟩) (World.block_lt_of_cell? _ _ HV0.out)).trans HV0.out
            have u1 := (H5.out.bel.cell (p := ⟨g, off + i * 3 + 1, none⟩) (World.block_lt_of_cell? _ _ HV1.out)).trans HV1.out
            have u2 := (H5.out.bel.cell (p := ⟨g, off + i * 3 + 2, none⟩) (World.block_lt_of_cell? _ _ HV2.out)).trans HV2.out
            have hlc := lt_of_blk H5.out.bc
            have hlb := lt_of_blk H5.out.bt
            have hlg := World.block_lt_of_cell? _ _ u0
            try dsimp only at b5 b6
            rw [← HE2.out] at b6
            rw [← HD2.out] at b5
            have HCO := Aside.mk (code17 w.heap.size (w.heap.size + 1 + 1 + 1) c.words wv vals vt hvt (by omega) (by omega) ta tc w5 H5.out.bel.size H5.out.words (HRT.out.below H5.out.bel))
            have hcq : codeOf c.words vt ≤ 100000000 := Nat.le_trans (codeOf_le _ _) (by omega)
            have hwq := wrap_u64 (codeOf c.words vt) (by omega)
            obtain ⟨q, hq⟩ : ∃ q, q = codeOf c.words vt := ⟨_, rfl⟩
            unfold Code17P at HCO
            rw [← hq] at HCO hcq hwq
            have HQ := Aside.mk hq
            clear hq
            go_upto_region 17 with (go_at_call 108; refine HCO.out.mono ?_; rintro e w6 ⟨rfl, wv6, vals6, hw6, hk6, hv6⟩; have H6 := Aside.mk (LX.word H5.out hw6 hk6 hv6); clear hw6 hk6 hv6 c0 c1 b0 b1 b2 b3 b4 b5 b6 b7 fz u0 u1 u2 hlc hlb hlg; have c0 := cell_blk (k := 0) H6.out.bt; have c1 := cell_blk (k := 1) H6.out.bt; simp at c0 c1; obtain ⟨b0, b1, b2, b3, b4, b5, b6, b7⟩ := box8 H6.out.bc; have fz := fun k => frozen_blk (k := k) H6.out.bc; have u0 := (H6.out.bel.cell (p := ⟨g, off + i * 3, none⟩) (World.block_lt_of_cell? _ _ HV0.out)).trans HV0.out; have hlc := lt_of_blk H6.out.bc)
            try dsimp only at b5 b6
            rw [← HE2.out] at b6
            rw [← HD2.out] at b5
            have HDA := Aside.mk H6.out.data
            dsimp only at HDA
            have HPUT := Aside.mk (put18_any w.heap.size c.data (q) Wn (by omega) hW8 (by omega) da dc w6.drew (HDA.out.drewN 1) (H6.out.bel.size))
            rw [← HD2.out] at HPUT HDA
            go_region_law (first
              | (refine step_call (P := Try.prog) w6.drew (by rfl) 13 [.tmp 91] _ (by rfl) [.int .i64 16] (by rfl) (fun _ _ => rfl) (HWD.out _) ?_; rintro e wn ⟨rfl, rfl⟩; refine ⟨_, rfl, ?_⟩)
              | (refine step_call (P := Try.prog) w6.drew (by rfl) 109 [.tmp 88, .tmp 89, .tmp 92] _ (by rfl) [.slice da dn dc, .int .u64 ((q : Nat) : Int), .int .i64 (Wn : Int)] (by rfl) (fun _ _ => rfl) HPUT.out ?_; rintro e w7 ⟨da7, dc7, rfl, ho, hk, hb⟩; rw [← HD2.out] at ho hk hb ⊢; have K7 := Aside.mk (show Kept (fun b => (Value.slice da dn dc).ownBlock = some b) w6 w7 from (Kept.of_below (below_drewN w6 _ 1)).trans hk (fun _ e _ => e)); have g7 := (K7.out.block _ hlc (fun e => HDA.out.blk_ne H6.out.bc (by decide) e)).trans H6.out.bc; clear b0 b1 b2 b3 b4 b5 b6 b7 fz; obtain ⟨b0, b1, b2, b3, b4, b5, b6, b7⟩ := box8 g7; have fz := fun k => frozen_blk (k := k) g7; have HA7 := Aside.mk (And.intro ho hb); clear ho hk hb g7; refine ⟨_, rfl, ?_⟩))
            all_goals
              have H8 := Aside.mk (LX.dat (data' := c.data ++ lows (q) Wn) H6.out (by rw [← HD2.out]; exact K7.out) (by rw [List.length_append, lows_len, ← HD2.out]; exact HA7.out.1) (by rw [← HD2.out]; exact HA7.out.2))
              go_wp2_with fail
              exact ⟨⟨i + 1, by omega, by simp, ⟨lay_next HNX.out (by rw [HW4.out, HQ.out]; simp [CS.add]) H8.out⟩⟩, by simp [intOf]; omega⟩
        · have k16 : (k == 16) = false := by simpa using h16
          cases vn with
          | true =>
            replace HNX := Aside.mk (show CS.of k (m.take (i + 1)) = c.add k ⟨true, 0, []⟩ from HNX.out)
            go_wp2_with (at_builtin; refine wpList_app2 _ rfl _ _ 113 113 rfl w.heap.size 4 (.bool false) 1 1 Try.underlying113 boolinfo rfl _ nn (c.nulls.map .bool) rfl (HNN.out.alloc _) _ 1 [_] rfl (src_one Try.underlying113 _ _ _ rfl rfl) (by unfold maxLen; omega) (by omega) (by have := HL.out.bel.size; simp; omega) ?_)
            intro v5 w5 hA
            obtain ⟨na5, nc5, rfl⟩ := hA.own.form
            have H5 := Aside.mk (LX.null HL.out (by rw [← HN2.out]; exact hA))
            clear hA
            clear c0 c1 b0 b1 b2 b3 b4 b5 b6 b7 fz u0 u1 u2 hlc hlb hlg
            have c0 := cell_blk (k := 0) H5.out.bt
            have c1 := cell_blk (k := 1) H5.out.bt
            simp at c0 c1
            obtain ⟨b0, b1, b2, b3, b4, b5, b6, b7⟩ := box8 H5.out.bc
            have fz := fun k => frozen_blk (k := k) H5.out.bc
            have u0 := (H5.out.bel.cell (p := ⟨g, off + i * 3, none⟩) (World.block_lt_of_cell? _ _ HV0.out)).trans HV0.out
            have u1 := (H5.out.bel.cell (p := ⟨g, off + i * 3 + 1, none⟩) (World.block_lt_of_cell? _ _ HV1.out)).trans HV1.out
            have u2 := (H5.out.bel.cell (p := ⟨g, off + i * 3 + 2, none⟩) (World.block_lt_of_cell? _ _ HV2.out)).trans HV2.out
            have hlc := lt_of_blk H5.out.bc
            have hlb := lt_of_blk H5.out.bt
            have hlg := World.block_lt_of_cell? _ _ u0
            try dsimp only at b5 b6
            rw [← HE2.out] at b6
            rw [← HD2.out] at b5
            go_wp2_with fail
            have HDA := Aside.mk H5.out.data
            dsimp only at HDA
            have HPUT := Aside.mk (put18_any w.heap.size c.data (0) Wn (by decide) hW8 (by omega) da dc w5.drew (HDA.out.drewN 1) (H5.out.bel.size))
            rw [← HD2.out] at HPUT HDA
            go_region_law (first
              | (refine step_call (P := Try.prog) w5.drew (by rfl) 13 [.tmp 91] _ (by rfl) [.int .i64 k] (by rfl) (fun _ _ => rfl) (HWD.out _) ?_; rintro e wn ⟨rfl, rfl⟩; refine ⟨_, rfl, ?_⟩)
              | (refine step_call (P := Try.prog) w5.drew (by rfl) 109 [.tmp 88, .tmp 89, .tmp 92] _ (by rfl) [.slice da dn dc, .int .u64 ((0 : Nat) : Int), .int .i64 (Wn : Int)] (by rfl) (fun _ _ => rfl) HPUT.out ?_; rintro e w7 ⟨da7, dc7, rfl, ho, hk, hb⟩; rw [← HD2.out] at ho hk hb ⊢; have K7 := Aside.mk (show Kept (fun b => (Value.slice da dn dc).ownBlock = some b) w5 w7 from (Kept.of_below (below_drewN w5 _ 1)).trans hk (fun _ e _ => e)); have g7 := (K7.out.block _ hlc (fun e => HDA.out.blk_ne H5.out.bc (by decide) e)).trans H5.out.bc; clear b0 b1 b2 b3 b4 b5 b6 b7 fz; obtain ⟨b0, b1, b2, b3, b4, b5, b6, b7⟩ := box8 g7; have fz := fun k => frozen_blk (k := k) g7; have HA7 := Aside.mk (And.intro ho hb); clear ho hk hb g7; refine ⟨_, rfl, ?_⟩))
            all_goals
              have H8 := Aside.mk (LX.dat (data' := c.data ++ lows (0) Wn) H5.out (by rw [← HD2.out]; exact K7.out) (by rw [List.length_append, lows_len, ← HD2.out]; exact HA7.out.1) (by rw [← HD2.out]; exact HA7.out.2))
              go_wp2_with fail
              exact ⟨⟨i + 1, by omega, by simp, ⟨lay_next HNX.out (by simp [CS.add, h15, h16, HW2.out]) H8.out⟩⟩, by simp [intOf]; omega⟩
          | false =>
            replace HNX := Aside.mk (show CS.of k (m.take (i + 1)) = c.add k ⟨false, vb, vt⟩ from HNX.out)
            replace HROOM := Aside.mk (show Room c ⟨false, vb, vt⟩ from HROOM.out)
            go_wp2_with (at_builtin; refine wpList_app2 _ rfl _ _ 113 113 rfl w.heap.size 4 (.bool false) 1 1 Try.underlying113 boolinfo rfl _ nn (c.nulls.map .bool) rfl (HNN.out.alloc _) _ 1 [_] rfl (src_one Try.underlying113 _ _ _ rfl rfl) (by unfold maxLen; omega) (by omega) (by have := HL.out.bel.size; simp; omega) ?_)
            intro v5 w5 hA
            obtain ⟨na5, nc5, rfl⟩ := hA.own.form
            have H5 := Aside.mk (LX.null HL.out (by rw [← HN2.out]; exact hA))
            clear hA
            clear c0 c1 b0 b1 b2 b3 b4 b5 b6 b7 fz u0 u1 u2 hlc hlb hlg
            have c0 := cell_blk (k := 0) H5.out.bt
            have c1 := cell_blk (k := 1) H5.out.bt
            simp at c0 c1
            obtain ⟨b0, b1, b2, b3, b4, b5, b6, b7⟩ := box8 H5.out.bc
            have fz := fun k => frozen_blk (k := k) H5.out.bc
            have u0 := (H5.out.bel.cell (p := ⟨g, off + i * 3, none⟩) (World.block_lt_of_cell? _ _ HV0.out)).trans HV0.out
            have u1 := (H5.out.bel.cell (p := ⟨g, off + i * 3 + 1, none⟩) (World.block_lt_of_cell? _ _ HV1.out)).trans HV1.out
            have u2 := (H5.out.bel.cell (p := ⟨g, off + i * 3 + 2, none⟩) (World.block_lt_of_cell? _ _ HV2.out)).trans HV2.out
            have hlc := lt_of_blk H5.out.bc
            have hlb := lt_of_blk H5.out.bt
            have hlg := World.block_lt_of_cell? _ _ u0
            try dsimp only at b5 b6
            rw [← HE2.out] at b6
            rw [← HD2.out] at b5
            go_wp2_with fail
            have HDA := Aside.mk H5.out.data
            dsimp only at HDA
            have HPUT := Aside.mk (put18_any w.heap.size c.data (vb) Wn (hvb) hW8 (by omega) da dc w5.drew (HDA.out.drewN 1) (H5.out.bel.size))
            rw [← HD2.out] at HPUT HDA
            go_region_law (first
              | (refine step_call (P := Try.prog) w5.drew (by rfl) 13 [.tmp 91] _ (by rfl) [.int .i64 k] (by rfl) (fun _ _ => rfl) (HWD.out _) ?_; rintro e wn ⟨rfl, rfl⟩; refine ⟨_, rfl, ?_⟩)
              | (refine step_call (P := Try.prog) w5.drew (by rfl) 109 [.tmp 88, .tmp 89, .tmp 92] _ (by rfl) [.slice da dn dc, .int .u64 ((vb : Nat) : Int), .int .i64 (Wn : Int)] (by rfl) (fun _ _ => rfl) HPUT.out ?_; rintro e w7 ⟨da7, dc7, rfl, ho, hk, hb⟩; rw [← HD2.out] at ho hk hb ⊢; have K7 := Aside.mk (show Kept (fun b => (Value.slice da dn dc).ownBlock = some b) w5 w7 from (Kept.of_below (below_drewN w5 _ 1)).trans hk (fun _ e _ => e)); have g7 := (K7.out.block _ hlc (fun e => HDA.out.blk_ne H5.out.bc (by decide) e)).trans H5.out.bc; clear b0 b1 b2 b3 b4 b5 b6 b7 fz; obtain ⟨b0, b1, b2, b3, b4, b5, b6, b7⟩ := box8 g7; have fz := fun k => frozen_blk (k := k) g7; have HA7 := Aside.mk (And.intro ho hb); clear ho hk hb g7; refine ⟨_, rfl, ?_⟩))
            all_goals
              have H8 := Aside.mk (LX.dat (data' := c.data ++ lows (vb) Wn) H5.out (by rw [← HD2.out]; exact K7.out) (by rw [List.length_append, lows_len, ← HD2.out]; exact HA7.out.1) (by rw [← HD2.out]; exact HA7.out.2))
              go_wp2_with fail
              exact ⟨⟨i + 1, by omega, by simp, ⟨lay_next HNX.out (by simp [CS.add, h15, h16, HW2.out]) H8.out⟩⟩, by simp [intOf]; omega⟩
    · obtain rfl : i = l.length := by omega
      rw [← HLL.out, List.take_length] at hL
      rw [HLL.out] at hL
      obtain ⟨s1, s2, s3, s4⟩ := of_sizes k m HF.out.2
      rw [HLL.out] at s1 s2 s3 s4
      have HS2 := Aside.mk s2
      have s5 := Nat.le_of_eq s2
      clear s2
      generalize CS.of k m = c at *
      obtain ⟨na, nc, rfl⟩ := hL.nulls.form
      obtain ⟨da, dc, rfl⟩ := hL.data.form
      obtain ⟨ea, ec, rfl⟩ := hL.ends.form
      obtain ⟨wa, wc, rfl⟩ := hL.words.row.form
      have HL := Aside.mk hL
      have HOF := Aside.mk (of16_any c.nulls (.slice na c.nulls.length nc) wr (by omega) hL.nulls.rd)
      clear hL c0 c1
      go_wp2_with (go_at_call 110; refine HOF.out.mono ?_; rintro e w5 ⟨v5, rfl, ho5, hb5⟩; obtain ⟨ma, mc, rfl⟩ := ho5.form; have H5 := Aside.mk (HL.out.below hb5); have HO5 := Aside.mk ho5; have HB5 := Aside.mk hb5; obtain ⟨b0, b1, b2, b3, b4, b5, b6, b7⟩ := box8 H5.out.bc; obtain ⟨r0, r1, r2, r3, r4, r5, r6, r7⟩ := box8 H5.out.br; have fz := fun k => frozen_blk (k := k) H5.out.bc; have fr := fun k => frozen_blk (k := k) H5.out.br; have q0 := cell_blk (k := 0) H5.out.words.blk; simp at q0; clear ho5 hb5)
      refine bodyPost_ret (v := .agg #[.int .i64 k, .int .i64 s, .int .i64 (l.length : Int), .int .i64 (c.nulls.length : Int), .slice ma (mof c.nulls).length mc, .slice da c.data.length dc, .slice ea c.ends.length ec, .slice wa c.words.length wc]) (by simp [results, Try.results78, go_sem, r0, r1, r2, r3, r4, r5, r6, r7]) rfl ?_
      have r := lay_end HL.out H5.out HO5.out HB5.out (l.length : Int)
      exact ⟨⟨ma, mc⟩, ⟨da, dc⟩, ⟨ea, ec⟩, ⟨wa, wc⟩, vals, by simp [colV, CS.col, HS2.out], r.1, r.2⟩
theorem lay_any (k s : Int) (l : List V) (ho : okType k s = true) (hf : Few l) (hl : ∀ v ∈ l, vOK k s v) (A : SL) (w : World) (h : RdVs w A l) :
    Calls Try.prog 78 #[.agg #[.int .i64 k, .int .i64 s], .slice A.a l.length A.c] w (ColBP ((CS.of k l).col k s) w) := by
  have := lay_gen k s l ho hf (fun v hv => ⟨(hl v hv).1, (hl v hv).2.1⟩) A w h
  rwa [nrm_map hl] at this
end Go.Proofs.Ytmhjjhaipcgbiaa
