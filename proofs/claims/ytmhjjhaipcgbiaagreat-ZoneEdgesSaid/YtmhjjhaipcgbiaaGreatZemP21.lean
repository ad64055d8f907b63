/- Texts of this claim, one behind the other: Words, AddC, AddT. -/
import Derived.Test.YtmhjjhaipcgbiaaGreatZemP12
import Derived.Test.YtmhjjhaipcgbiaaGreatZemP15
import Derived.Test.YtmhjjhaipcgbiaaGreatZemP13

namespace Go.Proofs.YtmhjjhaipcgbiaaGreat
open Go.RowKit Go.Maps
set_option linter.unusedVariables false
set_option linter.unusedSimpArgs false
set_option maxRecDepth 100000
set_option maxHeartbeats 1000000
def WOwn (w : World) (base i : Nat) (vals : List Value) (ws : List (List Int)) : Prop :=
  ∀ (j : Nat) t, j < i → ws[j]? = some t → ∃ a cap, vals[j]? = some (.slice a t.length cap) ∧ Own w base 5 1 (.slice a t.length cap) t.length (t.map (.int .u8))
def WSep (i : Nat) (vals : List Value) : Prop := ∀ (j j' : Nat) v v', j < j' → j' < i → vals[j]? = some v → vals[j']? = some v' → ∀ b, v.ownBlock = some b → v'.ownBlock ≠ some b
def WordsP (ws : List (List Int)) (w : World) (e : Ending) (w' : World) : Prop :=
  ∃ a c vals, e = .returned (.slice a ws.length c) ∧ Own w' w.heap.size 43 1 (.slice a ws.length c) ws.length vals ∧ vals.length = ws.length ∧ WOwn w' w.heap.size ws.length vals ws ∧ Below w.heap.size w w' ∧ WSep ws.length vals
def WordsIn (ws : List (List Int)) (i : Nat) (w wr : World) : Prop :=
  ∃ vals, vals.length = ws.length ∧ wr.heap[w.heap.size]? = some (.cells vals.toArray 43 (0, 0)) ∧ WOwn wr w.heap.size i vals ws ∧ Below w.heap.size w wr ∧ WSep i vals
theorem WOwn.kept {w w' : World} {base i : Nat} {vals : List Value} {ws : List (List Int)} {S : Nat → Prop} (h : WOwn w base i vals ws) (hk : Kept S w w') (hS : ∀ k, base ≤ k → k < w.heap.size → (∃ cs, w.heap[k]? = some (.cells cs 5 (0, 0))) → ¬ S k) : WOwn w' base i vals ws := fun j t hj ht => by
  obtain ⟨a, cap, h1, h2⟩ := h j t hj ht
  exact ⟨a, cap, h1, h2.kept hk (fun k e => hS k (h2.lt k e).1 (h2.lt k e).2 (own_blk h2 e))⟩
theorem words_make (n : Nat) (hn : n ≤ 100000000) (w : World) : ∃ cs : List Value, cs.length = n ∧ (Instr.makeSlice 37 (.int .i64 (n : Int)) (.int .i64 (n : Int))).run Tryz.prog w = .ok (.slice (some ⟨w.heap.size, 0, none⟩) n n) (w.alloc (.cells cs.toArray 43)) := by
  obtain ⟨i0, hi, hz0, hz1, hz2⟩ := info_parts bytesinfo
  have h := run_make (P := Tryz.prog) w 37 43 i0 _ Tryz.underlying37 hi hz0 .i64 .i64 (n : Int) (n : Int) (by omega) (Int.le_refl _) (by rw [hz2]; omega) (by omega)
  rw [hz1, Nat.mul_one, Int.toNat_natCast] at h
  refine ⟨(madeCells (Value.slice none 0 0).cells n).toList, by rw [Array.length_toList, size_madeCells], ?_⟩
  rw [h, Array.toArray_toList]
theorem words_store {ws : List (List Int)} {i : Nat} {w wr w3 : World} {t : List Int} {a : Option Addr} {cap : Nat} (hi : i < ws.length) (ht : ws[i]? = some t) (h : WordsIn ws i w wr) (hb : Below wr.heap.size wr w3) (ho : Own w3 wr.heap.size 5 1 (.slice a t.length cap) t.length (t.map (.int .u8))) :
    WordsIn ws (i + 1) w (w3.setCell ⟨w.heap.size, i, none⟩ (.slice a t.length cap)) := by
  obtain ⟨vals, hl, hbk, hw, hbl, hsep⟩ := h
  have hb3 := (hb.block _ (lt_of_blk hbk)).trans hbk
  have hsz := lt_of_blk hbk
  refine ⟨vals.set i (.slice a t.length cap), by simpa using hl, ?_, ?_, (hbl.trans (hb.mono hbl.size)).setCell (Nat.le_refl _) _, ?_⟩
  · have := heap_setCell_at (k := i) hb3 (.slice a t.length cap)
    rw [this]; simp
  · have hne : ∀ k, (Value.slice a t.length cap).ownBlock = some k → k ≠ w.heap.size := fun k e => by have := (ho.lt k e).1; omega
    intro j u hj hu
    rcases Nat.lt_or_ge j i with hlt | hge
    · obtain ⟨a1, c1, h1, h2⟩ := hw j u hlt hu
      refine ⟨a1, c1, by rw [List.getElem?_set_ne (by omega)]; exact h1, (h2.below hb).set_other (fun e => ?_) _⟩
      obtain ⟨cs, hcs⟩ := own_blk (h2.below hb) e
      rw [hb3] at hcs
      cases hcs
    · obtain rfl : j = i := by omega
      rw [ht] at hu
      cases hu
      refine ⟨a, cap, by rw [List.getElem?_set_self (by omega)], (ho.set_other (fun e => hne _ e rfl) _).mono (by omega)⟩
  · intro j j' v v' hjj hji h1 h2 b e
    rcases Nat.lt_or_ge j' i with hlt | hge
    · rw [List.getElem?_set_ne (by omega)] at h1 h2
      exact hsep j j' v v' hjj hlt h1 h2 b e
    · obtain rfl : j' = i := by omega
      rw [List.getElem?_set_ne (by omega)] at h1
      rw [List.getElem?_set_self (by omega)] at h2
      cases h2
      obtain ⟨a1, c1, q1, q2⟩ := hw j _ hjj (List.getElem?_eq_getElem (by omega))
      rw [h1] at q1
      cases q1
      intro e2
      have := (q2.lt b e).2
      have := (ho.lt b e2).1
      omega
theorem words_any (T : Nat → Prop) (lw : Nat) (ws : List (List Int)) (hn : ws.length ≤ 100000000) (hw : ∀ t ∈ ws, t.length ≤ 1000000000) (w : World) (h : WL w T lw ws) : Calls Tryz.prog 93 #[.pointer (some ⟨lw, 0, none⟩)] w (WordsP ws w) := by
  obtain ⟨wv, mb, vals, D, h⟩ := h
  obtain ⟨wa, wc, rfl⟩ := h.row.form
  obtain ⟨cs, hcl, hms⟩ := words_make ws.length hn w
  have hc0 := cell_blk (k := 0) h.blk
  simp at hc0
  have hlw := lt_of_blk h.blk
  have hc2 : (w.alloc (.cells cs.toArray 43)).cell? ⟨lw, 0, none⟩ = some (.slice wa ws.length wc) := ((below_new w _).cell (p := ⟨lw, 0, none⟩) hlw).trans hc0
  have H := Aside.mk h
  have HCL := Aside.mk hcl
  have HW := Aside.mk hw
  clear h hcl hw
  go_enter Tryz.func93, Tryz.ntmps93
  go_wp2
  go_loopw [17] (fun iv wr => ∃ i : Nat, i ≤ ws.length ∧ iv = .int .i64 (i : Int) ∧ Aside (WordsIn ws i w wr)) (fun iv _ => ws.length - (intOf iv).toNat)
  case atStart => exact ⟨0, by omega, rfl, ⟨cs, HCL.out, heap_alloc_new w _, fun j t hj _ => by omega, below_new w _, fun j j' _ _ h1 h2 => by omega⟩⟩
  case round =>
    clear hms hc0 hc2
    obtain ⟨i, hi, rfl, hp⟩ := hrel
    by_cases hlt : i < ws.length
    · obtain ⟨vi, hvi, hvo, _⟩ := H.out.words.2 i _ (List.getElem?_eq_getElem hlt)
      obtain ⟨va, vc, rfl⟩ := hvo.form
      have hvl := H.out.words.1
      obtain ⟨_, _, hbk, _, hbl, _⟩ := hp.out
      obtain ⟨eb, eo, ecap, hs, hel, hecap, hcE⟩ := H.out.row.rd.some_ (by omega)
      simp only [Value.slice.injEq, true_and] at hs
      obtain ⟨rfl, rfl⟩ := hs
      have hce := (hbl.cell (p := ⟨eb, eo + i, none⟩) (World.block_lt_of_cell? _ _ (hcE i _ hvi))).trans (hcE i _ hvi)
      have htl := HW.out _ (List.getElem_mem hlt)
      have HT := Aside.mk (List.getElem?_eq_getElem hlt)
      have HVO := Aside.mk (hvo.rd.below hbl)
      clear hbk hbl hcE hvi hvo hvl
      generalize ws[i] = t at *
      have HCL2 := Aside.mk (clone_bytes (.slice va t.length vc) t.length _ wr htl HVO.out (one_map (fun x : Int => Value.int .u8 x) (fun _ => rfl) t))
      go_wp2_with (go_at_call 91; refine HCL2.out.mono ?_; rintro e w3 ⟨v', rfl, ho, hb3⟩; obtain ⟨ca, cc, rfl⟩ := ho.form; obtain ⟨vals3, hl3, hbk3, _, hbl3, _⟩ := hp.out; have hbk4 := (hb3.block _ (lt_of_blk hbk3)).trans hbk3; have q := cell_blk (k := i) hbk4; have z := frozen_blk (k := i) hbk4; rw [List.getElem?_toArray, List.getElem?_eq_getElem (by omega)] at q; have HS := Aside.mk (words_store hlt HT.out hp.out hb3 ho); clear ho hb3 hbk3 hbk4 hbl3)
      exact ⟨⟨i + 1, by omega, by simp, HS⟩, by simp [intOf]; omega⟩
    · obtain rfl : i = ws.length := by omega
      obtain ⟨vals2, hl2, hbk2, hw2, hbl2, hs2⟩ := hp.out
      go_wp2
      go_ret
      refine ⟨_, _, vals2, rfl, ⟨by rw [hl2]; simp, .inr ⟨w.heap.size, 0, ws.length, vals2.toArray, rfl, Nat.le_refl _, hbk2, Nat.le_refl _, by unfold maxLen; omega, by simp [hl2], fun j hj => by simp⟩⟩, hl2, hw2, hbl2, hs2⟩
end Go.Proofs.YtmhjjhaipcgbiaaGreat


namespace Go.Proofs.YtmhjjhaipcgbiaaGreat
open Go.RowKit
set_option linter.unusedVariables false
set_option linter.unusedSimpArgs false
set_option maxRecDepth 100000
set_option maxHeartbeats 2000000
theorem assert_running3 (v : Value) (w : World) : (Instr.typeAssert (.iface 167 v) 159 162 true).run Tryz.prog w = .ok (.tuple #[.agg #[], .bool false]) w := by kernel_rfl
theorem assert_coded3 (v : Value) (w : World) : (Instr.typeAssert (.iface 167 v) 159 167 true).run Tryz.prog w = .ok (.tuple #[v, .bool true]) w := by kernel_rfl
def AddCP (bl lw : Nat) (s : Int) (T : Nat → Prop) (nulls : List Bool) (data ends : List Int) (ws : List (List Int)) (nv dv ev : Value) (X : Nat) (ws2 : List (List Int)) (nl : Bool) (w : World) (e : Ending) (w' : World) : Prop :=
  e = .returned (.tuple #[]) ∧ ∃ nv' dv', IsB w' bl lw 0 16 s (nulls ++ [nl]) (data ++ lows X 4) ends nv' dv' ev ∧ WL w' (fun b => T b ∨ w.heap.size ≤ b ∧ b ≠ bl ∧ nv'.ownBlock ≠ some b ∧ dv'.ownBlock ≠ some b) lw ws2 ∧ Kept (fun b => T b ∨ b = bl ∨ dv.ownBlock = some b ∨ nv.ownBlock = some b) w w' ∧
    (dv'.ownBlock = dv.ownBlock ∨ ∃ b, dv'.ownBlock = some b ∧ w.heap.size ≤ b) ∧ (nv'.ownBlock = nv.ownBlock ∨ ∃ b, nv'.ownBlock = some b ∧ w.heap.size ≤ b)
theorem IsB.kept {w w' : World} {bl lw base : Nat} {k s : Int} {nulls : List Bool} {data ends : List Int} {nv dv ev : Value} {S : Nat → Prop} (h : IsB w bl lw base k s nulls data ends nv dv ev) (hk : Kept S w w') (h1 : ¬ S bl) (h3 : ∀ b, nv.ownBlock = some b ∨ dv.ownBlock = some b ∨ ev.ownBlock = some b → ¬ S b) (hl : ∃ mv : Value × Value, w'.heap[lw]? = some (.cells #[mv.1, mv.2] 212 (0, 0))) : IsB w' bl lw base k s nulls data ends nv dv ev :=
  ⟨(hk.block _ (lt_of_blk h.blk) h1).trans h.blk, hl, h.bbl, h.blw, h.nulls.kept hk (fun b e => h3 b (.inl e)), h.data.kept hk (fun b e => h3 b (.inr (.inl e))), h.ends.kept hk (fun b e => h3 b (.inr (.inr e)))⟩
theorem WL.lst {w : World} {T : Nat → Prop} {lw : Nat} {ws : List (List Int)} (h : WL w T lw ws) : ∃ mv : Value × Value, w.heap[lw]? = some (.cells #[mv.1, mv.2] 212 (0, 0)) := by
  obtain ⟨wv, mb, vals, D, h⟩ := h
  exact ⟨(_, _), h.blk⟩
theorem addC_done {w w3 w4 w9 : World} {bl lw : Nat} {s : Int} {T T3 : Nat → Prop} {nulls : List Bool} {data ends : List Int} {ws2 : List (List Int)} {nv dv ev dv' nv' : Value} {X : Nat} {nl : Bool} {o : Obj}
    (h : IsB w bl lw 0 16 s nulls data ends nv dv ev) (hTs : ∀ b, T b → b ≠ bl ∧ nv.ownBlock ≠ some b ∧ dv.ownBlock ≠ some b) (k3 : Kept T w w3) (hL : WL w3 T3 lw ws2) (h3 : ∀ b, T3 b → b < w3.heap.size → T b ∨ w.heap.size ≤ b)
    (k4 : Kept (fun b => b = bl ∨ dv.ownBlock = some b) w3 w4) (o4 : dv'.ownBlock = dv.ownBlock ∨ ∃ b, dv'.ownBlock = some b ∧ w3.heap.size ≤ b)
    (h9 : IsB w9 bl lw 0 16 s (nulls ++ [nl]) (data ++ lows X 4) ends nv' dv' ev ∧ Kept (fun b => b = bl ∨ nv.ownBlock = some b) w4 w9) (a9 : nv'.ownBlock = nv.ownBlock ∨ ∃ b, nv'.ownBlock = some b ∧ (w4.alloc o).drew.heap.size ≤ b) :
    ∃ nv' dv', IsB w9 bl lw 0 16 s (nulls ++ [nl]) (data ++ lows X 4) ends nv' dv' ev ∧ WL w9 (fun b => T b ∨ w.heap.size ≤ b ∧ b ≠ bl ∧ nv'.ownBlock ≠ some b ∧ dv'.ownBlock ≠ some b) lw ws2 ∧ Kept (fun b => T b ∨ b = bl ∨ dv.ownBlock = some b ∨ nv.ownBlock = some b) w w9 ∧
    (dv'.ownBlock = dv.ownBlock ∨ ∃ b, dv'.ownBlock = some b ∧ w.heap.size ≤ b) ∧ (nv'.ownBlock = nv.ownBlock ∨ ∃ b, nv'.ownBlock = some b ∧ w.heap.size ≤ b) := by
  have hbl := lt_of_blk h.blk
  have hs3 := k3.size
  have hs4 := k4.size
  have e4 : (w4.alloc o).drew.heap.size = w4.heap.size + 1 := by show (w4.alloc o).heap.size = _; simp
  have hnb : ∀ b, T3 b → b < w3.heap.size → b ≠ bl ∧ nv.ownBlock ≠ some b ∧ dv.ownBlock ≠ some b := fun b ht hb => by
    rcases h3 b ht hb with h1 | h1
    · exact hTs b h1
    · exact ⟨by omega, fun e => by have := (h.nulls.lt _ e).2; omega, fun e => by have := (h.data.lt _ e).2; omega⟩
  have hL2 : WL w3 (fun b => T3 b ∧ b < w3.heap.size) lw ws2 := hL.mono (fun b h1 h2 => ⟨h1, h2⟩)
  have hL4 := hL2.kept k4 (fun b ht _ => (fun e => e.elim (hnb b ht.1 ht.2).1 (hnb b ht.1 ht.2).2.2))
  have hL9 := hL4.kept h9.2 (fun b ht _ => (fun e => e.elim (hnb b ht.1 ht.2).1 (hnb b ht.1 ht.2).2.1))
  refine ⟨nv', dv', h9.1, hL9.mono (fun b ht _ => ?_), ?_, ?_, ?_⟩
  · rcases h3 b ht.1 ht.2 with h1 | h1
    · exact .inl h1
    · refine .inr ⟨h1, (hnb b ht.1 ht.2).1, fun e => ?_, fun e => ?_⟩
      · rcases a9 with e' | ⟨b', e', h'⟩
        · exact (hnb b ht.1 ht.2).2.1 (e' ▸ e)
        · rw [e'] at e; cases e; have := ht.2; omega
      · rcases o4 with e' | ⟨b', e', h'⟩
        · exact (hnb b ht.1 ht.2).2.2 (e' ▸ e)
        · rw [e'] at e; cases e; have := ht.2; omega
  · refine ((k3.mono (T := fun b => T b ∨ b = bl ∨ dv.ownBlock = some b ∨ nv.ownBlock = some b) (fun b e _ => .inl e)).trans k4 ?_).trans h9.2 ?_
    · rintro b (e | e) _
      · exact .inr (.inl e)
      · exact .inr (.inr (.inl e))
    · rintro b (e | e) _
      · exact .inr (.inl e)
      · exact .inr (.inr (.inr e))
  · exact o4.imp id (fun ⟨b, e, h⟩ => ⟨b, e, by omega⟩)
  · exact a9.imp id (fun ⟨b, e, h⟩ => ⟨b, e, by omega⟩)
theorem add_coded_null (bl lw : Nat) (s : Int) (T : Nat → Prop) (nulls : List Bool) (data ends : List Int) (ws : List (List Int)) (nv dv ev : Value) (bits : Int) (ta : Option Addr) (tn tc : Nat) (hl : data.length ≤ 100000000) (hl2 : nulls.length ≤ 100000000) (w : World) (h : IsB w bl lw 0 16 s nulls data ends nv dv ev) (hL : WL w T lw ws) (hTs : ∀ b, T b → b ≠ bl ∧ nv.ownBlock ≠ some b ∧ dv.ownBlock ≠ some b) :
    Calls Tryz.prog 72 #[.pointer (some ⟨bl, 0, none⟩), .agg #[.int .u64 bits, .slice ta tn tc, .bool true]] w (AddCP bl lw s T nulls data ends ws nv dv ev 0 ws true w) := by
  have hbs := lt_of_blk h.blk
  have hc0 := cell_blk (k := 0) h.blk
  have hc1 := cell_blk (k := 1) h.blk
  simp at hc0 hc1
  have H0 := Aside.mk h
  have HL := Aside.mk hL
  have HTS := Aside.mk hTs
  clear h hL hTs
  have ta1 := assert_running3
  have ta2 := assert_coded3
  go_enter Tryz.func72, Tryz.ntmps72
  go_wp2_with (first | (go_at_call 86; refine (of_coded s _).mono ?_; rintro e w1 ⟨rfl, rfl⟩))
  have B3 : Below w.heap.size w (((w.alloc (.cells #[.int .u64 bits, .slice ta tn tc, .bool true] 145)).alloc (.cells #[.int .i64 16, .int .i64 s] 23)).alloc (.cells #[.int .i64 4] 167)) := (((Below.refl _ _).alloc (Nat.le_refl _) _).alloc (by simp) _).alloc (by simp; omega) _
  have hv3 : (((w.alloc (.cells #[.int .u64 bits, .slice ta tn tc, .bool true] 145)).alloc (.cells #[.int .i64 16, .int .i64 s] 23)).alloc (.cells #[.int .i64 4] 167)).heap[w.heap.size]? = some (.cells #[.int .u64 bits, .slice ta tn tc, .bool true] 145 (0, 0)) := by
    rw [Below.heap_alloc _ _ _ (by simp; omega), Below.heap_alloc _ _ _ (by simp)]
    exact heap_alloc_new _ _
  have hb3 : (((w.alloc (.cells #[.int .u64 bits, .slice ta tn tc, .bool true] 145)).alloc (.cells #[.int .i64 16, .int .i64 s] 23)).alloc (.cells #[.int .i64 4] 167)).heap[w.heap.size + 1 + 1]? = some (.cells #[.int .i64 4] 167 (0, 0)) := by
    simpa using heap_alloc_new ((w.alloc (.cells #[.int .u64 bits, .slice ta tn tc, .bool true] 145)).alloc (.cells #[.int .i64 16, .int .i64 s] 23)) (.cells #[.int .i64 4] 167)
  generalize hw3 : (((w.alloc (.cells #[.int .u64 bits, .slice ta tn tc, .bool true] 145)).alloc (.cells #[.int .i64 16, .int .i64 s] 23)).alloc (.cells #[.int .i64 4] 167)) = w3 at *
  clear hw3
  have H3 := Aside.mk (H0.out.below B3)
  have HV3 := Aside.mk hv3
  have HB3 := Aside.mk hb3
  have BB3 := Aside.mk B3
  have K3 := Aside.mk (show Kept T w w3 from Kept.of_below B3)
  have L3 := Aside.mk (HL.out.below B3)
  have N3 := Aside.mk (show ∀ b, T b → b < w3.heap.size → T b ∨ w.heap.size ≤ b from fun b h _ => .inl h)
  clear B3 hv3 hb3 hc0 hc1 ta1 ta2
  refine (word_any bl lw 0 16 s nulls data ends nv dv ev 0 4 (by decide) (by omega) hl w3 H3.out (Nat.zero_le _)).mono ?_
  rintro e w4 ⟨rfl, dv', h4, k4, o4⟩
  have hdlt := H0.out.data.lt
  have hvb := lt_of_blk HV3.out
  have hv4 := (k4.block w.heap.size hvb (by
    rintro (e | e)
    · omega
    · have := (hdlt _ e).2; omega)).trans HV3.out
  have hcv := cell_blk (k := 2) hv4
  have hcn := cell_blk (k := 2) h4.blk
  have hfn := frozen_blk (k := 2) h4.blk
  simp at hcv hcn
  obtain ⟨a1, c1, rfl⟩ := h4.nulls.form
  have hbs4 := lt_of_blk h4.blk
  have H4 := Aside.mk h4
  have K4 := Aside.mk k4
  have O4 := Aside.mk o4
  have HV4 := Aside.mk hv4
  clear h4 k4 o4 hdlt hv4 hvb
  generalize hm : nulls.length = m at *
  have HM := Aside.mk hm
  clear hm
  go_wp2_with (fail)
  have hown := Aside.mk (own_in (o := .cells #[.bool true] 4) H4.out HM.out)
  have hsrc := Aside.mk (src_one_drew (P := Tryz.prog) (w := w4) Tryz.underlying140 w4.heap.size (.bool true) 4 rfl rfl)
  have h63 := Aside.mk (show m + 1 ≤ maxLen by unfold maxLen; omega)
  have hby := Aside.mk (show (m + 1) * 1 ≤ 140737488355328 by omega)
  go_region_law ((refine step_app (P := Tryz.prog) ((w4.alloc (.cells #[.bool true] 4)).drew) (by rfl) (.tmp 74) (.tmp 77) 140 140 (by rfl) 0 4 (.bool false) 1 1 Tryz.underlying140 boolinfo (by rfl) (.slice a1 m c1) m (nulls.map .bool) (by rfl) hown.out (.slice (some ⟨w4.heap.size, 0, none⟩) 1 1) 1 [.bool true] (by rfl) hsrc.out h63.out hby.out (Nat.zero_le _) ?_; intro v' w5 hown' hgrow _ hat; obtain ⟨a5, c5, rfl⟩ := hown'.form; have hc5 := cell_blk (k := 2) (blk_grown H4.out hgrow); have hf5 := frozen_blk (k := 2) (blk_grown H4.out hgrow); simp at hc5; have HH := Aside.mk (isB_grown H4.out HM.out hgrow hown'); have HAT := Aside.mk hat; clear hown' hgrow hat))
  all_goals
    go_wp2
    refine bodyPost_ret (v := .tuple #[]) (by simp [results, Tryz.results72, go_sem]) rfl ?_
    exact ⟨rfl, addC_done H0.out HTS.out K3.out L3.out N3.out K4.out O4.out HH.out HAT.out⟩
theorem add_coded_word (bl lw : Nat) (s : Int) (T : Nat → Prop) (nulls : List Bool) (data ends : List Int) (ws : List (List Int)) (nv dv ev : Value) (bits : Int) (tx : List Int) (ta : Option Addr) (tc : Nat) (hl : data.length ≤ 100000000) (hl2 : nulls.length ≤ 100000000) (hlw : ws.length ≤ 100000000) (htb : IsBytes tx) (htl : tx.length ≤ 100000000) (w : World) (h : IsB w bl lw 0 16 s nulls data ends nv dv ev) (hL : WL w T lw ws) (hTs : ∀ b, T b → b ≠ bl ∧ nv.ownBlock ≠ some b ∧ dv.ownBlock ≠ some b) (hTe : ∀ b, T b → ev.ownBlock ≠ some b) (hrt : Rd w 1 (.slice ta tx.length tc) tx.length (tx.map (.int .u8))) :
    Calls Tryz.prog 72 #[.pointer (some ⟨bl, 0, none⟩), .agg #[.int .u64 bits, .slice ta tx.length tc, .bool false]] w (AddCP bl lw s T nulls data ends ws nv dv ev (codeOf ws tx) (addWord ws tx) false w) := by
  have hbs := lt_of_blk h.blk
  have hc0 := cell_blk (k := 0) h.blk
  have hc1 := cell_blk (k := 1) h.blk
  simp at hc0 hc1
  have hcb : codeOf ws tx ≤ 100000000 := Nat.le_trans (codeOf_le ws tx) hlw
  have H0 := Aside.mk h
  have HL := Aside.mk hL
  have HTS := Aside.mk hTs
  have HTE := Aside.mk hTe
  have HRT := Aside.mk hrt
  have HTB := Aside.mk htb
  clear h hL hTs hTe hrt htb
  generalize htn : tx.length = tn at *
  have HTN := Aside.mk htn
  clear htn
  have ta1 := assert_running3
  have ta2 := assert_coded3
  go_enter Tryz.func72, Tryz.ntmps72
  go_wp2_with (first | (go_at_call 86; refine (of_coded s _).mono ?_; rintro e w1 ⟨rfl, rfl⟩))
  have B3 : Below w.heap.size w (((w.alloc (.cells #[.int .u64 bits, .slice ta tn tc, .bool false] 145)).alloc (.cells #[.int .i64 16, .int .i64 s] 23)).alloc (.cells #[.int .i64 4] 167)) := (((Below.refl _ _).alloc (Nat.le_refl _) _).alloc (by simp) _).alloc (by simp; omega) _
  have hv3 : (((w.alloc (.cells #[.int .u64 bits, .slice ta tn tc, .bool false] 145)).alloc (.cells #[.int .i64 16, .int .i64 s] 23)).alloc (.cells #[.int .i64 4] 167)).heap[w.heap.size]? = some (.cells #[.int .u64 bits, .slice ta tn tc, .bool false] 145 (0, 0)) := by
    rw [Below.heap_alloc _ _ _ (by simp; omega), Below.heap_alloc _ _ _ (by simp)]
    exact heap_alloc_new _ _
  have hb3 : (((w.alloc (.cells #[.int .u64 bits, .slice ta tn tc, .bool false] 145)).alloc (.cells #[.int .i64 16, .int .i64 s] 23)).alloc (.cells #[.int .i64 4] 167)).heap[w.heap.size + 1 + 1]? = some (.cells #[.int .i64 4] 167 (0, 0)) := by
    simpa using heap_alloc_new ((w.alloc (.cells #[.int .u64 bits, .slice ta tn tc, .bool false] 145)).alloc (.cells #[.int .i64 16, .int .i64 s] 23)) (.cells #[.int .i64 4] 167)
  generalize hw3 : (((w.alloc (.cells #[.int .u64 bits, .slice ta tn tc, .bool false] 145)).alloc (.cells #[.int .i64 16, .int .i64 s] 23)).alloc (.cells #[.int .i64 4] 167)) = w3 at *
  clear hw3
  have H3 := Aside.mk (H0.out.below B3)
  have HV3 := Aside.mk hv3
  have HB3 := Aside.mk hb3
  have BB3 := Aside.mk B3
  have HL3 := Aside.mk (show WL w3.drew (fun b => T b ∧ b < w.heap.size) lw ws from ((HL.out.mono (T' := fun b => T b ∧ b < w.heap.size) (fun b h1 h2 => ⟨h1, h2⟩)).below B3).below (below_drewN _ _ 1))
  have hcode := Aside.mk (show Calls Tryz.prog 134 #[.pointer (some ⟨lw, 0, none⟩), .slice ta tn tc] w3.drew (CodeP (fun b => T b ∧ b < w.heap.size) lw ws tx w3.drew) by
    have := code_any (fun b => T b ∧ b < w.heap.size) lw ws tx ta tc HTB.out (by rw [HTN.out]; exact htl) hlw w3.drew HL3.out (by rw [HTN.out]; exact (HRT.out.below B3).below (below_drewN _ _ 1))
    rw [HTN.out] at this
    exact this)
  have hc5 := cell_blk (k := 5) H3.out.blk
  have hct := cell_blk (k := 1) HV3.out
  simp at hc5 hct
  have HCE := Aside.mk (show codeOf ws tx = codeOf ws tx from rfl)
  clear B3 hv3 hb3 hc0 hc1 ta1 ta2
  go_region_law ((refine step_call (P := Tryz.prog) w3.drew (by rfl) 134 [.tmp 51, .tmp 53] _ (by rfl) [.pointer (some ⟨lw, 0, none⟩), .slice ta tn tc] (by rfl) (fun _ _ => rfl) hcode.out ?_; rintro e wc ⟨rfl, hlc, hkc⟩; have HLC := Aside.mk hlc; have HKC := Aside.mk (show Kept (fun b => T b ∧ b < w.heap.size) w3 wc from ⟨hkc.os, hkc.tape, hkc.output, hkc.size, hkc.block⟩); clear hlc hkc; have hbc := (HKC.out.block (w.heap.size + 1 + 1) (lt_of_blk HB3.out) (fun h => by have := h.2; omega)).trans HB3.out; have hcw := cell_blk (k := 0) hbc; simp at hcw; clear hbc; refine ⟨_, rfl, ?_⟩))
  all_goals
    have H3C := Aside.mk (show IsB wc bl lw 0 16 s nulls data ends nv dv ev from H3.out.kept HKC.out (fun h => (HTS.out _ h.1).1 rfl) (fun b hb h => by
      rcases hb with e | e | e
      · exact (HTS.out _ h.1).2.1 e
      · exact (HTS.out _ h.1).2.2 e
      · exact HTE.out _ h.1 e) HLC.out.lst)
    have HV3C := Aside.mk ((HKC.out.block w.heap.size (lt_of_blk HV3.out) (fun h => by have := h.2; omega)).trans HV3.out)
    have K3 := Aside.mk (show Kept T w wc from (Kept.of_below BB3.out).trans HKC.out (fun b h _ => h.1))
    have hsz3 := BB3.out.size
    have N3 := Aside.mk (show ∀ b, ((T b ∧ b < w.heap.size) ∨ w3.drew.heap.size ≤ b) → b < wc.heap.size → T b ∨ w.heap.size ≤ b from fun b h _ => h.elim (fun h => .inl h.1) (fun h => .inr (Nat.le_trans hsz3 h)))
    have L3 := HLC
    clear hc5 hct
    go_wp2_with fail
    refine (word_any bl lw 0 16 s nulls data ends nv dv ev (codeOf ws tx) 4 (by decide) (by omega) hl wc H3C.out (Nat.zero_le _)).mono ?_
    rintro e w4 ⟨rfl, dv', h4, k4, o4⟩
    have hdlt := H0.out.data.lt
    have hvb := lt_of_blk HV3C.out
    have hv4 := (k4.block w.heap.size hvb (by
      rintro (e | e)
      · omega
      · have := (hdlt _ e).2; omega)).trans HV3C.out
    have hcv := cell_blk (k := 2) hv4
    have hcn := cell_blk (k := 2) h4.blk
    have hfn := frozen_blk (k := 2) h4.blk
    simp at hcv hcn
    obtain ⟨a1, c1, rfl⟩ := h4.nulls.form
    have hbs4 := lt_of_blk h4.blk
    have H4 := Aside.mk h4
    have K4 := Aside.mk k4
    have O4 := Aside.mk o4
    have HV4 := Aside.mk hv4
    clear h4 k4 o4 hdlt hv4 hvb
    generalize hm : nulls.length = m at *
    have HM := Aside.mk hm
    clear hm
    go_wp2_with (fail)
    have hown := Aside.mk (own_in (o := .cells #[.bool false] 4) H4.out HM.out)
    have hsrc := Aside.mk (src_one_drew (P := Tryz.prog) (w := w4) Tryz.underlying140 w4.heap.size (.bool false) 4 rfl rfl)
    have h63 := Aside.mk (show m + 1 ≤ maxLen by unfold maxLen; omega)
    have hby := Aside.mk (show (m + 1) * 1 ≤ 140737488355328 by omega)
    go_region_law ((refine step_app (P := Tryz.prog) ((w4.alloc (.cells #[.bool false] 4)).drew) (by rfl) (.tmp 74) (.tmp 77) 140 140 (by rfl) 0 4 (.bool false) 1 1 Tryz.underlying140 boolinfo (by rfl) (.slice a1 m c1) m (nulls.map .bool) (by rfl) hown.out (.slice (some ⟨w4.heap.size, 0, none⟩) 1 1) 1 [.bool false] (by rfl) hsrc.out h63.out hby.out (Nat.zero_le _) ?_; intro v' w5 hown' hgrow _ hat; obtain ⟨a5, c5, rfl⟩ := hown'.form; have hc5 := cell_blk (k := 2) (blk_grown H4.out hgrow); have hf5 := frozen_blk (k := 2) (blk_grown H4.out hgrow); simp at hc5; have HH := Aside.mk (isB_grown H4.out HM.out hgrow hown'); have HAT := Aside.mk hat; clear hown' hgrow hat))
    all_goals
      go_wp2
      refine bodyPost_ret (v := .tuple #[]) (by simp [results, Tryz.results72, go_sem]) rfl ?_
      exact ⟨rfl, addC_done H0.out HTS.out K3.out L3.out N3.out K4.out O4.out HH.out HAT.out⟩
end Go.Proofs.YtmhjjhaipcgbiaaGreat


namespace Go.Proofs.YtmhjjhaipcgbiaaGreat
open Go.RowKit
set_option linter.unusedVariables false
set_option linter.unusedSimpArgs false
set_option maxRecDepth 100000
set_option maxHeartbeats 8000000
theorem IsB.app_data0 {wr w5 : World} {bl lw base : Nat} {k s : Int} {nulls : List Bool} {data data' ends : List Int} {nv dv dv' ev : Value} (h : IsB wr bl lw base k s nulls data ends nv dv ev) (hg : wr.grownBy w5 dv.ownBlock) (hown : Own w5 base 5 1 dv' data'.length (data'.map (.int .u8))) :
    IsB (w5.setCell ⟨bl, 3, none⟩ dv') bl lw base k s nulls data' ends nv dv' ev ∧ Kept (fun b => b = bl ∨ dv.ownBlock = some b) wr (w5.setCell ⟨bl, 3, none⟩ dv') := by
  have K1 : Kept (fun b => some b = dv.ownBlock) wr w5 := Kept.of_grown hg
  have hbl := lt_of_blk h.blk
  have nb : dv.ownBlock ≠ some bl := h.data.blk_ne h.blk (by decide)
  have hb5 := (K1.block bl hbl (fun e => nb e.symm)).trans h.blk
  obtain ⟨mv, hl⟩ := h.lst
  have nl : dv.ownBlock ≠ some lw := h.data.blk_ne hl (by decide)
  have hl5 := (K1.block lw (lt_of_blk hl) (fun e => nl e.symm)).trans hl
  have hne : bl ≠ lw := blk_ne h.blk hl (by decide)
  have hn5 : Own w5 base 4 1 nv nulls.length (nulls.map .bool) := h.nulls.kept K1 (fun k hk e => own_ne_own h.nulls h.data (by decide) k hk e.symm)
  have he5 : Own w5 base 3 1 ev ends.length (ends.map (.int .i64)) := h.ends.kept K1 (fun k hk e => own_ne_own h.ends h.data (by decide) k hk e.symm)
  refine ⟨⟨?_, ⟨mv, ?_⟩, h.bbl, h.blw, ?_, ?_, ?_⟩, ?_⟩
  · have := heap_setCell_at (k := 3) hb5 dv'
    simpa using this
  · rw [Below.heap_setCell _ _ _ _ (fun e => hne e.symm)]; exact hl5
  · exact hn5.set_other (hn5.blk_ne hb5 (by decide)) _
  · exact hown.set_other (hown.blk_ne hb5 (by decide)) _
  · exact he5.set_other (he5.blk_ne hb5 (by decide)) _
  · exact (K1.mono (fun k e _ => .inr e.symm)).trans (Kept.setCell _ _ _) (fun k e _ => .inl e)
theorem IsB.app_ends {wr w5 : World} {bl lw base : Nat} {k s : Int} {nulls : List Bool} {data ends ends' : List Int} {nv dv ev ev' : Value} (h : IsB wr bl lw base k s nulls data ends nv dv ev) (hg : wr.grownBy w5 ev.ownBlock) (hown : Own w5 base 3 1 ev' ends'.length (ends'.map (.int .i64))) :
    IsB (w5.setCell ⟨bl, 4, none⟩ ev') bl lw base k s nulls data ends' nv dv ev' ∧ Kept (fun b => b = bl ∨ ev.ownBlock = some b) wr (w5.setCell ⟨bl, 4, none⟩ ev') := by
  have K1 : Kept (fun b => some b = ev.ownBlock) wr w5 := Kept.of_grown hg
  have hbl := lt_of_blk h.blk
  have nb : ev.ownBlock ≠ some bl := h.ends.blk_ne h.blk (by decide)
  have hb5 := (K1.block bl hbl (fun e => nb e.symm)).trans h.blk
  obtain ⟨mv, hl⟩ := h.lst
  have nl : ev.ownBlock ≠ some lw := h.ends.blk_ne hl (by decide)
  have hl5 := (K1.block lw (lt_of_blk hl) (fun e => nl e.symm)).trans hl
  have hne : bl ≠ lw := blk_ne h.blk hl (by decide)
  have hn5 : Own w5 base 4 1 nv nulls.length (nulls.map .bool) := h.nulls.kept K1 (fun k hk e => own_ne_own h.nulls h.ends (by decide) k hk e.symm)
  have hd5 : Own w5 base 5 1 dv data.length (data.map (.int .u8)) := h.data.kept K1 (fun k hk e => own_ne_own h.data h.ends (by decide) k hk e.symm)
  refine ⟨⟨?_, ⟨mv, ?_⟩, h.bbl, h.blw, ?_, ?_, ?_⟩, ?_⟩
  · have := heap_setCell_at (k := 4) hb5 ev'
    simpa using this
  · rw [Below.heap_setCell _ _ _ _ (fun e => hne e.symm)]; exact hl5
  · exact hn5.set_other (hn5.blk_ne hb5 (by decide)) _
  · exact hd5.set_other (hd5.blk_ne hb5 (by decide)) _
  · exact hown.set_other (hown.blk_ne hb5 (by decide)) _
  · exact (K1.mono (fun k e _ => .inr e.symm)).trans (Kept.setCell _ _ _) (fun k e _ => .inl e)
theorem intinfo2 : (Tryz.prog.info? 3).map (fun i => (i.zero, i.size, i.bytes)) = some (some (.int .i64 0), 1, 8) := by kernel_rfl
theorem assert_running2 (v : Value) (w : World) : (Instr.typeAssert (.iface 162 v) 159 162 true).run Tryz.prog w = .ok (.tuple #[v, .bool true]) w := by kernel_rfl
def AddTP (bl lw base : Nat) (s : Int) (nulls : List Bool) (data : List Int) (ends : List Int) (nv dv ev : Value) (tx : List Int) (nl : Bool) (w : World) (e : Ending) (w' : World) : Prop :=
  e = .returned (.tuple #[]) ∧ ∃ nv' dv' ev', IsB w' bl lw base 15 s (nulls ++ [nl]) (data ++ tx) (ends ++ [((data ++ tx).length : Int)]) nv' dv' ev' ∧ Kept (fun b => b = bl ∨ dv.ownBlock = some b ∨ nv.ownBlock = some b ∨ ev.ownBlock = some b) w w' ∧
    (dv'.ownBlock = dv.ownBlock ∨ ∃ b, dv'.ownBlock = some b ∧ w.heap.size ≤ b) ∧ (nv'.ownBlock = nv.ownBlock ∨ ∃ b, nv'.ownBlock = some b ∧ w.heap.size ≤ b) ∧ (ev'.ownBlock = ev.ownBlock ∨ ∃ b, ev'.ownBlock = some b ∧ w.heap.size ≤ b)
theorem addT_done {w w3 w5 w6 w8 w9 : World} {bl lw base : Nat} {s : Int} {nulls : List Bool} {data ends tx : List Int} {nl : Bool} {nv dv ev dv5 ev7 nv9 : Value} {o6 o8 : Obj}
    (hs3 : w.heap.size ≤ w3.heap.size) (b3 : Below w.heap.size w w3) (hg5 : w3.drew.grownBy w5 dv.ownBlock) (a5 : dv5.ownBlock = dv.ownBlock ∨ ∃ b, dv5.ownBlock = some b ∧ w3.drew.heap.size ≤ b)
    (h5 : IsB w6 bl lw base 15 s nulls (data ++ tx) ends nv dv5 ev ∧ Kept (fun b => b = bl ∨ dv.ownBlock = some b) w3.drew w6) (hs6 : w3.heap.size ≤ w6.heap.size)
    (a7 : ev7.ownBlock = ev.ownBlock ∨ ∃ b, ev7.ownBlock = some b ∧ (w6.alloc o6).drew.heap.size ≤ b)
    (h7 : IsB w8 bl lw base 15 s nulls (data ++ tx) (ends ++ [((data ++ tx).length : Int)]) nv dv5 ev7 ∧ Kept (fun b => b = bl ∨ ev.ownBlock = some b) ((w6.alloc o6).drewN 1) w8)
    (k8 : Kept (fun b => b = bl ∨ dv.ownBlock = some b ∨ ev.ownBlock = some b) w3 w8)
    (h9 : IsB w9 bl lw base 15 s (nulls ++ [nl]) (data ++ tx) (ends ++ [((data ++ tx).length : Int)]) nv9 dv5 ev7 ∧ Kept (fun b => b = bl ∨ nv.ownBlock = some b) w8 w9)
    (a9 : nv9.ownBlock = nv.ownBlock ∨ ∃ b, nv9.ownBlock = some b ∧ (w8.alloc o8).drew.heap.size ≤ b) :
    ∃ nv' dv' ev', IsB w9 bl lw base 15 s (nulls ++ [nl]) (data ++ tx) (ends ++ [((data ++ tx).length : Int)]) nv' dv' ev' ∧ Kept (fun b => b = bl ∨ dv.ownBlock = some b ∨ nv.ownBlock = some b ∨ ev.ownBlock = some b) w w9 ∧
    (dv'.ownBlock = dv.ownBlock ∨ ∃ b, dv'.ownBlock = some b ∧ w.heap.size ≤ b) ∧ (nv'.ownBlock = nv.ownBlock ∨ ∃ b, nv'.ownBlock = some b ∧ w.heap.size ≤ b) ∧ (ev'.ownBlock = ev.ownBlock ∨ ∃ b, ev'.ownBlock = some b ∧ w.heap.size ≤ b) := by
  have hs8 := k8.size
  have e3 : w3.drew.heap.size = w3.heap.size := rfl
  have e6 : (w6.alloc o6).drew.heap.size = w6.heap.size + 1 := by show (w6.alloc o6).heap.size = _; simp
  have e8 : (w8.alloc o8).drew.heap.size = w8.heap.size + 1 := by show (w8.alloc o8).heap.size = _; simp
  refine ⟨nv9, dv5, ev7, h9.1, ?_, ?_, ?_, ?_⟩
  · refine ((Kept.of_below b3).trans k8 ?_).trans h9.2 ?_
    · rintro b (e | e | e) _
      · exact .inl e
      · exact .inr (.inl e)
      · exact .inr (.inr (.inr e))
    · rintro b (e | e) _
      · exact .inl e
      · exact .inr (.inr (.inl e))
  · exact a5.imp id (fun ⟨b, e, h⟩ => ⟨b, e, by omega⟩)
  · exact a9.imp id (fun ⟨b, e, h⟩ => ⟨b, e, by omega⟩)
  · exact a7.imp id (fun ⟨b, e, h⟩ => ⟨b, e, by omega⟩)
theorem add_running (bl lw base : Nat) (s : Int) (nulls : List Bool) (data : List Int) (ends : List Int) (nv dv ev : Value) (bits : Int) (ta : Option Addr) (tn tc : Nat) (tx : List Int) (nl : Bool) (hl : data.length + tx.length ≤ 100000000) (hl2 : nulls.length ≤ 100000000) (hl3 : ends.length ≤ 100000000) (w : World) (h : IsB w bl lw base 15 s nulls data ends nv dv ev) (hb : base ≤ w.heap.size) (ht : Rd w 1 (.slice ta tn tc) tn (tx.map (.int .u8))) (htn : tx.length = tn) :
    Calls Tryz.prog 72 #[.pointer (some ⟨bl, 0, none⟩), .agg #[.int .u64 bits, .slice ta tn tc, .bool nl]] w (AddTP bl lw base s nulls data ends nv dv ev tx nl w) := by
  have hbs := lt_of_blk h.blk
  have hc0 := cell_blk (k := 0) h.blk
  have hc1 := cell_blk (k := 1) h.blk
  have hc3 := cell_blk (k := 3) h.blk
  have hf3 := frozen_blk (k := 3) h.blk
  simp at hc0 hc1 hc3
  have H0 := Aside.mk h
  have HT := Aside.mk (And.intro ht htn)
  clear h ht
  have ta1 := assert_running2
  go_enter Tryz.func72, Tryz.ntmps72
  go_wp2_with (first | (go_at_call 86; refine (of_running s _).mono ?_; rintro e w1 ⟨rfl, rfl⟩))
  have B3 : Below w.heap.size w (((w.alloc (.cells #[.int .u64 bits, .slice ta tn tc, .bool nl] 145)).alloc (.cells #[.int .i64 15, .int .i64 s] 23)).alloc (.cells #[] 162)) := (((Below.refl _ _).alloc (Nat.le_refl _) _).alloc (by simp) _).alloc (by simp; omega) _
  have hv3 : ((((w.alloc (.cells #[.int .u64 bits, .slice ta tn tc, .bool nl] 145)).alloc (.cells #[.int .i64 15, .int .i64 s] 23)).alloc (.cells #[] 162))).heap[w.heap.size]? = some (.cells #[.int .u64 bits, .slice ta tn tc, .bool nl] 145 (0, 0)) := by
    rw [Below.heap_alloc _ _ _ (by simp; omega), Below.heap_alloc _ _ _ (by simp)]
    exact heap_alloc_new _ _
  generalize hw3 : (((w.alloc (.cells #[.int .u64 bits, .slice ta tn tc, .bool nl] 145)).alloc (.cells #[.int .i64 15, .int .i64 s] 23)).alloc (.cells #[] 162)) = w3 at *
  clear hw3 hc0 hc1 hc3 hf3 ta1
  have hs3 := B3.size
  have H3 := Aside.mk (H0.out.below B3)
  have hc3 := cell_blk (k := 3) H3.out.blk
  have hf3 := frozen_blk (k := 3) H3.out.blk
  have hcv := cell_blk (k := 1) hv3
  simp at hc3 hcv
  obtain ⟨a1, c1, rfl⟩ := H3.out.data.form
  have hown := Aside.mk (show Own w3.drew base 5 1 (.slice a1 data.length c1) data.length (data.map (.int .u8)) from H3.out.data)
  have hsrc := Aside.mk ((show Rd w3.drew 1 (.slice ta tn tc) tn (tx.map (.int .u8)) from HT.out.1.below (B3.trans (below_drewN w3 _ 1))).src (tx := 43) (P := Tryz.prog) Tryz.underlying43 (fun u hu => by obtain ⟨x, _, rfl⟩ := List.mem_map.1 hu; rfl))
  have hbase := Aside.mk (show base ≤ w3.drew.heap.size from Nat.le_trans hb hs3)
  have h63 := Aside.mk (show data.length + tn ≤ maxLen by unfold maxLen; omega)
  have hby := Aside.mk (show (data.length + tn) * 1 ≤ 140737488355328 by omega)
  have HB3 := Aside.mk B3
  have HV3 := Aside.mk hv3
  clear B3 hv3
  go_region_law ((refine step_app (P := Tryz.prog) w3.drew (by rfl) (.tmp 22) (.tmp 24) 43 43 (by rfl) base 5 (.int .u8 0) 1 1 Tryz.underlying43 u8info (by rfl) (.slice a1 data.length c1) data.length (data.map (.int .u8)) (by rfl) hown.out (.slice ta tn tc) tn (tx.map (.int .u8)) (by rfl) hsrc.out h63.out hby.out hbase.out ?_; intro v' w5 hown' hgrow _ hat; obtain ⟨a5, c5, rfl⟩ := hown'.form; have hb5 := (hgrow.block bl (lt_of_blk H3.out.blk) (fun e => H3.out.data.blk_ne H3.out.blk (by decide) e.symm)).trans H3.out.blk; have hc5 := cell_blk (k := 3) hb5; have hf5 := frozen_blk (k := 3) hb5; simp at hc5; have HG := Aside.mk (And.intro hown' (And.intro hgrow hat)); clear hown' hgrow hat hb5))
  all_goals
    have hown5 : Own w5 base 5 1 (.slice a5 (data.length + tn) c5) (data ++ tx).length ((data ++ tx).map (.int .u8)) := by
      have := HG.out.1
      rw [List.length_append, List.map_append, HT.out.2]
      exact this
    have h5 := (show IsB w3.drew bl lw base 15 s nulls data ends nv (.slice a1 data.length c1) ev from H3.out.drewN 1).app_data0 HG.out.2.1 hown5
    have H5 := Aside.mk h5
    clear h5 hown5
    generalize hw6 : w5.setCell ⟨bl, 3, none⟩ (.slice a5 (data.length + tn) c5) = w6 at *
    clear hc5 hf5 hc3 hf3
    obtain ⟨ea, ec, rfl⟩ := H5.out.1.ends.form
    have hc3 := cell_blk (k := 3) H5.out.1.blk
    have hc4 := cell_blk (k := 4) H5.out.1.blk
    have hf4 := frozen_blk (k := 4) H5.out.1.blk
    simp at hc3 hc4
    have hown6 := Aside.mk (show Own (w6.alloc (.cells #[.int .i64 ((data.length : Int) + tn)] 3)).drew base 3 1 (.slice ea ends.length ec) ends.length (ends.map (.int .i64)) from (H5.out.1.ends.alloc (.cells #[.int .i64 ((data.length : Int) + tn)] 3)))
    have hsrc6 := Aside.mk (src_one_drew (P := Tryz.prog) (w := w6) Tryz.underlying61 w6.heap.size (.int .i64 ((data.length : Int) + tn)) 3 rfl rfl)
    have hbs6 : bl < w6.heap.size := lt_of_blk H5.out.1.blk
    have hs6 : w3.heap.size ≤ w6.heap.size := H5.out.2.size
    have hbase6 := Aside.mk (show base ≤ ((w6.alloc (.cells #[.int .i64 ((data.length : Int) + tn)] 3)).drew).heap.size by show base ≤ (w6.alloc _).heap.size; simp; omega)
    have h636 := Aside.mk (show ends.length + 1 ≤ maxLen by unfold maxLen; omega)
    have hby6 := Aside.mk (show (ends.length + 1) * 8 ≤ 140737488355328 by omega)
    go_wp2
    go_region_law ((refine step_app (P := Tryz.prog) ((w6.alloc (.cells #[.int .i64 ((data.length : Int) + tn)] 3)).drew) (by rfl) (.tmp 32) (.tmp 38) 61 61 (by rfl) base 3 (.int .i64 0) 1 8 Tryz.underlying61 intinfo2 (by rfl) (.slice ea ends.length ec) ends.length (ends.map (.int .i64)) (by rfl) hown6.out (.slice (some ⟨w6.heap.size, 0, none⟩) 1 1) 1 [.int .i64 ((data.length : Int) + tn)] (by rfl) hsrc6.out h636.out hby6.out hbase6.out ?_; intro v' w7 hown' hgrow _ hat; obtain ⟨a7, c7, rfl⟩ := hown'.form; have hb7 := (hgrow.block bl (Nat.lt_of_lt_of_le (lt_of_blk H5.out.1.blk) (by show _ ≤ (w6.alloc _).heap.size; simp)) (fun e => H5.out.1.ends.blk_ne H5.out.1.blk (by decide) e.symm)).trans ((Below.heap_alloc w6 (.cells #[.int .i64 ((data.length : Int) + tn)] 3) _ (lt_of_blk H5.out.1.blk)).trans H5.out.1.blk); have hc7 := cell_blk (k := 4) hb7; have hf7 := frozen_blk (k := 4) hb7; simp at hc7; have HG7 := Aside.mk (And.intro hown' (And.intro hgrow hat)); clear hown' hgrow hat hb7))
    all_goals
      have hown7 : Own w7 base 3 1 (.slice a7 (ends.length + 1) c7) (ends ++ [((data ++ tx).length : Int)]).length ((ends ++ [((data ++ tx).length : Int)]).map (.int .i64)) := by
        have := HG7.out.1
        have e : ((data ++ tx).length : Int) = (data.length : Int) + (tn : Int) := by rw [List.length_append, HT.out.2]; omega
        rw [List.length_append, List.map_append, e]
        exact this
      have h7 := ((H5.out.1.below (below_new w6 (.cells #[.int .i64 ((data.length : Int) + tn)] 3))).drewN 1).app_ends HG7.out.2.1 hown7
      have H7 := Aside.mk h7
      clear h7 hown7 hc7 hf7 hc3 hc4 hf4
      generalize hw8 : w7.setCell ⟨bl, 4, none⟩ (.slice a7 (ends.length + 1) c7) = w8 at *
      clear hw8
      have K8 : Kept (fun b => b = bl ∨ Value.ownBlock (.slice a1 data.length c1) = some b ∨ Value.ownBlock (.slice ea ends.length ec) = some b) w3 w8 :=
        ((Kept.of_below (below_drewN w3 _ 1)).trans H5.out.2 (fun b e _ => e.elim .inl (fun e => .inr (.inl e)))).trans ((Kept.of_below ((below_new w6 (.cells #[.int .i64 ((data.length : Int) + tn)] 3)).trans (below_drewN _ _ 1))).trans H7.out.2 (fun _ e _ => e)) (fun b e _ => e.elim .inl (fun e => .inr (.inr e)))
      have hv8 := (K8.block w.heap.size (lt_of_blk HV3.out) (by
        rintro (e | e | e)
        · have := lt_of_blk H0.out.blk; omega
        · have := (H0.out.data.lt _ e).2; omega
        · have := (H0.out.ends.lt _ e).2; omega)).trans HV3.out
      have HK8 := Aside.mk K8
      have hcv := cell_blk (k := 2) hv8
      simp at hcv
      obtain ⟨na, nc, rfl⟩ := H7.out.1.nulls.form
      have hcn := cell_blk (k := 2) H7.out.1.blk
      have hfn := frozen_blk (k := 2) H7.out.1.blk
      simp at hcn
      have hbs8 := lt_of_blk H7.out.1.blk
      clear hv8 K8
      generalize hm : nulls.length = m at *
      have HM := Aside.mk hm
      clear hm
      go_wp2_with (fail)
      have hown8 := Aside.mk (own_in (o := .cells #[.bool nl] 4) H7.out.1 HM.out)
      have hsrc8 := Aside.mk (src_one_drew (P := Tryz.prog) (w := w8) Tryz.underlying140 w8.heap.size (.bool nl) 4 rfl rfl)
      have hbase8 := Aside.mk (show base ≤ ((w8.alloc (.cells #[.bool nl] 4)).drew).heap.size by have := HK8.out.size; show base ≤ (w8.alloc _).heap.size; simp; omega)
      have h638 := Aside.mk (show m + 1 ≤ maxLen by unfold maxLen; omega)
      have hby8 := Aside.mk (show (m + 1) * 1 ≤ 140737488355328 by omega)
      go_region_law ((refine step_app (P := Tryz.prog) ((w8.alloc (.cells #[.bool nl] 4)).drew) (by rfl) (.tmp 74) (.tmp 77) 140 140 (by rfl) base 4 (.bool false) 1 1 Tryz.underlying140 boolinfo (by rfl) (.slice na m nc) m (nulls.map .bool) (by rfl) hown8.out (.slice (some ⟨w8.heap.size, 0, none⟩) 1 1) 1 [.bool nl] (by rfl) hsrc8.out h638.out hby8.out hbase8.out ?_; intro v' w9 hown' hgrow _ hat; obtain ⟨a9, c9, rfl⟩ := hown'.form; have hc9 := cell_blk (k := 2) (blk_grown H7.out.1 hgrow); have hf9 := frozen_blk (k := 2) (blk_grown H7.out.1 hgrow); simp at hc9; have HH := Aside.mk (isB_grown H7.out.1 HM.out hgrow hown'); have HAT := Aside.mk hat; clear hown' hgrow hat))
      all_goals
        go_wp2
        refine bodyPost_ret (v := .tuple #[]) (by simp [results, Tryz.results72, go_sem]) rfl ?_
        exact ⟨rfl, addT_done hs3 HB3.out HG.out.2.1 HG.out.2.2 H5.out hs6 HG7.out.2.2 H7.out HK8.out HH.out HAT.out⟩
end Go.Proofs.YtmhjjhaipcgbiaaGreat
