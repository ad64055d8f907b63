/- Texts of this claim, one behind the other: Twin, Words, AddC, AddT, Wakes, BS, Steps, CheckA, Built, Fit, FitsL, BuiltC, ValR, ValR0. -/
import Derived.Test.YtmhjjhaipcgbiaaSayP3
import Derived.Test.YtmhjjhaipcgbiaaSayP2
import Derived.Laws.BytesArg

/- mintagekeep.Twin, mintagekeep.Cut of bytes; noughts fit. -/
namespace Go.Proofs.Ytmhjjhaipcgbiaa
open Go.RowKit
set_option linter.unusedVariables false
set_option linter.unusedSimpArgs false
set_option maxRecDepth 100000
set_option maxHeartbeats 1000000

theorem twin_bytes (xs : List Int) (A : SL) (hl : xs.length ≤ 100000000) (w : World) (h : Rd w 1 (.slice A.a xs.length A.c) xs.length (xs.map (.int .u8))) :
    Calls Try.prog 102 #[.slice A.a xs.length A.c] w fun e w' => ∃ a c, e = .returned (.slice a xs.length c) ∧ Own w' w.heap.size 5 1 (.slice a xs.length c) xs.length (xs.map (.int .u8)) ∧ Below w.heap.size w w' := by
  have HS := Aside.mk (h.src (tx := 37) (P := Try.prog) Try.underlying37 (one_map (fun x : Int => Value.int .u8 x) (fun _ => rfl) xs))
  clear h
  go_enter Try.func102, Try.ntmps102
  go_wp2_with (at_builtin; refine wpList_app _ rfl _ _ 37 37 rfl w.heap.size 5 (.int .u8 0) 1 1 Try.underlying37 u8info rfl _ _ _ rfl (Own.nil w w.heap.size 5 1) _ xs.length (xs.map (.int .u8)) rfl HS.out (by unfold maxLen; omega) (by omega) (Nat.le_refl _) ?_)
  intro v' w5 hown' hgrow _ hat
  obtain ⟨a5, c5, rfl⟩ := hown'.form
  have HO := Aside.mk hown'
  have HB := Aside.mk (below_of_grown hgrow (Nat.le_refl _) (fun k e => by cases e))
  clear hown' hgrow hat
  go_wp2
  go_ret
  refine ⟨a5, c5, ?_, ?_, HB.out⟩
  · simp
  · simpa using HO.out

theorem cut_bytes (xs : List Int) (A : SL) (hl : xs.length ≤ 9223372036854775807) (w : World) (h : Rd w 1 (.slice A.a xs.length A.c) xs.length (xs.map (.int .u8))) :
    Calls Try.prog 103 #[.slice A.a xs.length A.c, .int .i64 40] w fun e w' => ∃ a c, e = .returned (.slice a (xs.take 40).length c) ∧ Rd w 1 (.slice a (xs.take 40).length c) (xs.take 40).length ((xs.take 40).map (.int .u8)) ∧ w = w' := by
  by_cases h40 : 40 < xs.length
  · obtain ⟨g, off, cap, e, h1, h2, hc⟩ := h.some_ (by rw [List.length_map]; omega)
    obtain ⟨aa, ac⟩ := A
    simp only [Value.slice.injEq, true_and] at e
    obtain ⟨rfl, rfl⟩ := e
    have HT := Aside.mk (rd_cut (i := 0) (j := 40) h (by omega) (by omega))
    have hlen : (xs.take 40).length = 40 := by rw [List.length_take]; omega
    rw [hlen]
    clear h hc hlen
    generalize hn : xs.length = n at *
    have HN := Aside.mk hn
    clear hn
    go_enter Try.func103, Try.ntmps103
    go_wp2
    go_ret
    refine ⟨_, _, rfl, ?_, rfl⟩
    have := HT.out
    simpa [List.map_take] using this
  · have e : xs.take 40 = xs := List.take_of_length_le (by omega)
    have HR := Aside.mk h
    rw [e]
    clear h e
    generalize hn : xs.length = n at *
    clear hn
    go_enter Try.func103, Try.ntmps103
    go_wp2
    go_ret
    exact ⟨_, _, rfl, HR.out, rfl⟩

/-- Noughts fit wherever there are bits. -/
theorem fits_zero {k s : Int} (h : okType k s = true) (hw : wordedB k = false) : fitsB k s 0 = true := by
  unfold fitsB
  rw [h]
  unfold okType at h
  simp only [decide_eq_true_eq] at h
  unfold wordedB at hw
  simp only [Bool.or_eq_false_iff, beq_eq_false_iff_ne] at hw
  have hk : k = 1 ∨ k = 2 ∨ k = 3 ∨ k = 4 ∨ k = 5 ∨ k = 6 ∨ k = 7 ∨ k = 8 ∨ k = 9 ∨ k = 10 ∨ k = 11 ∨ k = 12 ∨ k = 13 ∨ k = 14 := by omega
  rcases hk with rfl | rfl | rfl | rfl | rfl | rfl | rfl | rfl | rfl | rfl | rfl | rfl | rfl | rfl
  all_goals first | decide | (have hz : asInt 0 = 0 := by kernel_rfl
                              simp [bitsOK, decOK, dayOK, momOK, hz])
end Go.Proofs.Ytmhjjhaipcgbiaa


/- Words: copies of all words. -/
namespace Go.Proofs.Ytmhjjhaipcgbiaa
open Go.RowKit Go.Maps
set_option linter.unusedVariables false
set_option linter.unusedSimpArgs false
set_option maxRecDepth 100000
set_option maxHeartbeats 1000000

/-- The first i words lie in rows of their own, from base on. -/
def WOwn (w : World) (base i : Nat) (vals : List Value) (ws : List (List Int)) : Prop :=
  ∀ (j : Nat) t, j < i → ws[j]? = some t → ∃ a cap, vals[j]? = some (.slice a t.length cap) ∧ Own w base 5 1 (.slice a t.length cap) t.length (t.map (.int .u8))
def WordsP (ws : List (List Int)) (w : World) (e : Ending) (w' : World) : Prop :=
  ∃ a c vals, e = .returned (.slice a ws.length c) ∧ Own w' w.heap.size 37 1 (.slice a ws.length c) ws.length vals ∧ vals.length = ws.length ∧ WOwn w' w.heap.size ws.length vals ws ∧ Below w.heap.size w w'
def WordsIn (ws : List (List Int)) (i : Nat) (w wr : World) : Prop :=
  ∃ vals, vals.length = ws.length ∧ wr.heap[w.heap.size]? = some (.cells vals.toArray 37 (0, 0)) ∧ WOwn wr w.heap.size i vals ws ∧ Below w.heap.size w wr

theorem WOwn.kept {w w' : World} {base i : Nat} {vals : List Value} {ws : List (List Int)} {S : Nat → Prop} (h : WOwn w base i vals ws) (hk : Kept S w w') (hS : ∀ k, base ≤ k → k < w.heap.size → (∃ cs, w.heap[k]? = some (.cells cs 5 (0, 0))) → ¬ S k) : WOwn w' base i vals ws := fun j t hj ht => by
  obtain ⟨a, cap, h1, h2⟩ := h j t hj ht
  exact ⟨a, cap, h1, h2.kept hk (fun k e => hS k (h2.lt k e).1 (h2.lt k e).2 (own_blk h2 e))⟩

theorem words_make (n : Nat) (hn : n ≤ 100000000) (w : World) : ∃ cs : List Value, cs.length = n ∧ (Instr.makeSlice 41 (.int .i64 (n : Int)) (.int .i64 (n : Int))).run Try.prog w = .ok (.slice (some ⟨w.heap.size, 0, none⟩) n n) (w.alloc (.cells cs.toArray 37)) := by
  obtain ⟨i0, hi, hz0, hz1, hz2⟩ := info_parts bytesinfo
  have h := run_make (P := Try.prog) w 41 37 i0 _ Try.underlying41 hi hz0 .i64 .i64 (n : Int) (n : Int) (by omega) (Int.le_refl _) (by rw [hz2]; omega) (by omega)
  rw [hz1, Nat.mul_one, Int.toNat_natCast] at h
  refine ⟨(madeCells (Value.slice none 0 0).cells n).toList, by rw [Array.length_toList, size_madeCells], ?_⟩
  rw [h, Array.toArray_toList]
theorem words_store {ws : List (List Int)} {i : Nat} {w wr w3 : World} {t : List Int} {a : Option Addr} {cap : Nat} (hi : i < ws.length) (ht : ws[i]? = some t) (h : WordsIn ws i w wr) (hb : Below wr.heap.size wr w3) (ho : Own w3 wr.heap.size 5 1 (.slice a t.length cap) t.length (t.map (.int .u8))) :
    WordsIn ws (i + 1) w (w3.setCell ⟨w.heap.size, i, none⟩ (.slice a t.length cap)) := by
  obtain ⟨vals, hl, hbk, hw, hbl⟩ := h
  have hb3 := (hb.block _ (lt_of_blk hbk)).trans hbk
  have hsz := lt_of_blk hbk
  refine ⟨vals.set i (.slice a t.length cap), by simpa using hl, ?_, ?_, (hbl.trans (hb.mono hbl.size)).setCell (Nat.le_refl _) _⟩
  · have := heap_setCell_at (k := i) hb3 (.slice a t.length cap)
    rw [this]; simp
  · have hne : ∀ k, (Value.slice a t.length cap).ownBlock = some k → k ≠ w.heap.size := fun k e => by have := (ho.lt k e).1; omega
    intro j u hj hu
    rcases Nat.lt_or_ge j i with hlt | hge
    · obtain ⟨a1, c1, h1, h2⟩ := hw j u hlt hu
      refine ⟨a1, c1, by rw [List.getElem?_set_ne (by omega)]; exact h1, (h2.below hb).set_other (fun e => ?_) _⟩
      obtain ⟨cs, hcs⟩ := own_blk (h2.below hb) e
      rw [hb3] at hcs
      cases hcs
    · obtain rfl : j = i := by omega
      rw [ht] at hu
      cases hu
      refine ⟨a, cap, by rw [List.getElem?_set_self (by omega)], (ho.set_other (fun e => hne _ e rfl) _).mono (by omega)⟩

theorem words_any (T : Nat → Prop) (lw : Nat) (ws : List (List Int)) (hn : ws.length ≤ 100000000) (hw : ∀ t ∈ ws, t.length ≤ 1000000000) (w : World) (h : WL w T lw ws) : Calls Try.prog 68 #[.pointer (some ⟨lw, 0, none⟩)] w (WordsP ws w) := by
  obtain ⟨wv, mb, vals, D, h⟩ := h
  obtain ⟨wa, wc, rfl⟩ := h.row.form
  obtain ⟨cs, hcl, hms⟩ := words_make ws.length hn w
  have hc0 := cell_blk (k := 0) h.blk
  simp at hc0
  have hlw := lt_of_blk h.blk
  have hc2 : (w.alloc (.cells cs.toArray 37)).cell? ⟨lw, 0, none⟩ = some (.slice wa ws.length wc) := ((below_new w _).cell (p := ⟨lw, 0, none⟩) hlw).trans hc0
  have H := Aside.mk h
  have HCL := Aside.mk hcl
  have HW := Aside.mk hw
  clear h hcl hw
  go_enter Try.func68, Try.ntmps68
  go_wp2
  go_loopw [17] (fun iv wr => ∃ i : Nat, i ≤ ws.length ∧ iv = .int .i64 (i : Int) ∧ Aside (WordsIn ws i w wr)) (fun iv _ => ws.length - (intOf iv).toNat)
  case atStart => exact ⟨0, by omega, rfl, ⟨cs, HCL.out, heap_alloc_new w _, fun j t hj _ => by omega, below_new w _⟩⟩
  case round =>
    clear hms hc0 hc2
    obtain ⟨i, hi, rfl, hp⟩ := hrel
    by_cases hlt : i < ws.length
    · obtain ⟨vi, hvi, hvo, _⟩ := H.out.words.2 i _ (List.getElem?_eq_getElem hlt)
      obtain ⟨va, vc, rfl⟩ := hvo.form
      have hvl := H.out.words.1
      obtain ⟨_, _, hbk, _, hbl⟩ := hp.out
      obtain ⟨eb, eo, ecap, hs, hel, hecap, hcE⟩ := H.out.row.rd.some_ (by omega)
      simp only [Value.slice.injEq, true_and] at hs
      obtain ⟨rfl, rfl⟩ := hs
      have hce := (hbl.cell (p := ⟨eb, eo + i, none⟩) (World.block_lt_of_cell? _ _ (hcE i _ hvi))).trans (hcE i _ hvi)
      have htl := HW.out _ (List.getElem_mem hlt)
      have HT := Aside.mk (List.getElem?_eq_getElem hlt)
      have HVO := Aside.mk (hvo.rd.below hbl)
      clear hbk hbl hcE hvi hvo hvl
      generalize ws[i] = t at *
      have HCL2 := Aside.mk (clone_bytes (.slice va t.length vc) t.length _ wr htl HVO.out (one_map (fun x : Int => Value.int .u8 x) (fun _ => rfl) t))
      go_wp2_with (go_at_call 66; refine HCL2.out.mono ?_; rintro e w3 ⟨v', rfl, ho, hb3⟩; obtain ⟨ca, cc, rfl⟩ := ho.form; obtain ⟨vals3, hl3, hbk3, _, hbl3⟩ := hp.out; have hbk4 := (hb3.block _ (lt_of_blk hbk3)).trans hbk3; have q := cell_blk (k := i) hbk4; have z := frozen_blk (k := i) hbk4; rw [List.getElem?_toArray, List.getElem?_eq_getElem (by omega)] at q; have HS := Aside.mk (words_store hlt HT.out hp.out hb3 ho); clear ho hb3 hbk3 hbk4 hbl3)
      exact ⟨⟨i + 1, by omega, by simp, HS⟩, by simp [intOf]; omega⟩
    · obtain rfl : i = ws.length := by omega
      obtain ⟨vals2, hl2, hbk2, hw2, hbl2⟩ := hp.out
      go_wp2
      go_ret
      refine ⟨_, _, vals2, rfl, ⟨by rw [hl2]; simp, .inr ⟨w.heap.size, 0, ws.length, vals2.toArray, rfl, Nat.le_refl _, hbk2, Nat.le_refl _, by unfold maxLen; omega, by simp [hl2], fun j hj => by simp⟩⟩, hl2, hw2, hbl2⟩
end Go.Proofs.Ytmhjjhaipcgbiaa


/- add at the kind of words. -/
namespace Go.Proofs.Ytmhjjhaipcgbiaa
open Go.RowKit
set_option linter.unusedVariables false
set_option linter.unusedSimpArgs false
set_option maxRecDepth 100000
set_option maxHeartbeats 2000000

theorem assert_running3 (v : Value) (w : World) : (Instr.typeAssert (.iface 130 v) 104 125 true).run Try.prog w = .ok (.tuple #[.agg #[], .bool false]) w := by kernel_rfl
theorem assert_coded3 (v : Value) (w : World) : (Instr.typeAssert (.iface 130 v) 104 130 true).run Try.prog w = .ok (.tuple #[v, .bool true]) w := by kernel_rfl

/-- A word is in the list, its code laid. -/
def AddCP (bl lw : Nat) (s : Int) (T : Nat → Prop) (nulls : List Bool) (data ends : List Int) (ws : List (List Int)) (nv dv ev : Value) (X : Nat) (ws2 : List (List Int)) (nl : Bool) (w : World) (e : Ending) (w' : World) : Prop :=
  e = .returned (.tuple #[]) ∧ ∃ nv' dv', IsB w' bl lw 0 16 s (nulls ++ [nl]) (data ++ lows X 4) ends nv' dv' ev ∧ WL w' (fun b => T b ∨ w.heap.size ≤ b ∧ b ≠ bl ∧ nv'.ownBlock ≠ some b ∧ dv'.ownBlock ≠ some b) lw ws2 ∧ Kept (fun b => T b ∨ b = bl ∨ dv.ownBlock = some b ∨ nv.ownBlock = some b) w w' ∧
    (dv'.ownBlock = dv.ownBlock ∨ ∃ b, dv'.ownBlock = some b ∧ w.heap.size ≤ b) ∧ (nv'.ownBlock = nv.ownBlock ∨ ∃ b, nv'.ownBlock = some b ∧ w.heap.size ≤ b)

theorem IsB.kept {w w' : World} {bl lw base : Nat} {k s : Int} {nulls : List Bool} {data ends : List Int} {nv dv ev : Value} {S : Nat → Prop} (h : IsB w bl lw base k s nulls data ends nv dv ev) (hk : Kept S w w') (h1 : ¬ S bl) (h3 : ∀ b, nv.ownBlock = some b ∨ dv.ownBlock = some b ∨ ev.ownBlock = some b → ¬ S b) (hl : ∃ mv : Value × Value, w'.heap[lw]? = some (.cells #[mv.1, mv.2] 176 (0, 0))) : IsB w' bl lw base k s nulls data ends nv dv ev :=
  ⟨(hk.block _ (lt_of_blk h.blk) h1).trans h.blk, hl, h.bbl, h.blw, h.nulls.kept hk (fun b e => h3 b (.inl e)), h.data.kept hk (fun b e => h3 b (.inr (.inl e))), h.ends.kept hk (fun b e => h3 b (.inr (.inr e)))⟩
theorem WL.lst {w : World} {T : Nat → Prop} {lw : Nat} {ws : List (List Int)} (h : WL w T lw ws) : ∃ mv : Value × Value, w.heap[lw]? = some (.cells #[mv.1, mv.2] 176 (0, 0)) := by
  obtain ⟨wv, mb, vals, D, h⟩ := h
  exact ⟨(_, _), h.blk⟩


theorem addC_done {w w3 w4 w9 : World} {bl lw : Nat} {s : Int} {T T3 : Nat → Prop} {nulls : List Bool} {data ends : List Int} {ws2 : List (List Int)} {nv dv ev dv' nv' : Value} {X : Nat} {nl : Bool} {o : Obj}
    (h : IsB w bl lw 0 16 s nulls data ends nv dv ev) (hTs : ∀ b, T b → b ≠ bl ∧ nv.ownBlock ≠ some b ∧ dv.ownBlock ≠ some b) (k3 : Kept T w w3) (hL : WL w3 T3 lw ws2) (h3 : ∀ b, T3 b → b < w3.heap.size → T b ∨ w.heap.size ≤ b)
    (k4 : Kept (fun b => b = bl ∨ dv.ownBlock = some b) w3 w4) (o4 : dv'.ownBlock = dv.ownBlock ∨ ∃ b, dv'.ownBlock = some b ∧ w3.heap.size ≤ b)
    (h9 : IsB w9 bl lw 0 16 s (nulls ++ [nl]) (data ++ lows X 4) ends nv' dv' ev ∧ Kept (fun b => b = bl ∨ nv.ownBlock = some b) w4 w9) (a9 : nv'.ownBlock = nv.ownBlock ∨ ∃ b, nv'.ownBlock = some b ∧ (w4.alloc o).drew.heap.size ≤ b) :
    ∃ nv' dv', IsB w9 bl lw 0 16 s (nulls ++ [nl]) (data ++ lows X 4) ends nv' dv' ev ∧ WL w9 (fun b => T b ∨ w.heap.size ≤ b ∧ b ≠ bl ∧ nv'.ownBlock ≠ some b ∧ dv'.ownBlock ≠ some b) lw ws2 ∧ Kept (fun b => T b ∨ b = bl ∨ dv.ownBlock = some b ∨ nv.ownBlock = some b) w w9 ∧
    (dv'.ownBlock = dv.ownBlock ∨ ∃ b, dv'.ownBlock = some b ∧ w.heap.size ≤ b) ∧ (nv'.ownBlock = nv.ownBlock ∨ ∃ b, nv'.ownBlock = some b ∧ w.heap.size ≤ b) := by
  have hbl := lt_of_blk h.blk
  have hs3 := k3.size
  have hs4 := k4.size
  have e4 : (w4.alloc o).drew.heap.size = w4.heap.size + 1 := by show (w4.alloc o).heap.size = _; simp
  have hnb : ∀ b, T3 b → b < w3.heap.size → b ≠ bl ∧ nv.ownBlock ≠ some b ∧ dv.ownBlock ≠ some b := fun b ht hb => by
    rcases h3 b ht hb with h1 | h1
    · exact hTs b h1
    · exact ⟨by omega, fun e => by have := (h.nulls.lt _ e).2; omega, fun e => by have := (h.data.lt _ e).2; omega⟩
  have hL2 : WL w3 (fun b => T3 b ∧ b < w3.heap.size) lw ws2 := hL.mono (fun b h1 h2 => ⟨h1, h2⟩)
  have hL4 := hL2.kept k4 (fun b ht _ => (fun e => e.elim (hnb b ht.1 ht.2).1 (hnb b ht.1 ht.2).2.2))
  have hL9 := hL4.kept h9.2 (fun b ht _ => (fun e => e.elim (hnb b ht.1 ht.2).1 (hnb b ht.1 ht.2).2.1))
  refine ⟨nv', dv', h9.1, hL9.mono (fun b ht _ => ?_), ?_, ?_, ?_⟩
  · rcases h3 b ht.1 ht.2 with h1 | h1
    · exact .inl h1
    · refine .inr ⟨h1, (hnb b ht.1 ht.2).1, fun e => ?_, fun e => ?_⟩
      · rcases a9 with e' | ⟨b', e', h'⟩
        · exact (hnb b ht.1 ht.2).2.1 (e' ▸ e)
        · rw [e'] at e; cases e; have := ht.2; omega
      · rcases o4 with e' | ⟨b', e', h'⟩
        · exact (hnb b ht.1 ht.2).2.2 (e' ▸ e)
        · rw [e'] at e; cases e; have := ht.2; omega
  · refine ((k3.mono (T := fun b => T b ∨ b = bl ∨ dv.ownBlock = some b ∨ nv.ownBlock = some b) (fun b e _ => .inl e)).trans k4 ?_).trans h9.2 ?_
    · rintro b (e | e) _
      · exact .inr (.inl e)
      · exact .inr (.inr (.inl e))
    · rintro b (e | e) _
      · exact .inr (.inl e)
      · exact .inr (.inr (.inr e))
  · exact o4.imp id (fun ⟨b, e, h⟩ => ⟨b, e, by omega⟩)
  · exact a9.imp id (fun ⟨b, e, h⟩ => ⟨b, e, by omega⟩)

theorem add_coded_null (bl lw : Nat) (s : Int) (T : Nat → Prop) (nulls : List Bool) (data ends : List Int) (ws : List (List Int)) (nv dv ev : Value) (bits : Int) (ta : Option Addr) (tn tc : Nat) (hl : data.length ≤ 100000000) (hl2 : nulls.length ≤ 100000000) (w : World) (h : IsB w bl lw 0 16 s nulls data ends nv dv ev) (hL : WL w T lw ws) (hTs : ∀ b, T b → b ≠ bl ∧ nv.ownBlock ≠ some b ∧ dv.ownBlock ≠ some b) :
    Calls Try.prog 64 #[.pointer (some ⟨bl, 0, none⟩), .agg #[.int .u64 bits, .slice ta tn tc, .bool true]] w (AddCP bl lw s T nulls data ends ws nv dv ev 0 ws true w) := by
  have hbs := lt_of_blk h.blk
  have hc0 := cell_blk (k := 0) h.blk
  have hc1 := cell_blk (k := 1) h.blk
  simp at hc0 hc1
  have H0 := Aside.mk h
  have HL := Aside.mk hL
  have HTS := Aside.mk hTs
  clear h hL hTs
  have ta1 := assert_running3
  have ta2 := assert_coded3
  go_enter Try.func64, Try.ntmps64
  go_wp2_with (first | (go_at_call 57; refine (of_coded s _).mono ?_; rintro e w1 ⟨rfl, rfl⟩))
  have B3 : Below w.heap.size w (((w.alloc (.cells #[.int .u64 bits, .slice ta tn tc, .bool true] 102)).alloc (.cells #[.int .i64 16, .int .i64 s] 23)).alloc (.cells #[.int .i64 4] 130)) := (((Below.refl _ _).alloc (Nat.le_refl _) _).alloc (by simp) _).alloc (by simp; omega) _
  have hv3 : (((w.alloc (.cells #[.int .u64 bits, .slice ta tn tc, .bool true] 102)).alloc (.cells #[.int .i64 16, .int .i64 s] 23)).alloc (.cells #[.int .i64 4] 130)).heap[w.heap.size]? = some (.cells #[.int .u64 bits, .slice ta tn tc, .bool true] 102 (0, 0)) := by
    rw [Below.heap_alloc _ _ _ (by simp; omega), Below.heap_alloc _ _ _ (by simp)]
    exact heap_alloc_new _ _
  have hb3 : (((w.alloc (.cells #[.int .u64 bits, .slice ta tn tc, .bool true] 102)).alloc (.cells #[.int .i64 16, .int .i64 s] 23)).alloc (.cells #[.int .i64 4] 130)).heap[w.heap.size + 1 + 1]? = some (.cells #[.int .i64 4] 130 (0, 0)) := by
    simpa using heap_alloc_new ((w.alloc (.cells #[.int .u64 bits, .slice ta tn tc, .bool true] 102)).alloc (.cells #[.int .i64 16, .int .i64 s] 23)) (.cells #[.int .i64 4] 130)
  generalize hw3 : (((w.alloc (.cells #[.int .u64 bits, .slice ta tn tc, .bool true] 102)).alloc (.cells #[.int .i64 16, .int .i64 s] 23)).alloc (.cells #[.int .i64 4] 130)) = w3 at *
  clear hw3
  have H3 := Aside.mk (H0.out.below B3)
  have HV3 := Aside.mk hv3
  have HB3 := Aside.mk hb3
  have BB3 := Aside.mk B3
  have K3 := Aside.mk (show Kept T w w3 from Kept.of_below B3)
  have L3 := Aside.mk (HL.out.below B3)
  have N3 := Aside.mk (show ∀ b, T b → b < w3.heap.size → T b ∨ w.heap.size ≤ b from fun b h _ => .inl h)
  clear B3 hv3 hb3 hc0 hc1 ta1 ta2
  refine (word_any bl lw 0 16 s nulls data ends nv dv ev 0 4 (by decide) (by omega) hl w3 H3.out (Nat.zero_le _)).mono ?_
  rintro e w4 ⟨rfl, dv', h4, k4, o4⟩
  have hdlt := H0.out.data.lt
  have hvb := lt_of_blk HV3.out
  have hv4 := (k4.block w.heap.size hvb (by
    rintro (e | e)
    · omega
    · have := (hdlt _ e).2; omega)).trans HV3.out
  have hcv := cell_blk (k := 2) hv4
  have hcn := cell_blk (k := 2) h4.blk
  have hfn := frozen_blk (k := 2) h4.blk
  simp at hcv hcn
  obtain ⟨a1, c1, rfl⟩ := h4.nulls.form
  have hbs4 := lt_of_blk h4.blk
  have H4 := Aside.mk h4
  have K4 := Aside.mk k4
  have O4 := Aside.mk o4
  have HV4 := Aside.mk hv4
  clear h4 k4 o4 hdlt hv4 hvb
  generalize hm : nulls.length = m at *
  have HM := Aside.mk hm
  clear hm
  go_wp2_with (fail)
  have hown := Aside.mk (own_in (o := .cells #[.bool true] 4) H4.out HM.out)
  have hsrc := Aside.mk (src_one_drew (P := Try.prog) (w := w4) Try.underlying113 w4.heap.size (.bool true) 4 rfl rfl)
  have h63 := Aside.mk (show m + 1 ≤ maxLen by unfold maxLen; omega)
  have hby := Aside.mk (show (m + 1) * 1 ≤ 140737488355328 by omega)
  go_region_law ((refine step_app (P := Try.prog) ((w4.alloc (.cells #[.bool true] 4)).drew) (by rfl) (.tmp 74) (.tmp 77) 113 113 (by rfl) 0 4 (.bool false) 1 1 Try.underlying113 boolinfo (by rfl) (.slice a1 m c1) m (nulls.map .bool) (by rfl) hown.out (.slice (some ⟨w4.heap.size, 0, none⟩) 1 1) 1 [.bool true] (by rfl) hsrc.out h63.out hby.out (Nat.zero_le _) ?_; intro v' w5 hown' hgrow _ hat; obtain ⟨a5, c5, rfl⟩ := hown'.form; have hc5 := cell_blk (k := 2) (blk_grown H4.out hgrow); have hf5 := frozen_blk (k := 2) (blk_grown H4.out hgrow); simp at hc5; have HH := Aside.mk (isB_grown H4.out HM.out hgrow hown'); have HAT := Aside.mk hat; clear hown' hgrow hat))
  all_goals
    go_wp2
    refine bodyPost_ret (v := .tuple #[]) (by simp [results, Try.results64, go_sem]) rfl ?_
    exact ⟨rfl, addC_done H0.out HTS.out K3.out L3.out N3.out K4.out O4.out HH.out HAT.out⟩

theorem add_coded_word (bl lw : Nat) (s : Int) (T : Nat → Prop) (nulls : List Bool) (data ends : List Int) (ws : List (List Int)) (nv dv ev : Value) (bits : Int) (tx : List Int) (ta : Option Addr) (tc : Nat) (hl : data.length ≤ 100000000) (hl2 : nulls.length ≤ 100000000) (hlw : ws.length ≤ 100000000) (htb : IsBytes tx) (htl : tx.length ≤ 100000000) (w : World) (h : IsB w bl lw 0 16 s nulls data ends nv dv ev) (hL : WL w T lw ws) (hTs : ∀ b, T b → b ≠ bl ∧ nv.ownBlock ≠ some b ∧ dv.ownBlock ≠ some b) (hTe : ∀ b, T b → ev.ownBlock ≠ some b) (hrt : Rd w 1 (.slice ta tx.length tc) tx.length (tx.map (.int .u8))) :
    Calls Try.prog 64 #[.pointer (some ⟨bl, 0, none⟩), .agg #[.int .u64 bits, .slice ta tx.length tc, .bool false]] w (AddCP bl lw s T nulls data ends ws nv dv ev (codeOf ws tx) (addWord ws tx) false w) := by
  have hbs := lt_of_blk h.blk
  have hc0 := cell_blk (k := 0) h.blk
  have hc1 := cell_blk (k := 1) h.blk
  simp at hc0 hc1
  have hcb : codeOf ws tx ≤ 100000000 := Nat.le_trans (codeOf_le ws tx) hlw
  have H0 := Aside.mk h
  have HL := Aside.mk hL
  have HTS := Aside.mk hTs
  have HTE := Aside.mk hTe
  have HRT := Aside.mk hrt
  have HTB := Aside.mk htb
  clear h hL hTs hTe hrt htb
  generalize htn : tx.length = tn at *
  have HTN := Aside.mk htn
  clear htn
  have ta1 := assert_running3
  have ta2 := assert_coded3
  go_enter Try.func64, Try.ntmps64
  go_wp2_with (first | (go_at_call 57; refine (of_coded s _).mono ?_; rintro e w1 ⟨rfl, rfl⟩))
  have B3 : Below w.heap.size w (((w.alloc (.cells #[.int .u64 bits, .slice ta tn tc, .bool false] 102)).alloc (.cells #[.int .i64 16, .int .i64 s] 23)).alloc (.cells #[.int .i64 4] 130)) := (((Below.refl _ _).alloc (Nat.le_refl _) _).alloc (by simp) _).alloc (by simp; omega) _
  have hv3 : (((w.alloc (.cells #[.int .u64 bits, .slice ta tn tc, .bool false] 102)).alloc (.cells #[.int .i64 16, .int .i64 s] 23)).alloc (.cells #[.int .i64 4] 130)).heap[w.heap.size]? = some (.cells #[.int .u64 bits, .slice ta tn tc, .bool false] 102 (0, 0)) := by
    rw [Below.heap_alloc _ _ _ (by simp; omega), Below.heap_alloc _ _ _ (by simp)]
    exact heap_alloc_new _ _
  have hb3 : (((w.alloc (.cells #[.int .u64 bits, .slice ta tn tc, .bool false] 102)).alloc (.cells #[.int .i64 16, .int .i64 s] 23)).alloc (.cells #[.int .i64 4] 130)).heap[w.heap.size + 1 + 1]? = some (.cells #[.int .i64 4] 130 (0, 0)) := by
    simpa using heap_alloc_new ((w.alloc (.cells #[.int .u64 bits, .slice ta tn tc, .bool false] 102)).alloc (.cells #[.int .i64 16, .int .i64 s] 23)) (.cells #[.int .i64 4] 130)
  generalize hw3 : (((w.alloc (.cells #[.int .u64 bits, .slice ta tn tc, .bool false] 102)).alloc (.cells #[.int .i64 16, .int .i64 s] 23)).alloc (.cells #[.int .i64 4] 130)) = w3 at *
  clear hw3
  have H3 := Aside.mk (H0.out.below B3)
  have HV3 := Aside.mk hv3
  have HB3 := Aside.mk hb3
  have BB3 := Aside.mk B3
  have HL3 := Aside.mk (show WL w3.drew (fun b => T b ∧ b < w.heap.size) lw ws from ((HL.out.mono (T' := fun b => T b ∧ b < w.heap.size) (fun b h1 h2 => ⟨h1, h2⟩)).below B3).below (below_drewN _ _ 1))
  have hcode := Aside.mk (show Calls Try.prog 105 #[.pointer (some ⟨lw, 0, none⟩), .slice ta tn tc] w3.drew (CodeP (fun b => T b ∧ b < w.heap.size) lw ws tx w3.drew) by
    have := code_any (fun b => T b ∧ b < w.heap.size) lw ws tx ta tc HTB.out (by rw [HTN.out]; exact htl) hlw w3.drew HL3.out (by rw [HTN.out]; exact (HRT.out.below B3).below (below_drewN _ _ 1))
    rw [HTN.out] at this
    exact this)
  have hc5 := cell_blk (k := 5) H3.out.blk
  have hct := cell_blk (k := 1) HV3.out
  simp at hc5 hct
  have HCE := Aside.mk (show codeOf ws tx = codeOf ws tx from rfl)
  clear B3 hv3 hb3 hc0 hc1 ta1 ta2
  go_region_law ((refine step_call (P := Try.prog) w3.drew (by rfl) 105 [.tmp 51, .tmp 53] _ (by rfl) [.pointer (some ⟨lw, 0, none⟩), .slice ta tn tc] (by rfl) (fun _ _ => rfl) hcode.out ?_; rintro e wc ⟨rfl, hlc, hkc⟩; have HLC := Aside.mk hlc; have HKC := Aside.mk (show Kept (fun b => T b ∧ b < w.heap.size) w3 wc from ⟨hkc.os, hkc.tape, hkc.output, hkc.size, hkc.block⟩); clear hlc hkc; have hbc := (HKC.out.block (w.heap.size + 1 + 1) (lt_of_blk HB3.out) (fun h => by have := h.2; omega)).trans HB3.out; have hcw := cell_blk (k := 0) hbc; simp at hcw; clear hbc; refine ⟨_, rfl, ?_⟩))
  all_goals
    have H3C := Aside.mk (show IsB wc bl lw 0 16 s nulls data ends nv dv ev from H3.out.kept HKC.out (fun h => (HTS.out _ h.1).1 rfl) (fun b hb h => by
      rcases hb with e | e | e
      · exact (HTS.out _ h.1).2.1 e
      · exact (HTS.out _ h.1).2.2 e
      · exact HTE.out _ h.1 e) HLC.out.lst)
    have HV3C := Aside.mk ((HKC.out.block w.heap.size (lt_of_blk HV3.out) (fun h => by have := h.2; omega)).trans HV3.out)
    have K3 := Aside.mk (show Kept T w wc from (Kept.of_below BB3.out).trans HKC.out (fun b h _ => h.1))
    have hsz3 := BB3.out.size
    have N3 := Aside.mk (show ∀ b, ((T b ∧ b < w.heap.size) ∨ w3.drew.heap.size ≤ b) → b < wc.heap.size → T b ∨ w.heap.size ≤ b from fun b h _ => h.elim (fun h => .inl h.1) (fun h => .inr (Nat.le_trans hsz3 h)))
    have L3 := HLC
    clear hc5 hct
    go_wp2_with fail
    refine (word_any bl lw 0 16 s nulls data ends nv dv ev (codeOf ws tx) 4 (by decide) (by omega) hl wc H3C.out (Nat.zero_le _)).mono ?_
    rintro e w4 ⟨rfl, dv', h4, k4, o4⟩
    have hdlt := H0.out.data.lt
    have hvb := lt_of_blk HV3C.out
    have hv4 := (k4.block w.heap.size hvb (by
      rintro (e | e)
      · omega
      · have := (hdlt _ e).2; omega)).trans HV3C.out
    have hcv := cell_blk (k := 2) hv4
    have hcn := cell_blk (k := 2) h4.blk
    have hfn := frozen_blk (k := 2) h4.blk
    simp at hcv hcn
    obtain ⟨a1, c1, rfl⟩ := h4.nulls.form
    have hbs4 := lt_of_blk h4.blk
    have H4 := Aside.mk h4
    have K4 := Aside.mk k4
    have O4 := Aside.mk o4
    have HV4 := Aside.mk hv4
    clear h4 k4 o4 hdlt hv4 hvb
    generalize hm : nulls.length = m at *
    have HM := Aside.mk hm
    clear hm
    go_wp2_with (fail)
    have hown := Aside.mk (own_in (o := .cells #[.bool false] 4) H4.out HM.out)
    have hsrc := Aside.mk (src_one_drew (P := Try.prog) (w := w4) Try.underlying113 w4.heap.size (.bool false) 4 rfl rfl)
    have h63 := Aside.mk (show m + 1 ≤ maxLen by unfold maxLen; omega)
    have hby := Aside.mk (show (m + 1) * 1 ≤ 140737488355328 by omega)
    go_region_law ((refine step_app (P := Try.prog) ((w4.alloc (.cells #[.bool false] 4)).drew) (by rfl) (.tmp 74) (.tmp 77) 113 113 (by rfl) 0 4 (.bool false) 1 1 Try.underlying113 boolinfo (by rfl) (.slice a1 m c1) m (nulls.map .bool) (by rfl) hown.out (.slice (some ⟨w4.heap.size, 0, none⟩) 1 1) 1 [.bool false] (by rfl) hsrc.out h63.out hby.out (Nat.zero_le _) ?_; intro v' w5 hown' hgrow _ hat; obtain ⟨a5, c5, rfl⟩ := hown'.form; have hc5 := cell_blk (k := 2) (blk_grown H4.out hgrow); have hf5 := frozen_blk (k := 2) (blk_grown H4.out hgrow); simp at hc5; have HH := Aside.mk (isB_grown H4.out HM.out hgrow hown'); have HAT := Aside.mk hat; clear hown' hgrow hat))
    all_goals
      go_wp2
      refine bodyPost_ret (v := .tuple #[]) (by simp [results, Try.results64, go_sem]) rfl ?_
      exact ⟨rfl, addC_done H0.out HTS.out K3.out L3.out N3.out K4.out O4.out HH.out HAT.out⟩
end Go.Proofs.Ytmhjjhaipcgbiaa


/- add at the kind of texts. -/
namespace Go.Proofs.Ytmhjjhaipcgbiaa
open Go.RowKit
set_option linter.unusedVariables false
set_option linter.unusedSimpArgs false
set_option maxRecDepth 100000
set_option maxHeartbeats 8000000

/-- A row of the builder has got more elements and is laid into its cell. -/
theorem IsB.app_data0 {wr w5 : World} {bl lw base : Nat} {k s : Int} {nulls : List Bool} {data data' ends : List Int} {nv dv dv' ev : Value} (h : IsB wr bl lw base k s nulls data ends nv dv ev) (hg : wr.grownBy w5 dv.ownBlock) (hown : Own w5 base 5 1 dv' data'.length (data'.map (.int .u8))) :
    IsB (w5.setCell ⟨bl, 3, none⟩ dv') bl lw base k s nulls data' ends nv dv' ev ∧ Kept (fun b => b = bl ∨ dv.ownBlock = some b) wr (w5.setCell ⟨bl, 3, none⟩ dv') := by
  have K1 : Kept (fun b => some b = dv.ownBlock) wr w5 := Kept.of_grown hg
  have hbl := lt_of_blk h.blk
  have nb : dv.ownBlock ≠ some bl := h.data.blk_ne h.blk (by decide)
  have hb5 := (K1.block bl hbl (fun e => nb e.symm)).trans h.blk
  obtain ⟨mv, hl⟩ := h.lst
  have nl : dv.ownBlock ≠ some lw := h.data.blk_ne hl (by decide)
  have hl5 := (K1.block lw (lt_of_blk hl) (fun e => nl e.symm)).trans hl
  have hne : bl ≠ lw := blk_ne h.blk hl (by decide)
  have hn5 : Own w5 base 4 1 nv nulls.length (nulls.map .bool) := h.nulls.kept K1 (fun k hk e => own_ne_own h.nulls h.data (by decide) k hk e.symm)
  have he5 : Own w5 base 3 1 ev ends.length (ends.map (.int .i64)) := h.ends.kept K1 (fun k hk e => own_ne_own h.ends h.data (by decide) k hk e.symm)
  refine ⟨⟨?_, ⟨mv, ?_⟩, h.bbl, h.blw, ?_, ?_, ?_⟩, ?_⟩
  · have := heap_setCell_at (k := 3) hb5 dv'
    simpa using this
  · rw [Below.heap_setCell _ _ _ _ (fun e => hne e.symm)]; exact hl5
  · exact hn5.set_other (hn5.blk_ne hb5 (by decide)) _
  · exact hown.set_other (hown.blk_ne hb5 (by decide)) _
  · exact he5.set_other (he5.blk_ne hb5 (by decide)) _
  · exact (K1.mono (fun k e _ => .inr e.symm)).trans (Kept.setCell _ _ _) (fun k e _ => .inl e)

/-- A row of the builder has got more elements and is laid into its cell. -/
theorem IsB.app_ends {wr w5 : World} {bl lw base : Nat} {k s : Int} {nulls : List Bool} {data ends ends' : List Int} {nv dv ev ev' : Value} (h : IsB wr bl lw base k s nulls data ends nv dv ev) (hg : wr.grownBy w5 ev.ownBlock) (hown : Own w5 base 3 1 ev' ends'.length (ends'.map (.int .i64))) :
    IsB (w5.setCell ⟨bl, 4, none⟩ ev') bl lw base k s nulls data ends' nv dv ev' ∧ Kept (fun b => b = bl ∨ ev.ownBlock = some b) wr (w5.setCell ⟨bl, 4, none⟩ ev') := by
  have K1 : Kept (fun b => some b = ev.ownBlock) wr w5 := Kept.of_grown hg
  have hbl := lt_of_blk h.blk
  have nb : ev.ownBlock ≠ some bl := h.ends.blk_ne h.blk (by decide)
  have hb5 := (K1.block bl hbl (fun e => nb e.symm)).trans h.blk
  obtain ⟨mv, hl⟩ := h.lst
  have nl : ev.ownBlock ≠ some lw := h.ends.blk_ne hl (by decide)
  have hl5 := (K1.block lw (lt_of_blk hl) (fun e => nl e.symm)).trans hl
  have hne : bl ≠ lw := blk_ne h.blk hl (by decide)
  have hn5 : Own w5 base 4 1 nv nulls.length (nulls.map .bool) := h.nulls.kept K1 (fun k hk e => own_ne_own h.nulls h.ends (by decide) k hk e.symm)
  have hd5 : Own w5 base 5 1 dv data.length (data.map (.int .u8)) := h.data.kept K1 (fun k hk e => own_ne_own h.data h.ends (by decide) k hk e.symm)
  refine ⟨⟨?_, ⟨mv, ?_⟩, h.bbl, h.blw, ?_, ?_, ?_⟩, ?_⟩
  · have := heap_setCell_at (k := 4) hb5 ev'
    simpa using this
  · rw [Below.heap_setCell _ _ _ _ (fun e => hne e.symm)]; exact hl5
  · exact hn5.set_other (hn5.blk_ne hb5 (by decide)) _
  · exact hd5.set_other (hd5.blk_ne hb5 (by decide)) _
  · exact hown.set_other (hown.blk_ne hb5 (by decide)) _
  · exact (K1.mono (fun k e _ => .inr e.symm)).trans (Kept.setCell _ _ _) (fun k e _ => .inl e)

theorem intinfo2 : (Try.prog.info? 3).map (fun i => (i.zero, i.size, i.bytes)) = some (some (.int .i64 0), 1, 8) := by kernel_rfl
theorem assert_running2 (v : Value) (w : World) : (Instr.typeAssert (.iface 125 v) 104 125 true).run Try.prog w = .ok (.tuple #[v, .bool true]) w := by kernel_rfl

def AddTP (bl lw base : Nat) (s : Int) (nulls : List Bool) (data : List Int) (ends : List Int) (nv dv ev : Value) (tx : List Int) (nl : Bool) (w : World) (e : Ending) (w' : World) : Prop :=
  e = .returned (.tuple #[]) ∧ ∃ nv' dv' ev', IsB w' bl lw base 15 s (nulls ++ [nl]) (data ++ tx) (ends ++ [((data ++ tx).length : Int)]) nv' dv' ev' ∧ Kept (fun b => b = bl ∨ dv.ownBlock = some b ∨ nv.ownBlock = some b ∨ ev.ownBlock = some b) w w' ∧
    (dv'.ownBlock = dv.ownBlock ∨ ∃ b, dv'.ownBlock = some b ∧ w.heap.size ≤ b) ∧ (nv'.ownBlock = nv.ownBlock ∨ ∃ b, nv'.ownBlock = some b ∧ w.heap.size ≤ b) ∧ (ev'.ownBlock = ev.ownBlock ∨ ∃ b, ev'.ownBlock = some b ∧ w.heap.size ≤ b)

theorem addT_done {w w3 w5 w6 w8 w9 : World} {bl lw base : Nat} {s : Int} {nulls : List Bool} {data ends tx : List Int} {nl : Bool} {nv dv ev dv5 ev7 nv9 : Value} {o6 o8 : Obj}
    (hs3 : w.heap.size ≤ w3.heap.size) (b3 : Below w.heap.size w w3) (hg5 : w3.drew.grownBy w5 dv.ownBlock) (a5 : dv5.ownBlock = dv.ownBlock ∨ ∃ b, dv5.ownBlock = some b ∧ w3.drew.heap.size ≤ b)
    (h5 : IsB w6 bl lw base 15 s nulls (data ++ tx) ends nv dv5 ev ∧ Kept (fun b => b = bl ∨ dv.ownBlock = some b) w3.drew w6) (hs6 : w3.heap.size ≤ w6.heap.size)
    (a7 : ev7.ownBlock = ev.ownBlock ∨ ∃ b, ev7.ownBlock = some b ∧ (w6.alloc o6).drew.heap.size ≤ b)
    (h7 : IsB w8 bl lw base 15 s nulls (data ++ tx) (ends ++ [((data ++ tx).length : Int)]) nv dv5 ev7 ∧ Kept (fun b => b = bl ∨ ev.ownBlock = some b) ((w6.alloc o6).drewN 1) w8)
    (k8 : Kept (fun b => b = bl ∨ dv.ownBlock = some b ∨ ev.ownBlock = some b) w3 w8)
    (h9 : IsB w9 bl lw base 15 s (nulls ++ [nl]) (data ++ tx) (ends ++ [((data ++ tx).length : Int)]) nv9 dv5 ev7 ∧ Kept (fun b => b = bl ∨ nv.ownBlock = some b) w8 w9)
    (a9 : nv9.ownBlock = nv.ownBlock ∨ ∃ b, nv9.ownBlock = some b ∧ (w8.alloc o8).drew.heap.size ≤ b) :
    ∃ nv' dv' ev', IsB w9 bl lw base 15 s (nulls ++ [nl]) (data ++ tx) (ends ++ [((data ++ tx).length : Int)]) nv' dv' ev' ∧ Kept (fun b => b = bl ∨ dv.ownBlock = some b ∨ nv.ownBlock = some b ∨ ev.ownBlock = some b) w w9 ∧
    (dv'.ownBlock = dv.ownBlock ∨ ∃ b, dv'.ownBlock = some b ∧ w.heap.size ≤ b) ∧ (nv'.ownBlock = nv.ownBlock ∨ ∃ b, nv'.ownBlock = some b ∧ w.heap.size ≤ b) ∧ (ev'.ownBlock = ev.ownBlock ∨ ∃ b, ev'.ownBlock = some b ∧ w.heap.size ≤ b) := by
  have hs8 := k8.size
  have e3 : w3.drew.heap.size = w3.heap.size := rfl
  have e6 : (w6.alloc o6).drew.heap.size = w6.heap.size + 1 := by show (w6.alloc o6).heap.size = _; simp
  have e8 : (w8.alloc o8).drew.heap.size = w8.heap.size + 1 := by show (w8.alloc o8).heap.size = _; simp
  refine ⟨nv9, dv5, ev7, h9.1, ?_, ?_, ?_, ?_⟩
  · refine ((Kept.of_below b3).trans k8 ?_).trans h9.2 ?_
    · rintro b (e | e | e) _
      · exact .inl e
      · exact .inr (.inl e)
      · exact .inr (.inr (.inr e))
    · rintro b (e | e) _
      · exact .inl e
      · exact .inr (.inr (.inl e))
  · exact a5.imp id (fun ⟨b, e, h⟩ => ⟨b, e, by omega⟩)
  · exact a9.imp id (fun ⟨b, e, h⟩ => ⟨b, e, by omega⟩)
  · exact a7.imp id (fun ⟨b, e, h⟩ => ⟨b, e, by omega⟩)

theorem add_running (bl lw base : Nat) (s : Int) (nulls : List Bool) (data : List Int) (ends : List Int) (nv dv ev : Value) (bits : Int) (ta : Option Addr) (tn tc : Nat) (tx : List Int) (nl : Bool) (hl : data.length + tx.length ≤ 100000000) (hl2 : nulls.length ≤ 100000000) (hl3 : ends.length ≤ 100000000) (w : World) (h : IsB w bl lw base 15 s nulls data ends nv dv ev) (hb : base ≤ w.heap.size) (ht : Rd w 1 (.slice ta tn tc) tn (tx.map (.int .u8))) (htn : tx.length = tn) :
    Calls Try.prog 64 #[.pointer (some ⟨bl, 0, none⟩), .agg #[.int .u64 bits, .slice ta tn tc, .bool nl]] w (AddTP bl lw base s nulls data ends nv dv ev tx nl w) := by
  have hbs := lt_of_blk h.blk
  have hc0 := cell_blk (k := 0) h.blk
  have hc1 := cell_blk (k := 1) h.blk
  have hc3 := cell_blk (k := 3) h.blk
  have hf3 := frozen_blk (k := 3) h.blk
  simp at hc0 hc1 hc3
  have H0 := Aside.mk h
  have HT := Aside.mk (And.intro ht htn)
  clear h ht
  have ta1 := assert_running2
  go_enter Try.func64, Try.ntmps64
  go_wp2_with (first | (go_at_call 57; refine (of_running s _).mono ?_; rintro e w1 ⟨rfl, rfl⟩))
  have B3 : Below w.heap.size w (((w.alloc (.cells #[.int .u64 bits, .slice ta tn tc, .bool nl] 102)).alloc (.cells #[.int .i64 15, .int .i64 s] 23)).alloc (.cells #[] 125)) := (((Below.refl _ _).alloc (Nat.le_refl _) _).alloc (by simp) _).alloc (by simp; omega) _
  have hv3 : ((((w.alloc (.cells #[.int .u64 bits, .slice ta tn tc, .bool nl] 102)).alloc (.cells #[.int .i64 15, .int .i64 s] 23)).alloc (.cells #[] 125))).heap[w.heap.size]? = some (.cells #[.int .u64 bits, .slice ta tn tc, .bool nl] 102 (0, 0)) := by
    rw [Below.heap_alloc _ _ _ (by simp; omega), Below.heap_alloc _ _ _ (by simp)]
    exact heap_alloc_new _ _
  generalize hw3 : (((w.alloc (.cells #[.int .u64 bits, .slice ta tn tc, .bool nl] 102)).alloc (.cells #[.int .i64 15, .int .i64 s] 23)).alloc (.cells #[] 125)) = w3 at *
  clear hw3 hc0 hc1 hc3 hf3 ta1
  have hs3 := B3.size
  have H3 := Aside.mk (H0.out.below B3)
  have hc3 := cell_blk (k := 3) H3.out.blk
  have hf3 := frozen_blk (k := 3) H3.out.blk
  have hcv := cell_blk (k := 1) hv3
  simp at hc3 hcv
  obtain ⟨a1, c1, rfl⟩ := H3.out.data.form
  have hown := Aside.mk (show Own w3.drew base 5 1 (.slice a1 data.length c1) data.length (data.map (.int .u8)) from H3.out.data)
  have hsrc := Aside.mk ((show Rd w3.drew 1 (.slice ta tn tc) tn (tx.map (.int .u8)) from HT.out.1.below (B3.trans (below_drewN w3 _ 1))).src (tx := 37) (P := Try.prog) Try.underlying37 (fun u hu => by obtain ⟨x, _, rfl⟩ := List.mem_map.1 hu; rfl))
  have hbase := Aside.mk (show base ≤ w3.drew.heap.size from Nat.le_trans hb hs3)
  have h63 := Aside.mk (show data.length + tn ≤ maxLen by unfold maxLen; omega)
  have hby := Aside.mk (show (data.length + tn) * 1 ≤ 140737488355328 by omega)
  have HB3 := Aside.mk B3
  have HV3 := Aside.mk hv3
  clear B3 hv3
  go_region_law ((refine step_app (P := Try.prog) w3.drew (by rfl) (.tmp 22) (.tmp 24) 37 37 (by rfl) base 5 (.int .u8 0) 1 1 Try.underlying37 u8info (by rfl) (.slice a1 data.length c1) data.length (data.map (.int .u8)) (by rfl) hown.out (.slice ta tn tc) tn (tx.map (.int .u8)) (by rfl) hsrc.out h63.out hby.out hbase.out ?_; intro v' w5 hown' hgrow _ hat; obtain ⟨a5, c5, rfl⟩ := hown'.form; have hb5 := (hgrow.block bl (lt_of_blk H3.out.blk) (fun e => H3.out.data.blk_ne H3.out.blk (by decide) e.symm)).trans H3.out.blk; have hc5 := cell_blk (k := 3) hb5; have hf5 := frozen_blk (k := 3) hb5; simp at hc5; have HG := Aside.mk (And.intro hown' (And.intro hgrow hat)); clear hown' hgrow hat hb5))
  all_goals
    have hown5 : Own w5 base 5 1 (.slice a5 (data.length + tn) c5) (data ++ tx).length ((data ++ tx).map (.int .u8)) := by
      have := HG.out.1
      rw [List.length_append, List.map_append, HT.out.2]
      exact this
    have h5 := (show IsB w3.drew bl lw base 15 s nulls data ends nv (.slice a1 data.length c1) ev from H3.out.drewN 1).app_data0 HG.out.2.1 hown5
    have H5 := Aside.mk h5
    clear h5 hown5
    generalize hw6 : w5.setCell ⟨bl, 3, none⟩ (.slice a5 (data.length + tn) c5) = w6 at *
    clear hc5 hf5 hc3 hf3
    obtain ⟨ea, ec, rfl⟩ := H5.out.1.ends.form
    have hc3 := cell_blk (k := 3) H5.out.1.blk
    have hc4 := cell_blk (k := 4) H5.out.1.blk
    have hf4 := frozen_blk (k := 4) H5.out.1.blk
    simp at hc3 hc4
    have hown6 := Aside.mk (show Own (w6.alloc (.cells #[.int .i64 ((data.length : Int) + tn)] 3)).drew base 3 1 (.slice ea ends.length ec) ends.length (ends.map (.int .i64)) from (H5.out.1.ends.alloc (.cells #[.int .i64 ((data.length : Int) + tn)] 3)))
    have hsrc6 := Aside.mk (src_one_drew (P := Try.prog) (w := w6) Try.underlying40 w6.heap.size (.int .i64 ((data.length : Int) + tn)) 3 rfl rfl)
    have hbs6 : bl < w6.heap.size := lt_of_blk H5.out.1.blk
    have hs6 : w3.heap.size ≤ w6.heap.size := H5.out.2.size
    have hbase6 := Aside.mk (show base ≤ ((w6.alloc (.cells #[.int .i64 ((data.length : Int) + tn)] 3)).drew).heap.size by show base ≤ (w6.alloc _).heap.size; simp; omega)
    have h636 := Aside.mk (show ends.length + 1 ≤ maxLen by unfold maxLen; omega)
    have hby6 := Aside.mk (show (ends.length + 1) * 8 ≤ 140737488355328 by omega)
    go_wp2
    go_region_law ((refine step_app (P := Try.prog) ((w6.alloc (.cells #[.int .i64 ((data.length : Int) + tn)] 3)).drew) (by rfl) (.tmp 32) (.tmp 38) 40 40 (by rfl) base 3 (.int .i64 0) 1 8 Try.underlying40 intinfo2 (by rfl) (.slice ea ends.length ec) ends.length (ends.map (.int .i64)) (by rfl) hown6.out (.slice (some ⟨w6.heap.size, 0, none⟩) 1 1) 1 [.int .i64 ((data.length : Int) + tn)] (by rfl) hsrc6.out h636.out hby6.out hbase6.out ?_; intro v' w7 hown' hgrow _ hat; obtain ⟨a7, c7, rfl⟩ := hown'.form; have hb7 := (hgrow.block bl (Nat.lt_of_lt_of_le (lt_of_blk H5.out.1.blk) (by show _ ≤ (w6.alloc _).heap.size; simp)) (fun e => H5.out.1.ends.blk_ne H5.out.1.blk (by decide) e.symm)).trans ((Below.heap_alloc w6 (.cells #[.int .i64 ((data.length : Int) + tn)] 3) _ (lt_of_blk H5.out.1.blk)).trans H5.out.1.blk); have hc7 := cell_blk (k := 4) hb7; have hf7 := frozen_blk (k := 4) hb7; simp at hc7; have HG7 := Aside.mk (And.intro hown' (And.intro hgrow hat)); clear hown' hgrow hat hb7))
    all_goals
      have hown7 : Own w7 base 3 1 (.slice a7 (ends.length + 1) c7) (ends ++ [((data ++ tx).length : Int)]).length ((ends ++ [((data ++ tx).length : Int)]).map (.int .i64)) := by
        have := HG7.out.1
        have e : ((data ++ tx).length : Int) = (data.length : Int) + (tn : Int) := by rw [List.length_append, HT.out.2]; omega
        rw [List.length_append, List.map_append, e]
        exact this
      have h7 := ((H5.out.1.below (below_new w6 (.cells #[.int .i64 ((data.length : Int) + tn)] 3))).drewN 1).app_ends HG7.out.2.1 hown7
      have H7 := Aside.mk h7
      clear h7 hown7 hc7 hf7 hc3 hc4 hf4
      generalize hw8 : w7.setCell ⟨bl, 4, none⟩ (.slice a7 (ends.length + 1) c7) = w8 at *
      clear hw8
      have K8 : Kept (fun b => b = bl ∨ Value.ownBlock (.slice a1 data.length c1) = some b ∨ Value.ownBlock (.slice ea ends.length ec) = some b) w3 w8 :=
        ((Kept.of_below (below_drewN w3 _ 1)).trans H5.out.2 (fun b e _ => e.elim .inl (fun e => .inr (.inl e)))).trans ((Kept.of_below ((below_new w6 (.cells #[.int .i64 ((data.length : Int) + tn)] 3)).trans (below_drewN _ _ 1))).trans H7.out.2 (fun _ e _ => e)) (fun b e _ => e.elim .inl (fun e => .inr (.inr e)))
      have hv8 := (K8.block w.heap.size (lt_of_blk HV3.out) (by
        rintro (e | e | e)
        · have := lt_of_blk H0.out.blk; omega
        · have := (H0.out.data.lt _ e).2; omega
        · have := (H0.out.ends.lt _ e).2; omega)).trans HV3.out
      have HK8 := Aside.mk K8
      have hcv := cell_blk (k := 2) hv8
      simp at hcv
      obtain ⟨na, nc, rfl⟩ := H7.out.1.nulls.form
      have hcn := cell_blk (k := 2) H7.out.1.blk
      have hfn := frozen_blk (k := 2) H7.out.1.blk
      simp at hcn
      have hbs8 := lt_of_blk H7.out.1.blk
      clear hv8 K8
      generalize hm : nulls.length = m at *
      have HM := Aside.mk hm
      clear hm
      go_wp2_with (fail)
      have hown8 := Aside.mk (own_in (o := .cells #[.bool nl] 4) H7.out.1 HM.out)
      have hsrc8 := Aside.mk (src_one_drew (P := Try.prog) (w := w8) Try.underlying113 w8.heap.size (.bool nl) 4 rfl rfl)
      have hbase8 := Aside.mk (show base ≤ ((w8.alloc (.cells #[.bool nl] 4)).drew).heap.size by have := HK8.out.size; show base ≤ (w8.alloc _).heap.size; simp; omega)
      have h638 := Aside.mk (show m + 1 ≤ maxLen by unfold maxLen; omega)
      have hby8 := Aside.mk (show (m + 1) * 1 ≤ 140737488355328 by omega)
      go_region_law ((refine step_app (P := Try.prog) ((w8.alloc (.cells #[.bool nl] 4)).drew) (by rfl) (.tmp 74) (.tmp 77) 113 113 (by rfl) base 4 (.bool false) 1 1 Try.underlying113 boolinfo (by rfl) (.slice na m nc) m (nulls.map .bool) (by rfl) hown8.out (.slice (some ⟨w8.heap.size, 0, none⟩) 1 1) 1 [.bool nl] (by rfl) hsrc8.out h638.out hby8.out hbase8.out ?_; intro v' w9 hown' hgrow _ hat; obtain ⟨a9, c9, rfl⟩ := hown'.form; have hc9 := cell_blk (k := 2) (blk_grown H7.out.1 hgrow); have hf9 := frozen_blk (k := 2) (blk_grown H7.out.1 hgrow); simp at hc9; have HH := Aside.mk (isB_grown H7.out.1 HM.out hgrow hown'); have HAT := Aside.mk hat; clear hown' hgrow hat))
      all_goals
        go_wp2
        refine bodyPost_ret (v := .tuple #[]) (by simp [results, Try.results64, go_sem]) rfl ?_
        exact ⟨rfl, addT_done hs3 HB3.out HG.out.2.1 HG.out.2.2 H5.out hs6 HG7.out.2.2 H7.out HK8.out HH.out HAT.out⟩
end Go.Proofs.Ytmhjjhaipcgbiaa


/- wakes. -/
namespace Go.Proofs.Ytmhjjhaipcgbiaa
open Go.RowKit
set_option linter.unusedVariables false
set_option linter.unusedSimpArgs false
set_option maxRecDepth 100000
set_option maxHeartbeats 2000000

theorem conv_rd (v : Value) (n : Nat) (xs : List Int) (hn : xs.length = n) (h0 : 0 < n) (w : World) (h : Rd w 1 v n (xs.map (.int .u8))) : (convert 37 9 v).run Try.prog w = .ok (.string (strOfNums xs)) w := by
  obtain ⟨g, o, d, rfl, _, _, hc⟩ := h.some_ (by rw [List.length_map]; omega)
  exact run_convert_bytes_arg w 37 5 Try.underlying37 Try.underlying5 g o n d xs hn (fun i hi => hc i _ (by
    have : i < xs.length := by omega
    simp [List.getElem?_eq_getElem this, List.getD])) 9 Try.underlying9

theorem same_eq (a b : Option Addr) (n ca cb : Nat) (xs : List Int) (hn : xs.length = n) (h0 : 0 < n) (w : World) (ha : Rd w 1 (.slice a n ca) n (xs.map (.int .u8))) (hb : Rd w 1 (.slice b n cb) n (xs.map (.int .u8))) : Calls Try.prog 20 #[.slice a n ca, .slice b n cb] w fun e w' => e = .returned (.bool true) ∧ w = w' := by
  have h1 := conv_rd _ n xs hn h0 w ha
  have h2 := conv_rd _ n xs hn h0 w hb
  clear ha hb
  go_enter Try.func20, Try.ntmps20
  go_wp2
  go_ret
  exact ⟨rfl, rfl⟩

theorem rd_blk {w : World} {g n : Nat} {cs : Array Value} {T : TypeId} {fr : Nat × Nat} (h : w.heap[g]? = some (.cells cs T fr)) (hn : cs.size = n) (hm : n ≤ maxLen) : Rd w 1 (.slice (some ⟨g, 0, none⟩) n n) n cs.toList :=
  ⟨by simp [hn], some ⟨g, 0, none⟩, n, rfl, Nat.le_refl _, hm, (fun e => by cases e), fun j u hu => ⟨g, 0, rfl, by rw [cell_blk h, Nat.zero_add, ← Array.getElem?_toList]; exact hu⟩⟩

theorem num_err (x : Int) (w : World) : Calls Try.prog 9 #[.int .i64 x] w fun e w' => e = .returned (.int .i64 x) ∧ w = w' := num_any x w

theorem wakes_any (w : World) : Calls Try.prog 16 #[] w fun e w' => e = .returned (.bool true) ∧ Below w.heap.size w w' := by
  go_enter Try.func16, Try.ntmps16
  go_wp2_with (first | (go_at_call 25; refine (new_yes 6 0 _ (by decide)).mono ?_; rintro e w1 ⟨bl, lw, rfl, h1, b1, _, mvv, hl1⟩; have H1 := Aside.mk h1; have B1 := Aside.mk b1; have HL1 := Aside.mk hl1; clear h1 b1 hl1) | (go_at_call 9; refine (num_any _ _).mono ?_; rintro e wn ⟨rfl, rfl⟩))
  refine (put_fixed bl lw w.heap.size 6 0 (by decide) (by decide) [] [] [] _ _ _ 258 (by decide) (by decide) (by decide) (by decide) w1 H1.out B1.out.size).mono ?_
  rintro e w2 ⟨rfl, _, nv2, dv2, h2, k2, _, _⟩
  have H2 := Aside.mk h2
  have HL2 := Aside.mk (H1.out.lw_kept HL1.out k2)
  have B2 := Aside.mk (B1.out.trans (k2.to_below B1.out.size (by
    rintro b (e | e | e)
    · subst e; exact H1.out.bbl
    · exact (H1.out.data.lt _ e).1
    · exact (H1.out.nulls.lt _ e).1)))
  clear h2 k2
  go_wp2_with (fail)
  refine (null_fixed bl lw w.heap.size 6 0 (by decide) (by decide) _ _ _ _ _ _ (by decide) (by decide) w2 H2.out B2.out.size).mono ?_
  rintro e w3 ⟨rfl, nv3, dv3, h3, k3, _, _⟩
  have H3 := Aside.mk h3
  have HL3 := Aside.mk (H2.out.lw_kept HL2.out k3)
  have B3 := Aside.mk (B2.out.trans (k3.to_below B2.out.size (by
    rintro b (e | e | e)
    · subst e; exact H2.out.bbl
    · exact (H2.out.data.lt _ e).1
    · exact (H2.out.nulls.lt _ e).1)))
  clear h3 k3
  go_wp2_with (fail)
  have hcol := column_any (fun v _ => ∃ a n c, v = .slice a n c) bl lw w.heap.size 6 0 _ _ _ _ _ _ w3 H3.out.blk H3.out.nulls H3.out.data H3.out.ends (by decide) (by decide) (by decide) (fun v w1 w2 h _ => h) (fun w5 hb _ => by
    refine (words_empty lw mvv w5 ((hb.block _ (lt_of_blk HL3.out)).trans HL3.out)).mono ?_
    rintro e w6 ⟨v', rfl, ho, hb6⟩
    obtain ⟨a, c, rfl⟩ := ho.form
    exact ⟨a, 0, c, rfl, hb6, a, 0, c, rfl⟩)
  refine hcol.mono ?_
  clear hcol
  rintro e w4 ⟨mv, dv', ev', wv, rfl, hm, hd, he, ⟨wa, wn, wcc, rfl⟩, hb4⟩
  have em : mof ([] ++ [false] ++ [true]) = [2] := by decide
  have ed : ([] ++ lows 258 (widthOf 6).toNat ++ lows 0 (widthOf 6).toNat) = [2, 1, 0, 0] := by decide
  rw [em] at hm
  rw [ed] at hd
  obtain ⟨ma, mc, rfl⟩ := hm.form
  obtain ⟨da, dc, rfl⟩ := hd.form
  obtain ⟨ea, ec, rfl⟩ := he.form
  have HM := Aside.mk hm
  have HD := Aside.mk hd
  have B4 := Aside.mk (B3.out.trans (hb4.mono B3.out.size))
  clear hm hd he hb4 H1 H2 H3 B1 B2 B3
  simp only [List.length_append, List.length_cons, List.length_nil]
  go_wp2_with (first | (go_at_call 9; refine (num_any _ _).mono ?_; rintro e wn ⟨rfl, rfl⟩))
  have hB5 : Below w4.heap.size w4 ((w4.alloc (.cells #[.int .i64 6, .int .i64 0, .int .i64 2, .int .i64 2, .slice ma 1 mc, .slice da 4 dc, .slice ea 0 ec, .slice wa wn wcc] 43)).alloc (.cells #[.int .u8 2, .int .u8 1, .int .u8 0, .int .u8 0] 5)) := ((Below.refl _ _).alloc (Nat.le_refl _) _).alloc (by simp) _
  have hB6 : Below w4.heap.size w4 (((w4.alloc (.cells #[.int .i64 6, .int .i64 0, .int .i64 2, .int .i64 2, .slice ma 1 mc, .slice da 4 dc, .slice ea 0 ec, .slice wa wn wcc] 43)).alloc (.cells #[.int .u8 2, .int .u8 1, .int .u8 0, .int .u8 0] 5)).alloc (.cells #[.int .u8 2] 5)) := hB5.alloc (by simp; omega) _
  refine (same_eq da _ 4 dc _ [2, 1, 0, 0] rfl (by decide) _ (HD.out.below hB5).rd ?_).mono ?_
  · have := heap_alloc_new (w4.alloc (.cells #[.int .i64 6, .int .i64 0, .int .i64 2, .int .i64 2, .slice ma 1 mc, .slice da 4 dc, .slice ea 0 ec, .slice wa wn wcc] 43)) (.cells #[.int .u8 2, .int .u8 1, .int .u8 0, .int .u8 0] 5)
    exact rd_blk (n := 4) (by simpa using this) rfl (by decide)
  rintro e w5 ⟨rfl, rfl⟩
  go_wp2_with (fail)
  refine (same_eq ma _ 1 mc _ [2] rfl (by decide) _ (HM.out.below hB6).rd ?_).mono ?_
  · have := heap_alloc_new ((w4.alloc (.cells #[.int .i64 6, .int .i64 0, .int .i64 2, .int .i64 2, .slice ma 1 mc, .slice da 4 dc, .slice ea 0 ec, .slice wa wn wcc] 43)).alloc (.cells #[.int .u8 2, .int .u8 1, .int .u8 0, .int .u8 0] 5)) (.cells #[.int .u8 2] 5)
    exact rd_blk (n := 1) (by simpa using this) rfl (by decide)
  rintro e w6 ⟨rfl, rfl⟩
  go_wp2_with (fail)
  go_ret
  exact ⟨rfl, B4.out.trans (hB6.mono B4.out.size)⟩
end Go.Proofs.Ytmhjjhaipcgbiaa


/- A builder as a whole: its blocks are among S; add at every kind. -/
namespace Go.Proofs.Ytmhjjhaipcgbiaa
open Go.RowKit
set_option linter.unusedVariables false
set_option linter.unusedSimpArgs false
set_option maxRecDepth 100000
set_option maxHeartbeats 1000000

/-- A builder's blocks, apart from each other. -/
structure BSx (w : World) (S : Nat → Prop) (bl : Nat) (k s : Int) (c : CS) (lw : Nat) (nv dv ev : Value) (T : Nat → Prop) : Prop where
  b : IsB w bl lw 0 k s c.nulls c.data c.ends nv dv ev
  l : WL w T lw c.words
  ts : ∀ x, T x → S x ∧ x < w.heap.size ∧ x ≠ bl ∧ nv.ownBlock ≠ some x ∧ dv.ownBlock ≠ some x ∧ ev.ownBlock ≠ some x
  sb : S bl
  sn : ∀ x, nv.ownBlock = some x ∨ dv.ownBlock = some x ∨ ev.ownBlock = some x → S x
/-- A builder at block bl that holds c: its blocks are among S. -/
def BS (w : World) (S : Nat → Prop) (bl : Nat) (k s : Int) (c : CS) : Prop := ∃ lw nv dv ev T, BSx w S bl k s c lw nv dv ev T

theorem BS.kept {w w' : World} {S R : Nat → Prop} {bl : Nat} {k s : Int} {c : CS} (h : BS w S bl k s c) (hk : Kept R w w') (hR : ∀ b, S b → b < w.heap.size → ¬ R b) : BS w' S bl k s c := by
  obtain ⟨lw, nv, dv, ev, T, h⟩ := h
  have hL := h.l.kept hk (fun b hb hlt => hR b (h.ts b hb).1 hlt)
  refine ⟨lw, nv, dv, ev, T, h.b.kept hk (hR bl h.sb (lt_of_blk h.b.blk)) (fun b hb => hR b (h.sn b hb) ?_) hL.lst, hL, fun x hx => ?_, h.sb, h.sn⟩
  · rcases hb with e | e | e
    · exact (h.b.nulls.lt b e).2
    · exact (h.b.data.lt b e).2
    · exact (h.b.ends.lt b e).2
  · obtain ⟨h1, h2, h3⟩ := h.ts x hx
    exact ⟨h1, Nat.lt_of_lt_of_le h2 hk.size, h3⟩
theorem BS.below {w w' : World} {S : Nat → Prop} {bl : Nat} {k s : Int} {c : CS} (h : BS w S bl k s c) (hb : Below w.heap.size w w') : BS w' S bl k s c :=
  h.kept (Kept.of_below (S := fun _ => False) hb) (fun _ _ _ e => e)
theorem BS.mono {w : World} {S S' : Nat → Prop} {bl : Nat} {k s : Int} {c : CS} (h : BS w S bl k s c) (hS : ∀ b, S b → b < w.heap.size → S' b) : BS w S' bl k s c := by
  obtain ⟨lw, nv, dv, ev, T, h⟩ := h
  refine ⟨lw, nv, dv, ev, T, h.b, h.l, fun x hx => ?_, hS bl h.sb (lt_of_blk h.b.blk), fun x hx => hS x (h.sn x hx) ?_⟩
  · obtain ⟨h1, h2, h3⟩ := h.ts x hx
    exact ⟨hS x h1 h2, h2, h3⟩
  · rcases hx with e | e | e
    · exact (h.b.nulls.lt x e).2
    · exact (h.b.data.lt x e).2
    · exact (h.b.ends.lt x e).2

/-- What a step of a builder leaves. -/
def StepP (S : Nat → Prop) (bl : Nat) (k s : Int) (c' : CS) (r : Value) (w : World) (e : Ending) (w' : World) : Prop :=
  e = .returned r ∧ BS w' (fun b => S b ∨ w.heap.size ≤ b) bl k s c' ∧ Kept S w w'

/-- Small enough for one value more. -/
def Room (c : CS) (v : V) : Prop := c.data.length + v.text.length ≤ 100000000 ∧ c.nulls.length ≤ 100000000 ∧ c.ends.length ≤ 100000000 ∧ c.words.length ≤ 100000000 ∧ IsBytes v.text ∧ v.bits < 18446744073709551616

theorem own_new {v v' : Value} {w : World} {S : Nat → Prop} (h : v'.ownBlock = v.ownBlock ∨ ∃ b, v'.ownBlock = some b ∧ w.heap.size ≤ b) (hS : ∀ x, v.ownBlock = some x → S x) : ∀ x, v'.ownBlock = some x → S x ∨ w.heap.size ≤ x := fun x e => by
  rcases h with h | ⟨b, h, hb⟩
  · exact .inl (hS x (h ▸ e))
  · rw [h] at e; cases e; exact .inr hb
theorem own_apart {v v' : Value} {w : World} {x : Nat} (h : v'.ownBlock = v.ownBlock ∨ ∃ b, v'.ownBlock = some b ∧ w.heap.size ≤ b) (hx : x < w.heap.size) (hn : v.ownBlock ≠ some x) : v'.ownBlock ≠ some x := fun e => by
  rcases h with h | ⟨b, h, hb⟩
  · exact hn (h ▸ e)
  · rw [h] at e; cases e; omega

theorem add_BS (S : Nat → Prop) (bl : Nat) (k s : Int) (c : CS) (v : V) (ta : Option Addr) (tc : Nat) (hr : Room c v) (w : World) (h : BS w S bl k s c) (ht : Rd w 1 (.slice ta v.text.length tc) v.text.length (v.text.map (.int .u8))) :
    Calls Try.prog 64 #[.pointer (some ⟨bl, 0, none⟩), .agg #[.int .u64 (v.bits : Int), .slice ta v.text.length tc, .bool v.null]] w (StepP S bl k s (c.add k v) (.tuple #[]) w) := by
  obtain ⟨lw, nv, dv, ev, T, h⟩ := h
  obtain ⟨r1, r2, r3, r4, r5, r6⟩ := hr
  have hn := h.sn
  by_cases h15 : k = 15
  · subst h15
    refine (add_running bl lw 0 s c.nulls c.data c.ends nv dv ev v.bits ta v.text.length tc v.text v.null r1 r2 r3 w h.b (Nat.zero_le _) ht rfl).mono ?_
    rintro e w' ⟨rfl, nv', dv', ev', hb, hk, od, on, oe⟩
    refine ⟨rfl, ⟨lw, nv', dv', ev', T, ?_, ?_, ?_, .inl h.sb, ?_⟩, hk.mono ?_⟩
    · show IsB w' bl lw 0 15 s (CS.add 15 c v).nulls (CS.add 15 c v).data (CS.add 15 c v).ends nv' dv' ev'
      simpa [CS.add] using hb
    · show WL w' T lw (CS.add 15 c v).words
      have : (CS.add 15 c v).words = c.words := by simp [CS.add]
      rw [this]
      exact h.l.kept hk (fun b hb _ e => by
        obtain ⟨_, _, a1, a2, a3, a4⟩ := h.ts b hb
        rcases e with e | e | e | e
        · exact a1 e
        · exact a3 e
        · exact a2 e
        · exact a4 e)
    · intro x hx
      obtain ⟨a0, a5, a1, a2, a3, a4⟩ := h.ts x hx
      exact ⟨.inl a0, Nat.lt_of_lt_of_le a5 hk.size, a1, own_apart on a5 a2, own_apart od a5 a3, own_apart oe a5 a4⟩
    · rintro x (e | e | e)
      · exact own_new on (fun y e => hn y (.inl e)) x e
      · exact own_new od (fun y e => hn y (.inr (.inl e))) x e
      · exact own_new oe (fun y e => hn y (.inr (.inr e))) x e
    · rintro b (e | e | e | e) _
      · rw [e]; exact h.sb
      · exact hn b (.inr (.inl e))
      · exact hn b (.inl e)
      · exact hn b (.inr (.inr e))
  by_cases h16 : k = 16
  · subst h16
    have hts : ∀ b, T b → b ≠ bl ∧ nv.ownBlock ≠ some b ∧ dv.ownBlock ≠ some b := fun b hb => ⟨(h.ts b hb).2.2.1, (h.ts b hb).2.2.2.1, (h.ts b hb).2.2.2.2.1⟩
    have hte : ∀ b, T b → ev.ownBlock ≠ some b := fun b hb => (h.ts b hb).2.2.2.2.2
    have fin : ∀ (X : Nat) (ws2 : List (List Int)) (e : Ending) (w' : World), AddCP bl lw s T c.nulls c.data c.ends c.words nv dv ev X ws2 v.null w e w' → c.add 16 v = ⟨c.nulls ++ [v.null], c.data ++ lows X 4, c.ends, ws2⟩ → StepP S bl 16 s (c.add 16 v) (.tuple #[]) w e w' := by
      rintro X ws2 e w' ⟨rfl, nv', dv', hb, hl, hk, od, on⟩ hc
      rw [hc]
      have hl2 := hl.mono (T' := fun b => (T b ∨ w.heap.size ≤ b ∧ b ≠ bl ∧ nv'.ownBlock ≠ some b ∧ dv'.ownBlock ≠ some b) ∧ b < w'.heap.size) (fun b h1 h2 => ⟨h1, h2⟩)
      refine ⟨rfl, ⟨lw, nv', dv', ev, _, hb, hl2, ?_, .inl h.sb, ?_⟩, hk.mono ?_⟩
      · rintro x ⟨hx | hx, hlt⟩
        · obtain ⟨a0, a5, a1, a2, a3, a4⟩ := h.ts x hx
          exact ⟨.inl a0, hlt, a1, own_apart on a5 a2, own_apart od a5 a3, a4⟩
        · exact ⟨.inr hx.1, hlt, hx.2.1, hx.2.2.1, hx.2.2.2, fun e => by have := (h.b.ends.lt x e).2; omega⟩
      · rintro x (e | e | e)
        · exact own_new on (fun y e => hn y (.inl e)) x e
        · exact own_new od (fun y e => hn y (.inr (.inl e))) x e
        · exact .inl (hn x (.inr (.inr e)))
      · rintro b (e | e | e | e) _
        · exact (h.ts b e).1
        · rw [e]; exact h.sb
        · exact hn b (.inr (.inl e))
        · exact hn b (.inl e)
    cases hv : v.null with
    | true =>
      refine (add_coded_null bl lw s T c.nulls c.data c.ends c.words nv dv ev v.bits ta v.text.length tc (by omega) r2 w h.b h.l hts).mono ?_
      intro e w' hp
      refine fin 0 c.words e w' (by rw [hv]; exact hp) ?_
      simp [CS.add, hv]
    | false =>
      refine (add_coded_word bl lw s T c.nulls c.data c.ends c.words nv dv ev v.bits v.text ta tc (by omega) r2 r4 r5 (by omega) w h.b h.l hts hte ht).mono ?_
      intro e w' hp
      refine fin (codeOf c.words v.text) (addWord c.words v.text) e w' (by rw [hv]; exact hp) ?_
      simp [CS.add, hv]
  · have q1 : (k == 15) = false := by simpa using h15
    have q2 : (k == 16) = false := by simpa using h16
    refine (add_fixed bl lw 0 k s q1 q2 c.nulls c.data c.ends nv dv ev v.bits (.slice ta v.text.length tc) v.null r6 (by omega) r2 w h.b (Nat.zero_le _)).mono ?_
    rintro e w' ⟨rfl, nv', dv', hb, hk, od, on⟩
    have hc : c.add k v = ⟨c.nulls ++ [v.null], c.data ++ lows v.bits (widthOf k).toNat, c.ends, c.words⟩ := by simp [CS.add, h15, h16]
    rw [hc]
    refine ⟨rfl, ⟨lw, nv', dv', ev, T, hb, ?_, ?_, .inl h.sb, ?_⟩, hk.mono ?_⟩
    · exact h.l.kept hk (fun b hb _ e => by
        obtain ⟨_, _, a1, a2, a3, a4⟩ := h.ts b hb
        rcases e with e | e | e
        · exact a1 e
        · exact a3 e
        · exact a2 e)
    · intro x hx
      obtain ⟨a0, a5, a1, a2, a3, a4⟩ := h.ts x hx
      exact ⟨.inl a0, Nat.lt_of_lt_of_le a5 hk.size, a1, own_apart on a5 a2, own_apart od a5 a3, a4⟩
    · rintro x (e | e | e)
      · exact own_new on (fun y e => hn y (.inl e)) x e
      · exact own_new od (fun y e => hn y (.inr (.inl e))) x e
      · exact .inl (hn x (.inr (.inr e)))
    · rintro b (e | e | e) _
      · rw [e]; exact h.sb
      · exact hn b (.inr (.inl e))
      · exact hn b (.inl e)
end Go.Proofs.Ytmhjjhaipcgbiaa


/- A builder's steps: New, Null, Put, Text, Column. -/
namespace Go.Proofs.Ytmhjjhaipcgbiaa
open Go.RowKit
set_option linter.unusedVariables false
set_option linter.unusedSimpArgs false
set_option maxRecDepth 100000
set_option maxHeartbeats 1000000

def NewBP (k s : Int) (w : World) (e : Ending) (w' : World) : Prop := ∃ bl, e = .returned (.tuple #[.pointer (some ⟨bl, 0, none⟩), .int .i64 0]) ∧ BS w' (fun b => w.heap.size ≤ b) bl k s CS.zero ∧ Below w.heap.size w w'
theorem new_BS (k s : Int) (w : World) (h : okType k s = true) : Calls Try.prog 25 #[.agg #[.int .i64 k, .int .i64 s]] w (NewBP k s w) := by
  refine (new_yes k s w h).mono ?_
  rintro e w' ⟨bl, lw, rfl, hb, hbl, hl, _⟩
  refine ⟨bl, rfl, ⟨lw, _, _, _, _, ⟨hb.blk, hb.lst, Nat.zero_le _, Nat.zero_le _, hb.nulls.mono (Nat.zero_le _), hb.data.mono (Nat.zero_le _), hb.ends.mono (Nat.zero_le _)⟩, hl.mono (T' := fun b => (w.heap.size ≤ b ∧ b ≠ bl) ∧ b < w'.heap.size) (fun b h1 h2 => ⟨h1, h2⟩), ?_, hb.bbl, ?_⟩, hbl⟩
  · rintro x ⟨⟨h1, h2⟩, h3⟩
    exact ⟨h1, h3, h2, by simp [Value.ownBlock], by simp [Value.ownBlock], by simp [Value.ownBlock]⟩
  · rintro x (e | e | e) <;> cases e

theorem null_BS (S : Nat → Prop) (bl : Nat) (k s : Int) (c : CS) (hr : Room c ⟨true, 0, []⟩) (w : World) (h : BS w S bl k s c) :
    Calls Try.prog 53 #[.pointer (some ⟨bl, 0, none⟩)] w (StepP S bl k s (c.add k ⟨true, 0, []⟩) (.tuple #[]) w) := by
  have HA := Aside.mk (show Calls Try.prog 64 #[.pointer (some ⟨bl, 0, none⟩), .agg #[.int .u64 0, .slice none 0 0, .bool true]] w (StepP S bl k s (c.add k ⟨true, 0, []⟩) (.tuple #[]) w) from add_BS S bl k s c ⟨true, 0, []⟩ none 0 hr w h (Rd.nil w 1))
  clear h
  go_enter Try.func53, Try.ntmps53
  go_wp2_with (go_at_call 64; refine HA.out.mono ?_; rintro e w1 ⟨rfl, hp⟩; have HP := Aside.mk hp; clear hp)
  exact bodyPost_ret (v := .tuple #[]) (by simp [results, Try.results53, go_sem]) rfl ⟨rfl, HP.out⟩

theorem texts_BS (S : Nat → Prop) (bl : Nat) (k s : Int) (c : CS) (w : World) (h : BS w S bl k s c) : Calls Try.prog 101 #[.pointer (some ⟨bl, 0, none⟩)] w fun e w' => e = .returned (.bool (wordedB k)) ∧ w = w' := by
  obtain ⟨lw, nv, dv, ev, T, h⟩ := h
  have hc0 := cell_blk (k := 0) h.b.blk
  simp at hc0
  clear h
  cases h15 : (k == 15) with
  | true =>
    have HW := Aside.mk (show true = wordedB k by unfold wordedB; rw [h15]; rfl)
    go_enter Try.func101, Try.ntmps101
    go_wp2
    go_ret
    exact ⟨ret_bool HW.out, rfl⟩
  | false =>
    have HW := Aside.mk (show (k == 16) = wordedB k by unfold wordedB; rw [h15]; simp)
    go_enter Try.func101, Try.ntmps101
    go_wp2
    go_ret
    exact ⟨ret_bool HW.out, rfl⟩

def StepBP (S : Nat → Prop) (bl : Nat) (k s : Int) (c' : CS) (r : Value) (w : World) (e : Ending) (w' : World) : Prop :=
  e = .returned r ∧ BS w' (fun b => S b ∨ w.heap.size ≤ b) bl k s c' ∧ Kept S w w'

theorem put_BS (S : Nat → Prop) (bl : Nat) (k s : Int) (c : CS) (X : Nat) (hk : wordedB k = false) (hf : fitsB k s X = true) (hr : Room c ⟨false, X, []⟩) (w : World) (h : BS w S bl k s c) :
    Calls Try.prog 52 #[.pointer (some ⟨bl, 0, none⟩), .int .u64 (X : Int)] w (StepP S bl k s (c.add k ⟨false, X, []⟩) (.int .i64 0) w) := by
  have HT := Aside.mk (texts_BS S bl k s c w h)
  have hX : X < 18446744073709551616 := hr.2.2.2.2.2
  have HA := Aside.mk (fun (w2 : World) (hb : Below w.heap.size w w2) => show Calls Try.prog 64 #[.pointer (some ⟨bl, 0, none⟩), .agg #[.int .u64 (X : Int), .slice none 0 0, .bool false]] w2 (StepP S bl k s (c.add k ⟨false, X, []⟩) (.tuple #[]) w2) from add_BS S bl k s c ⟨false, X, []⟩ none 0 hr w2 (h.below hb) (Rd.nil w2 1))
  have hc0 : w.cell? ⟨bl, 0, none⟩ = some (.int .i64 k) := by obtain ⟨lw, nv, dv, ev, T, h⟩ := h; rw [cell_blk h.b.blk]; rfl
  have hc1 : w.cell? ⟨bl, 1, none⟩ = some (.int .i64 s) := by obtain ⟨lw, nv, dv, ev, T, h⟩ := h; rw [cell_blk h.b.blk]; rfl
  have HF := Aside.mk hf
  have HK := Aside.mk hk
  clear h hf hk hr
  go_enter Try.func52, Try.ntmps52
  go_wp2_with (first | (go_at_call 101; refine HT.out.mono ?_; rintro e w1 ⟨rfl, rfl⟩; rw [HK.out]) | (go_at_call 14; refine (fits_any k s X (by omega) (by omega) _).mono ?_; rintro e w2 ⟨rfl, hb2⟩; rw [HF.out]; have B2 := Aside.mk hb2; clear hb2) | (go_at_call 64; refine (HA.out _ B2.out).mono ?_; rintro e w3 ⟨rfl, hp⟩; have HP := Aside.mk hp; clear hp))
  go_ret
  have hs := B2.out.size
  exact ⟨rfl, HP.out.1.mono (fun b hb _ => hb.elim .inl (fun h => .inr (by omega))), (Kept.of_below B2.out).trans HP.out.2 (fun _ e _ => e)⟩

theorem text_BS (S : Nat → Prop) (bl : Nat) (k s : Int) (c : CS) (tx : List Int) (ta : Option Addr) (tc : Nat) (hk : wordedB k = true) (hr : Room c ⟨false, 0, tx⟩) (w : World) (h : BS w S bl k s c) (ht : Rd w 1 (.slice ta tx.length tc) tx.length (tx.map (.int .u8))) :
    Calls Try.prog 55 #[.pointer (some ⟨bl, 0, none⟩), .slice ta tx.length tc] w (StepP S bl k s (c.add k ⟨false, 0, tx⟩) (.int .i64 0) w) := by
  have HT := Aside.mk (texts_BS S bl k s c w h)
  have HA := Aside.mk (show Calls Try.prog 64 #[.pointer (some ⟨bl, 0, none⟩), .agg #[.int .u64 0, .slice ta tx.length tc, .bool false]] w (StepP S bl k s (c.add k ⟨false, 0, tx⟩) (.tuple #[]) w) from add_BS S bl k s c ⟨false, 0, tx⟩ ta tc hr w h ht)
  have HK := Aside.mk hk
  clear h hk hr ht
  go_enter Try.func55, Try.ntmps55
  go_wp2_with (first | (go_at_call 101; refine HT.out.mono ?_; rintro e w1 ⟨rfl, rfl⟩; rw [HK.out]) | (go_at_call 64; refine HA.out.mono ?_; rintro e w3 ⟨rfl, hp⟩; have HP := Aside.mk hp; clear hp))
  go_ret
  exact ⟨rfl, HP.out⟩

/-- A column in rows of its own, from base on. -/
structure OwnC (w : World) (base : Nat) (c : Col) (B D E W : SL) (vals : List Value) : Prop where
  bits : Own w base 5 1 (.slice B.a c.bits.length B.c) c.bits.length (c.bits.map (.int .u8))
  data : Own w base 5 1 (.slice D.a c.data.length D.c) c.data.length (c.data.map (.int .u8))
  ends : Own w base 3 1 (.slice E.a c.ends.length E.c) c.ends.length (c.ends.map (.int .i64))
  words : Own w base 37 1 (.slice W.a c.words.length W.c) c.words.length vals
  len : vals.length = c.words.length
  each : WOwn w base c.words.length vals c.words
theorem OwnC.rd {w : World} {base : Nat} {c : Col} {B D E W : SL} {vals : List Value} (h : OwnC w base c B D E W vals) : RdC w c B D E W vals :=
  ⟨h.bits.rd, h.data.rd, h.ends.rd, h.words.rd, h.len, fun i t hi => by
    obtain ⟨a, cap, h1, h2⟩ := h.each i t (List.getElem?_eq_some_iff.1 hi).1 hi
    exact ⟨a, cap, h1, h2.rd⟩⟩

def ColBP (c : Col) (w : World) (e : Ending) (w' : World) : Prop := ∃ B D E W vals, e = .returned (colV c B D E W) ∧ OwnC w' w.heap.size c B D E W vals ∧ Below w.heap.size w w'

theorem WOwn.mono {w : World} {base base' i : Nat} {vals : List Value} {ws : List (List Int)} (h : WOwn w base i vals ws) (hb : base' ≤ base) : WOwn w base' i vals ws := fun j t hj ht => by
  obtain ⟨a, cap, h1, h2⟩ := h j t hj ht
  exact ⟨a, cap, h1, h2.mono hb⟩

theorem column_BS (S : Nat → Prop) (bl : Nat) (k s : Int) (c : CS) (h1 : c.nulls.length ≤ 100000000) (h2 : c.data.length ≤ 100000000) (h3 : c.ends.length ≤ 100000000) (h4 : c.words.length ≤ 100000000) (h5 : ∀ t ∈ c.words, t.length ≤ 100000000) (w : World) (h : BS w S bl k s c) :
    Calls Try.prog 27 #[.pointer (some ⟨bl, 0, none⟩)] w (ColBP (c.col k s) w) := by
  obtain ⟨lw, nv, dv, ev, T, h⟩ := h
  refine (column_any (fun v w' => ∃ a cp vals, v = .slice a c.words.length cp ∧ Own w' (w.heap.size + 1) 37 1 (.slice a c.words.length cp) c.words.length vals ∧ vals.length = c.words.length ∧ WOwn w' (w.heap.size + 1) c.words.length vals c.words)
    bl lw 0 k s c.nulls c.data c.ends nv dv ev w h.b.blk h.b.nulls h.b.data h.b.ends h1 (by omega) (by omega) ?_ ?_).mono ?_
  · rintro v w1 w2 ⟨a, cp, vals, rfl, ho, hl, hw⟩ hk
    refine ⟨a, cp, vals, rfl, ho.kept hk (fun b e h => by have := (ho.lt b e).1; omega), hl, fun j t hj ht => ?_⟩
    obtain ⟨a, cap, q1, q2⟩ := hw j t hj ht
    exact ⟨a, cap, q1, q2.kept hk (fun b e h => by have := (q2.lt b e).1; omega)⟩
  · intro w2 hb hsz
    refine (words_any T lw c.words h4 (fun t ht => Nat.le_trans (h5 t ht) (by decide)) w2 (h.l.below hb)).mono ?_
    rintro e w' ⟨a, cp, vals, rfl, ho, hl, hw, hb2⟩
    exact ⟨a, _, cp, rfl, hb2, a, cp, vals, rfl, ho.mono hsz, hl, hw.mono hsz⟩
  · rintro e w' ⟨mv, dv', ev', wv, rfl, hm, hd, he, ⟨a, cp, vals, rfl, ho, hl, hw⟩, hb⟩
    obtain ⟨ma, mc, rfl⟩ := hm.form
    obtain ⟨da, dc, rfl⟩ := hd.form
    obtain ⟨ea, ec, rfl⟩ := he.form
    exact ⟨⟨ma, mc⟩, ⟨da, dc⟩, ⟨ea, ec⟩, ⟨a, cp⟩, vals, rfl, ⟨hm, hd, he, ho.mono (by omega), hl, hw.mono (by omega)⟩, hb⟩
end Go.Proofs.Ytmhjjhaipcgbiaa


/- column.Check of any column; what a column that may be gives. -/
namespace Go.Proofs.Ytmhjjhaipcgbiaa
open Go.RowKit
set_option linter.unusedVariables false
set_option linter.unusedSimpArgs false
set_option maxRecDepth 100000
set_option maxHeartbeats 1000000

theorem width_eight {k s : Int} (h : okType k s = true) (h1 : k ≠ 15) : ∃ W : Nat, widthOf k = (W : Int) ∧ (W = 1 ∨ W = 2 ∨ W = 4 ∨ W = 8) := by
  unfold okType at h
  simp only [decide_eq_true_eq] at h
  unfold widthOf
  split
  · exact ⟨1, rfl, by omega⟩
  split
  · exact ⟨2, rfl, by omega⟩
  split
  · exact ⟨4, rfl, by omega⟩
  split
  · exact ⟨8, rfl, by omega⟩
  · omega

theorem check_any (c : Col) (hc : COK c) (B D E X : SL) (vals : List Value) (w : World) (h : RdC w c B D E X vals) : Calls Try.prog 30 #[colV c B D E X] w (IntP (checkC c) w) := by
  cases ho : okType c.k c.s with
  | false => exact check_no c ho B D E X w
  | true =>
    by_cases h15 : c.k = 15
    · exact check_r c h15 ho hc B D E X vals w h
    by_cases h16 : c.k = 16
    · exact check_c c h16 ho hc B D E X vals w h
    obtain ⟨W, hW, hW8⟩ := width_eight ho h15
    exact check_f c h15 h16 hW hW8 ho hc B D E X vals w h

theorem check_zero {c : Col} (h : checkC c = 0) : okType c.k c.s = true ∧ maskOK c.m c.bits = true ∧ c.m = c.n ∧ mayB c = true := by
  unfold checkC at h
  split at h
  · cases h
  · rename_i h1
    split at h
    · rename_i h2
      simp only [Bool.and_eq_true, beq_iff_eq] at h2
      exact ⟨by simpa using h1, h2.1.1, h2.1.2, h2.2⟩
    · cases h
theorem check_bits {c : Col} (h : checkC c = 0) {i : Nat} (hi : (i : Int) < c.n) : i / 8 < c.bits.length := by
  obtain ⟨_, h2, h3, _⟩ := check_zero h
  have := mask_room h2
  omega
theorem check_room {c : Col} (h : checkC c = 0) (h1 : c.k ≠ 15) (h2 : c.k ≠ 16) {W : Nat} (hW : widthOf c.k = (W : Int)) {i : Nat} (hi : (i : Int) < c.n) : i * W + W ≤ c.data.length := by
  obtain ⟨_, _, _, h4⟩ := check_zero h
  unfold mayB at h4
  rw [if_neg h1, if_neg h2, hW, Int.toNat_natCast, mayFixed_eq] at h4
  simp only [Bool.and_eq_true] at h4
  exact sized_room h4.1.1 i (by omega)
theorem coded_facts {c : Col} (h : checkC c = 0) (h2 : c.k = 16) : sizedB 4 c = true ∧ codedRun c c.n.toNat = some c.words.length := by
  obtain ⟨_, _, _, h4⟩ := check_zero h
  unfold mayB at h4
  rw [if_neg (by omega), if_pos h2] at h4
  unfold mayCoded at h4
  simp only [Bool.and_eq_true, beq_iff_eq] at h4
  exact ⟨h4.1.1, h4.2⟩
theorem codedRun_le {c : Col} : ∀ (n i : Nat) {a b : Nat}, i ≤ n → codedRun c i = some a → codedRun c n = some b → a ≤ b
  | 0, i, a, b, hi, h1, h2 => by
    obtain rfl : i = 0 := by omega
    rw [h1] at h2; cases h2; exact Nat.le_refl _
  | n + 1, i, a, b, hi, h1, h2 => by
    by_cases e : i = n + 1
    · subst e; rw [h1] at h2; cases h2; exact Nat.le_refl _
    · rw [codedRun] at h2
      cases h3 : codedRun c n with
      | none => rw [h3] at h2; cases h2
      | some m =>
        rw [h3, Option.bind_some] at h2
        refine Nat.le_trans (codedRun_le n i (by omega) h1 h3) ?_
        unfold codedStep at h2
        dsimp only at h2
        split at h2
        · cases h2
        split at h2 <;> (cases h2; omega)
theorem codedRun_pre {c : Col} : ∀ (n i : Nat) {b : Nat}, i ≤ n → codedRun c n = some b → ∃ a, codedRun c i = some a
  | 0, i, b, hi, h => by obtain rfl : i = 0 := by omega
                         exact ⟨_, h⟩
  | n + 1, i, b, hi, h => by
    by_cases e : i = n + 1
    · subst e; exact ⟨_, h⟩
    · rw [codedRun] at h
      cases h3 : codedRun c n with
      | none => rw [h3] at h; cases h
      | some m => exact codedRun_pre n i (by omega) h3
theorem check_code {c : Col} (h : checkC c = 0) (h2 : c.k = 16) {i : Nat} (hi : (i : Int) < c.n) (hn : nullB c.bits i = false) : wordAt c.data (i * 4) 4 < c.words.length := by
  obtain ⟨_, hr⟩ := coded_facts h h2
  obtain ⟨a, ha⟩ := codedRun_pre c.n.toNat (i + 1) (by omega) hr
  have hle := codedRun_le c.n.toNat (i + 1) (by omega) ha hr
  obtain ⟨m, hm⟩ := codedRun_pre (i + 1) i (by omega) ha
  rw [codedRun, hm, Option.bind_some] at ha
  unfold codedStep at ha
  rw [hn] at ha
  simp only [Bool.false_and, Bool.false_or, Bool.not_false, Bool.true_and] at ha
  split at ha
  · cases ha
  · rename_i h5
    simp at h5
    split at ha
    · rename_i h6
      simp at h6
      cases ha; omega
    · rename_i h6
      simp at h6
      cases ha; omega
theorem running_facts {c : Col} (h : checkC c = 0) (h2 : c.k = 15) : (c.ends.length : Int) = c.n ∧ (∀ i, i < c.ends.length → okR c i = true) := by
  obtain ⟨_, _, _, h4⟩ := check_zero h
  unfold mayB at h4
  rw [if_pos h2, mayRunning_eq] at h4
  simp only [Bool.and_eq_true, beq_iff_eq, List.all_eq_true] at h4
  exact ⟨h4.1.1.1, fun i hi => h4.1.2 i (List.mem_range.2 hi)⟩
theorem check_ends {c : Col} (h : checkC c = 0) (h2 : c.k = 15) : ∀ i, i < c.ends.length → ∃ f t : Nat, aheadI c.ends i = (f : Int) ∧ c.ends.getD i 0 = (t : Int) ∧ f ≤ t ∧ t ≤ c.data.length := by
  obtain ⟨_, hr⟩ := running_facts h h2
  have step : ∀ i, i < c.ends.length → 0 ≤ aheadI c.ends i → ∃ f t : Nat, aheadI c.ends i = (f : Int) ∧ c.ends.getD i 0 = (t : Int) ∧ f ≤ t ∧ t ≤ c.data.length := fun i hi h0 => by
    have := hr i hi
    unfold okR at this
    simp only [Bool.not_eq_true', Bool.or_eq_false_iff, decide_eq_false_iff_not] at this
    obtain ⟨⟨h5, h6⟩, _⟩ := this
    exact ⟨(aheadI c.ends i).toNat, (c.ends.getD i 0).toNat, by omega, by omega, by omega, by omega⟩
  intro i
  induction i with
  | zero => intro hi; exact step 0 hi (by simp [aheadI])
  | succ i ih =>
    intro hi
    obtain ⟨f, t, _, e2, _, _⟩ := ih (by omega)
    exact step (i + 1) hi (by rw [aheadI, if_neg (by omega), Nat.add_sub_cancel, e2]; omega)
end Go.Proofs.Ytmhjjhaipcgbiaa


/- built: a column value by value. -/
namespace Go.Proofs.Ytmhjjhaipcgbiaa
open Go.RowKit
set_option linter.unusedVariables false
set_option linter.unusedSimpArgs false
set_option maxRecDepth 100000
set_option maxHeartbeats 2000000

/-- A row of values that is read. -/
def RdVs (w : World) (A : SL) (l : List V) : Prop :=
  ∃ xs, Rd w 3 (.slice A.a l.length A.c) l.length xs ∧ ∀ (i : Nat) v, l[i]? = some v → ∃ ta tc, xs[i * 3]? = some (.bool v.null) ∧ xs[i * 3 + 1]? = some (.int .u64 (v.bits : Int)) ∧ xs[i * 3 + 2]? = some (.slice ta v.text.length tc) ∧ Rd w 1 (.slice ta v.text.length tc) v.text.length (v.text.map (.int .u8))
theorem RdVs.below {w w' : World} {A : SL} {l : List V} (h : RdVs w A l) (hb : Below w.heap.size w w') : RdVs w' A l := by
  obtain ⟨xs, h1, h2⟩ := h
  exact ⟨xs, h1.below hb, fun i v hi => by obtain ⟨ta, tc, a, b, c, d⟩ := h2 i v hi; exact ⟨ta, tc, a, b, c, d.below hb⟩⟩
theorem RdVs.at {w : World} {A : SL} {l : List V} (h : RdVs w A l) {i : Nat} (hi : i < l.length) : ∃ b off cap ta tc, A.a = some ⟨b, off, none⟩ ∧ A.c = cap ∧ l.length ≤ cap ∧ cap ≤ 9223372036854775807 ∧ w.cell? ⟨b, off + i * 3, none⟩ = some (.bool l[i].null) ∧ w.cell? ⟨b, off + i * 3 + 1, none⟩ = some (.int .u64 (l[i].bits : Int)) ∧ w.cell? ⟨b, off + i * 3 + 2, none⟩ = some (.slice ta l[i].text.length tc) ∧ Rd w 1 (.slice ta l[i].text.length tc) l[i].text.length (l[i].text.map (.int .u8)) := by
  obtain ⟨xs, h1, h2⟩ := h
  obtain ⟨ta, tc, a, b, c, d⟩ := h2 i _ (List.getElem?_eq_getElem hi)
  obtain ⟨g, off, cap, e, q1, q2, hc⟩ := h1.some_ (by rw [h1.len]; omega)
  simp only [Value.slice.injEq, true_and] at e
  obtain ⟨e1, e2⟩ := e
  exact ⟨g, off, cap, ta, tc, e1, e2, q1, q2, hc _ _ a, by rw [Nat.add_assoc]; exact hc _ _ b, by rw [Nat.add_assoc]; exact hc _ _ c, d⟩

/-- Few values, small texts. -/
def Few (l : List V) : Prop := l.length ≤ 1000 ∧ ∀ v ∈ l, v.text.length ≤ 1000

theorem of_sizes (k : Int) (l : List V) (hl : ∀ v ∈ l, v.text.length ≤ 1000) : (CS.of k l).data.length ≤ l.length * 1000 ∧ (CS.of k l).nulls.length = l.length ∧ (CS.of k l).ends.length ≤ l.length ∧ (CS.of k l).words.length ≤ l.length := by
  induction l using snoc_ind with
  | h0 => exact ⟨Nat.le_refl _, rfl, Nat.le_refl _, Nat.le_refl _⟩
  | h1 l v ih =>
    obtain ⟨h1, h2, h3, h4⟩ := ih (fun v hv => hl v (List.mem_append_left _ hv))
    have hv := hl v (by simp)
    have hw8 : (widthOf k).toNat ≤ 8 := by
      unfold widthOf
      split
      · decide
      split
      · decide
      split
      · decide
      split <;> decide
    rw [CS.of_snoc]
    unfold CS.add
    split
    · refine ⟨?_, ?_, ?_, ?_⟩ <;> simp <;> omega
    split
    · refine ⟨?_, ?_, ?_, ?_⟩
      · simp [lows_len]; omega
      · simp; omega
      · simp; omega
      · dsimp only
        split
        · simp; omega
        · have := addWord_len (CS.of k l).words v.text; simp; omega
    · refine ⟨?_, ?_, ?_, ?_⟩
      · simp [lows_len]; omega
      · simp; omega
      · simp; omega
      · simp; omega
theorem of_words (k : Int) (l : List V) (hl : ∀ v ∈ l, v.text.length ≤ 1000) : ∀ t ∈ (CS.of k l).words, t.length ≤ 1000 := by
  induction l using snoc_ind with
  | h0 => intro t ht; cases ht
  | h1 l v ih =>
    have ih := ih (fun v hv => hl v (List.mem_append_left _ hv))
    have hv := hl v (by simp)
    rw [CS.of_snoc]
    unfold CS.add
    split
    · exact ih
    split
    · dsimp only
      split
      · exact ih
      · unfold addWord
        split
        · exact ih
        · intro t ht
          rcases List.mem_append.1 ht with h | h
          · exact ih t h
          · simp at h; subst h; exact hv
    · exact ih
theorem of_room {k s : Int} {l : List V} (hf : Few l) (hl : ∀ v ∈ l, vOK k s v) {i : Nat} (hi : i < l.length) : Room (CS.of k (l.take i)) l[i] := by
  have hm := List.getElem_mem hi
  obtain ⟨h1, h2, h3, h4⟩ := of_sizes k (l.take i) (fun v hv => hf.2 v (List.mem_of_mem_take hv))
  have h5 := hf.2 _ hm
  have h6 := hf.1
  rw [List.length_take] at h1 h2 h3 h4
  exact ⟨by omega, by omega, by omega, by omega, (hl _ hm).1, (hl _ hm).2.1⟩
theorem of_next (k : Int) (l : List V) {i : Nat} (hi : i < l.length) : CS.of k (l.take (i + 1)) = (CS.of k (l.take i)).add k l[i] := by
  rw [List.take_succ_eq_append_getElem hi, CS.of_snoc]

def BuiltP (k s : Int) (l : List V) (w : World) (e : Ending) (w' : World) : Prop :=
  ∃ B D E W vals, e = .returned (.tuple #[colV ((CS.of k l).col k s) B D E W, .bool true]) ∧ OwnC w' w.heap.size ((CS.of k l).col k s) B D E W vals ∧ Below w.heap.size w w'
def BuiltIn (k s : Int) (l : List V) (bl i : Nat) (w wr : World) : Prop :=
  BS wr (fun b => w.heap.size + 2 ≤ b) bl k s (CS.of k (l.take i)) ∧ Below w.heap.size w wr ∧ wr.heap[w.heap.size]? = some (.cells #[.int .i64 k, .int .i64 s] 23 (0, 0)) ∧
  wr.heap[w.heap.size + 1]? = some (.cells #[.int .i64 0, .int .i64 0, .int .i64 0, .int .i64 0, .slice none 0 0, .slice none 0 0, .slice none 0 0, .slice none 0 0] 43 (0, 0))

theorem kept8 (w : World) (b : Nat) (x0 x1 x2 x3 x4 x5 x6 x7 : Value) : Kept (fun k => k = b) w ((((((((w.setCell ⟨b, 0, none⟩ x0).setCell ⟨b, 1, none⟩ x1).setCell ⟨b, 2, none⟩ x2).setCell ⟨b, 3, none⟩ x3).setCell ⟨b, 4, none⟩ x4).setCell ⟨b, 5, none⟩ x5).setCell ⟨b, 6, none⟩ x6).setCell ⟨b, 7, none⟩ x7) := by
  repeat (refine Kept.trans ?_ (Kept.setCell _ _ _) (fun _ e _ => e))
  exact Kept.refl _ _
theorem OwnC.kept {w w' : World} {base : Nat} {c : Col} {B D E W : SL} {vals : List Value} {S : Nat → Prop} (h : OwnC w base c B D E W vals) (hk : Kept S w w') (hS : ∀ b, base ≤ b → ¬ S b) : OwnC w' base c B D E W vals :=
  ⟨h.bits.kept hk (fun b e => hS b (h.bits.lt b e).1), h.data.kept hk (fun b e => hS b (h.data.lt b e).1), h.ends.kept hk (fun b e => hS b (h.ends.lt b e).1), h.words.kept hk (fun b e => hS b (h.words.lt b e).1), h.len, fun i t hi ht => by
    obtain ⟨a, cap, q1, q2⟩ := h.each i t hi ht
    exact ⟨a, cap, q1, q2.kept hk (fun b e => hS b (q2.lt b e).1)⟩⟩
theorem OwnC.mono {w : World} {base base' : Nat} {c : Col} {B D E W : SL} {vals : List Value} (h : OwnC w base c B D E W vals) (hb : base' ≤ base) : OwnC w base' c B D E W vals :=
  ⟨h.bits.mono hb, h.data.mono hb, h.ends.mono hb, h.words.mono hb, h.len, WOwn.mono h.each hb⟩
theorem OwnC.below {w w' : World} {base : Nat} {c : Col} {B D E W : SL} {vals : List Value} (h : OwnC w base c B D E W vals) (hb : Below w.heap.size w w') : OwnC w' base c B D E W vals :=
  h.kept (Kept.of_below (S := fun _ => False) hb) (fun _ _ e => e)

theorem built_next {k s : Int} {l : List V} {bl i : Nat} {w wr w3 : World} {v : V} (hn : CS.of k (l.take (i + 1)) = (CS.of k (l.take i)).add k v) (h : BuiltIn k s l bl i w wr) (hb : BS w3 (fun b => w.heap.size + 2 ≤ b ∨ wr.heap.size ≤ b) bl k s ((CS.of k (l.take i)).add k v)) (hk : Kept (fun b => w.heap.size + 2 ≤ b) wr w3) : BuiltIn k s l bl (i + 1) w w3 := by
  obtain ⟨h1, h2, h3, h4⟩ := h
  have hsz := lt_of_blk h4
  refine ⟨?_, h2.trans (hk.to_below h2.size (fun k h => by omega)), (hk.block _ (lt_of_blk h3) (by omega)).trans h3, (hk.block _ hsz (by omega)).trans h4⟩
  rw [hn]
  exact hb.mono (fun b h _ => by omega)

theorem built_any (k s : Int) (l : List V) (ho : okType k s = true) (hf : Few l) (hl : ∀ v ∈ l, vOK k s v) (A : SL) (w : World) (h : RdVs w A l) :
    Calls Try.prog 18 #[.agg #[.int .i64 k, .int .i64 s], .slice A.a l.length A.c] w (BuiltP k s l w) := by
  obtain ⟨aa, ac⟩ := A
  have HR := Aside.mk h
  have HF := Aside.mk hf
  have HL := Aside.mk hl
  have HO := Aside.mk ho
  have hfl := hf.1
  clear h hf hl ho
  dsimp only
  go_enter Try.func18, Try.ntmps18
  go_wp2_with fail
  have hb1 : Below w.heap.size w ((w.alloc (.cells #[.int .i64 k, .int .i64 s] 23)).alloc (.cells #[.int .i64 0, .int .i64 0, .int .i64 0, .int .i64 0, .slice none 0 0, .slice none 0 0, .slice none 0 0, .slice none 0 0] 43)) := ((Below.refl _ _).alloc (Nat.le_refl _) _).alloc (by simp) _
  have ht1 : ((w.alloc (.cells #[.int .i64 k, .int .i64 s] 23)).alloc (.cells #[.int .i64 0, .int .i64 0, .int .i64 0, .int .i64 0, .slice none 0 0, .slice none 0 0, .slice none 0 0, .slice none 0 0] 43)).heap[w.heap.size]? = some (.cells #[.int .i64 k, .int .i64 s] 23 (0, 0)) := by
    rw [Below.heap_alloc _ _ _ (by simp)]; exact heap_alloc_new w _
  have hr1 : ((w.alloc (.cells #[.int .i64 k, .int .i64 s] 23)).alloc (.cells #[.int .i64 0, .int .i64 0, .int .i64 0, .int .i64 0, .slice none 0 0, .slice none 0 0, .slice none 0 0, .slice none 0 0] 43)).heap[w.heap.size + 1]? = some (.cells #[.int .i64 0, .int .i64 0, .int .i64 0, .int .i64 0, .slice none 0 0, .slice none 0 0, .slice none 0 0, .slice none 0 0] 43 (0, 0)) := by
    simpa using heap_alloc_new (w.alloc (.cells #[.int .i64 k, .int .i64 s] 23)) (.cells #[.int .i64 0, .int .i64 0, .int .i64 0, .int .i64 0, .slice none 0 0, .slice none 0 0, .slice none 0 0, .slice none 0 0] 43)
  have hs1 : ((w.alloc (.cells #[.int .i64 k, .int .i64 s] 23)).alloc (.cells #[.int .i64 0, .int .i64 0, .int .i64 0, .int .i64 0, .slice none 0 0, .slice none 0 0, .slice none 0 0, .slice none 0 0] 43)).heap.size = w.heap.size + 2 := by simp
  generalize ((w.alloc (.cells #[.int .i64 k, .int .i64 s] 23)).alloc (.cells #[.int .i64 0, .int .i64 0, .int .i64 0, .int .i64 0, .slice none 0 0, .slice none 0 0, .slice none 0 0, .slice none 0 0] 43)) = w1 at *
  refine (new_BS k s w1 HO.out).mono ?_
  rintro e w2 ⟨bl, rfl, hbs, hb2⟩
  have HI := Aside.mk (show BuiltIn k s l bl 0 w w2 from ⟨hbs.mono (fun b h _ => by omega), hb1.trans (hb2.mono hb1.size), (hb2.block _ (lt_of_blk ht1)).trans ht1, (hb2.block _ (lt_of_blk hr1)).trans hr1⟩)
  clear hbs hb2 hb1 ht1 hr1 hs1
  go_wp2_with (go_at_call 9; refine (num_any _ _).mono ?_; rintro e wn ⟨rfl, rfl⟩)
  go_loopw [8] (fun iv wr => ∃ i : Nat, i ≤ l.length ∧ iv = .int .i64 (i : Int) ∧ Aside (BuiltIn k s l bl i w wr)) (fun iv _ => l.length - (intOf iv).toNat)
  case atStart => exact ⟨0, by omega, rfl, HI⟩
  case round =>
    clear HI
    obtain ⟨i, hi, rfl, hp⟩ := hrel
    have hc0 := cell_blk (k := 0) hp.out.2.2.1
    have hc1 := cell_blk (k := 1) hp.out.2.2.1
    simp at hc0 hc1
    by_cases hlt : i < l.length
    · obtain ⟨g, off, cap, ta, tc, e1, e2, q1, q2, v0, v1, v2, hrt⟩ := (HR.out.below hp.out.2.1).at hlt
      simp only at e1 e2
      subst e1 e2
      have HRT := Aside.mk hrt
      have HROOM := Aside.mk (of_room HF.out HL.out hlt)
      have HNX := Aside.mk (of_next k l hlt)
      have HV := Aside.mk (HL.out _ (List.getElem_mem hlt))
      clear hrt
      generalize l[i] = v at *
      obtain ⟨vn, vb, vt⟩ := v
      dsimp only at v0 v1 v2 HRT
      cases vn with
      | true =>
        obtain ⟨rfl, rfl⟩ := HV.out.2.2.1 rfl
        have HC := Aside.mk (null_BS _ bl k s _ HROOM.out wr hp.out.1)
        go_wp2_with (first | (go_at_call 53; refine HC.out.mono ?_; rintro e w3 ⟨rfl, hb3, hk3⟩; have HP := Aside.mk (And.intro hb3 hk3); clear hb3 hk3) | (go_at_call 9; refine (num_any _ _).mono ?_; rintro e wn ⟨rfl, rfl⟩))
        exact ⟨⟨i + 1, by omega, by simp, ⟨built_next HNX.out hp.out HP.out.1 HP.out.2⟩⟩, by simp [intOf]; omega⟩
      | false =>
        have hv4 := HV.out.2.2.2 rfl
        cases hwd : wordedB k with
        | true =>
          rw [hwd, if_pos rfl] at hv4
          dsimp only at hv4
          subst hv4
          have HC := Aside.mk (fun (w2 : World) (hb : Below wr.heap.size wr w2) => text_BS _ bl k s _ vt ta tc hwd HROOM.out w2 (hp.out.1.below hb) (HRT.out.below hb))
          have HWD := Aside.mk hwd
          clear hwd
          go_wp2_with (first | (go_at_call 45; refine (worded_any k s _).mono ?_; rintro e wq ⟨rfl, hbq⟩; rw [HWD.out]; have v1q := (hbq.cell (p := ⟨g, off + i * 3 + 1, none⟩) (World.block_lt_of_cell? _ _ v1)).trans v1; have v2q := (hbq.cell (p := ⟨g, off + i * 3 + 2, none⟩) (World.block_lt_of_cell? _ _ v2)).trans v2; have HQ := Aside.mk hbq; clear hbq) | (go_at_call 55; refine (HC.out _ HQ.out).mono ?_; rintro e w3 ⟨rfl, hb3, hk3⟩; have HP := Aside.mk (And.intro hb3 hk3); clear hb3 hk3) | (go_at_call 9; refine (num_any _ _).mono ?_; rintro e wn ⟨rfl, rfl⟩))
          exact ⟨⟨i + 1, by omega, by simp, ⟨built_next HNX.out hp.out (HP.out.1.mono (fun b h _ => h.elim .inl (fun h => .inr (Nat.le_trans HQ.out.size h)))) ((Kept.of_below HQ.out).trans HP.out.2 (fun _ e _ => e))⟩⟩, by simp [intOf]; omega⟩
        | false =>
          rw [hwd, if_neg (by decide)] at hv4
          obtain ⟨hfit, hvt⟩ := hv4
          dsimp only at hfit hvt
          subst hvt
          have HC := Aside.mk (fun (w2 : World) (hb : Below wr.heap.size wr w2) => put_BS _ bl k s _ vb hwd hfit HROOM.out w2 (hp.out.1.below hb))
          have HWD := Aside.mk hwd
          clear hwd hfit
          go_wp2_with (first | (go_at_call 45; refine (worded_any k s _).mono ?_; rintro e wq ⟨rfl, hbq⟩; rw [HWD.out]; have v1q := (hbq.cell (p := ⟨g, off + i * 3 + 1, none⟩) (World.block_lt_of_cell? _ _ v1)).trans v1; have v2q := (hbq.cell (p := ⟨g, off + i * 3 + 2, none⟩) (World.block_lt_of_cell? _ _ v2)).trans v2; have HQ := Aside.mk hbq; clear hbq) | (go_at_call 52; refine (HC.out _ HQ.out).mono ?_; rintro e w3 ⟨rfl, hb3, hk3⟩; have HP := Aside.mk (And.intro hb3 hk3); clear hb3 hk3) | (go_at_call 9; refine (num_any _ _).mono ?_; rintro e wn ⟨rfl, rfl⟩))
          exact ⟨⟨i + 1, by omega, by simp, ⟨built_next HNX.out hp.out (HP.out.1.mono (fun b h _ => h.elim .inl (fun h => .inr (Nat.le_trans HQ.out.size h)))) ((Kept.of_below HQ.out).trans HP.out.2 (fun _ e _ => e))⟩⟩, by simp [intOf]; omega⟩
    · obtain rfl : i = l.length := by omega
      have hp2 := hp.out
      unfold BuiltIn at hp2
      rw [List.take_length] at hp2
      have HP2 := Aside.mk hp2
      obtain ⟨z1, z2, z3, z4⟩ := of_sizes k l HF.out.2
      have HCOL := Aside.mk (column_BS _ bl k s (CS.of k l) (by omega) (by omega) (by omega) (by omega) (fun t ht => Nat.le_trans (of_words k l HF.out.2 t ht) (by decide)) wr hp2.1)
      clear hp2 hc0 hc1 z1 z2 z3 z4
      go_wp2_with (go_at_call 27; refine HCOL.out.mono ?_; rintro e w4 ⟨B, D, E, X, vals, rfl, hoc, hb4⟩; have HOC := Aside.mk hoc; have HB4 := Aside.mk hb4; have hr4 := (hb4.block _ (lt_of_blk HP2.out.2.2.2)).trans HP2.out.2.2.2; obtain ⟨r0, r1, r2, r3, r4, r5, r6, r7⟩ := box8 hr4; have f0 := frozen_blk (k := 0) hr4; have f1 := frozen_blk (k := 1) hr4; have f2 := frozen_blk (k := 2) hr4; have f3 := frozen_blk (k := 3) hr4; have f4 := frozen_blk (k := 4) hr4; have f5 := frozen_blk (k := 5) hr4; have f6 := frozen_blk (k := 6) hr4; have f7 := frozen_blk (k := 7) hr4; have HR4 := Aside.mk hr4; clear hoc hb4 hr4; dsimp only [colV, CS.col])
      refine bodyPost_ret (v := .tuple #[.agg #[.int .i64 k, .int .i64 s, .int .i64 ((CS.of k l).nulls.length : Int), .int .i64 ((CS.of k l).nulls.length : Int), .slice B.a (mof (CS.of k l).nulls).length B.c, .slice D.a (CS.of k l).data.length D.c, .slice E.a (CS.of k l).ends.length E.c, .slice X.a (CS.of k l).words.length X.c], .bool true]) (by simp [results, Try.results18, go_sem, r0, r1, r2, r3, r4, r5, r6, r7]) rfl ?_
      have hsz : w.heap.size + 2 ≤ wr.heap.size := lt_of_blk HP2.out.2.2.2
      have K8 : Kept (fun b => b = w.heap.size + 1) w4 _ := kept8 w4 (w.heap.size + 1) (.int .i64 k) (.int .i64 s) (.int .i64 ((CS.of k l).nulls.length : Int)) (.int .i64 ((CS.of k l).nulls.length : Int)) (.slice B.a (mof (CS.of k l).nulls).length B.c) (.slice D.a (CS.of k l).data.length D.c) (.slice E.a (CS.of k l).ends.length E.c) (.slice X.a (CS.of k l).words.length X.c)
      refine ⟨B, D, E, X, vals, rfl, (HOC.out.kept K8 (fun b h => by omega)).mono (by omega), ?_⟩
      have BF := HP2.out.2.1.trans (HB4.out.mono HP2.out.2.1.size)
      exact BF.trans (K8.to_below BF.size (fun b e => by omega))
end Go.Proofs.Ytmhjjhaipcgbiaa


/- Fit: a value of a type, out of any. -/
namespace Go.Proofs.Ytmhjjhaipcgbiaa
open Go.RowKit
set_option linter.unusedVariables false
set_option linter.unusedSimpArgs false
set_option maxRecDepth 100000
set_option maxHeartbeats 2000000

/-- A value of the type, its text in new memory. -/
def FitV (k s : Int) (w : World) (e : Ending) (w' : World) : Prop :=
  ∃ (v : V) (a : Option Addr) (c : Nat), e = .returned (.agg #[.bool v.null, .int .u64 (v.bits : Int), .slice a v.text.length c]) ∧ vOK k s v ∧ v.text.length ≤ 40 ∧ Own w' w.heap.size 5 1 (.slice a v.text.length c) v.text.length (v.text.map (.int .u8)) ∧ Below w.heap.size w w'

theorem fit_four (w : World) (x1 x2 x3 x4 : Array Value) (t1 t2 t3 t4 : TypeId) :
    Below w.heap.size w ((((w.alloc (.cells x1 t1)).alloc (.cells x2 t2)).alloc (.cells x3 t3)).alloc (.cells x4 t4)) ∧
    ((((w.alloc (.cells x1 t1)).alloc (.cells x2 t2)).alloc (.cells x3 t3)).alloc (.cells x4 t4)).heap[w.heap.size]? = some (.cells x1 t1 (0, 0)) ∧
    ((((w.alloc (.cells x1 t1)).alloc (.cells x2 t2)).alloc (.cells x3 t3)).alloc (.cells x4 t4)).heap[w.heap.size + 1]? = some (.cells x2 t2 (0, 0)) ∧
    ((((w.alloc (.cells x1 t1)).alloc (.cells x2 t2)).alloc (.cells x3 t3)).alloc (.cells x4 t4)).heap[w.heap.size + 1 + 1]? = some (.cells x3 t3 (0, 0)) ∧
    ((((w.alloc (.cells x1 t1)).alloc (.cells x2 t2)).alloc (.cells x3 t3)).alloc (.cells x4 t4)).heap[w.heap.size + 1 + 1 + 1]? = some (.cells x4 t4 (0, 0)) := by
  obtain ⟨b3, h1, h2, h3, hs⟩ := three_new w x1 x2 x3 t1 t2 t3
  refine ⟨b3.alloc (by omega) _, ?_, ?_, ?_, ?_⟩
  · rw [Below.heap_alloc _ _ _ (by omega)]; exact h1
  · rw [Below.heap_alloc _ _ _ (by omega)]; exact h2
  · rw [Below.heap_alloc _ _ _ (by omega)]; exact h3
  · have := heap_alloc_new (((w.alloc (.cells x1 t1)).alloc (.cells x2 t2)).alloc (.cells x3 t3)) (.cells x4 t4)
    rw [hs] at this
    exact this

/-- The four blocks of Fit, x's as it is now. -/
def FitIn (k s : Int) (xs : List Int) (A : SL) (b0 b : Nat) (tv : Value) (w wr : World) : Prop :=
  Below w.heap.size w wr ∧ wr.heap[w.heap.size]? = some (.cells #[.int .i64 k, .int .i64 s] 23 (0, 0)) ∧ wr.heap[w.heap.size + 1]? = some (.cells #[.bool false, .int .u64 (b0 : Int), .slice A.a xs.length A.c] 98 (0, 0)) ∧
  wr.heap[w.heap.size + 1 + 1]? = some (.cells #[.bool false, .int .u64 0, .slice none 0 0] 49 (0, 0)) ∧ wr.heap[w.heap.size + 1 + 1 + 1]? = some (.cells #[.bool false, .int .u64 (b : Int), tv] 49 (0, 0))
theorem FitIn.below {k s : Int} {xs : List Int} {A : SL} {b0 b : Nat} {tv : Value} {w wr w2 : World} (h : FitIn k s xs A b0 b tv w wr) (hb : Below wr.heap.size wr w2) : FitIn k s xs A b0 b tv w w2 := by
  obtain ⟨h1, h2, h3, h4, h5⟩ := h
  exact ⟨h1.trans (hb.mono h1.size), (hb.block _ (lt_of_blk h2)).trans h2, (hb.block _ (lt_of_blk h3)).trans h3, (hb.block _ (lt_of_blk h4)).trans h4, (hb.block _ (lt_of_blk h5)).trans h5⟩
theorem FitIn.setBits {k s : Int} {xs : List Int} {A : SL} {b0 b b2 : Nat} {tv : Value} {w wr : World} (h : FitIn k s xs A b0 b tv w wr) : FitIn k s xs A b0 b2 tv w (wr.setCell ⟨w.heap.size + 1 + 1 + 1, 1, none⟩ (.int .u64 (b2 : Int))) := by
  obtain ⟨h1, h2, h3, h4, h5⟩ := h
  refine ⟨h1.setCell (by simp; omega) _, ?_, ?_, ?_, ?_⟩
  · rw [Below.heap_setCell _ _ _ _ (by simp; omega)]; exact h2
  · rw [Below.heap_setCell _ _ _ _ (by simp)]; exact h3
  · rw [Below.heap_setCell _ _ _ _ (by simp)]; exact h4
  · have := heap_setCell_at (k := 1) h5 (.int .u64 (b2 : Int))
    simpa using this
theorem fit_cells {k s : Int} {xs : List Int} {A : SL} {b0 b : Nat} {tv : Value} {w wr : World} (h : FitIn k s xs A b0 b tv w wr) :
    wr.cell? ⟨w.heap.size, 0, none⟩ = some (.int .i64 k) ∧ wr.cell? ⟨w.heap.size, 1, none⟩ = some (.int .i64 s) ∧ wr.cell? ⟨w.heap.size + 1, 1, none⟩ = some (.int .u64 (b0 : Int)) ∧ wr.cell? ⟨w.heap.size + 1, 2, none⟩ = some (.slice A.a xs.length A.c) ∧
    wr.cell? ⟨w.heap.size + 1 + 1, 0, none⟩ = some (.bool false) ∧ wr.cell? ⟨w.heap.size + 1 + 1, 1, none⟩ = some (.int .u64 0) ∧ wr.cell? ⟨w.heap.size + 1 + 1, 2, none⟩ = some (.slice none 0 0) ∧
    wr.cell? ⟨w.heap.size + 1 + 1 + 1, 0, none⟩ = some (.bool false) ∧ wr.cell? ⟨w.heap.size + 1 + 1 + 1, 1, none⟩ = some (.int .u64 (b : Int)) ∧ wr.cell? ⟨w.heap.size + 1 + 1 + 1, 2, none⟩ = some tv ∧
    (∀ n, wr.frozen? ⟨w.heap.size + 1 + 1, n, none⟩ = false) ∧ (∀ n, wr.frozen? ⟨w.heap.size + 1 + 1 + 1, n, none⟩ = false) := by
  obtain ⟨h1, h2, h3, h4, h5⟩ := h
  refine ⟨?_, ?_, ?_, ?_, ?_, ?_, ?_, ?_, ?_, ?_, fun n => frozen_blk h4, fun n => frozen_blk h5⟩
  · rw [cell_blk h2]; rfl
  · rw [cell_blk h2]; rfl
  · rw [cell_blk h3]; rfl
  · rw [cell_blk h3]; rfl
  · rw [cell_blk h4]; rfl
  · rw [cell_blk h4]; rfl
  · rw [cell_blk h4]; rfl
  · rw [cell_blk h5]; rfl
  · rw [cell_blk h5]; rfl
  · rw [cell_blk h5]; rfl

theorem fit_any (k s : Int) (ho : okType k s = true) (nl : Bool) (b : Nat) (hb : b < 18446744073709551616) (xs : List Int) (hx : IsBytes xs) (A : SL) (hl : xs.length ≤ 9223372036854775807) (w : World) (h : Rd w 1 (.slice A.a xs.length A.c) xs.length (xs.map (.int .u8))) :
    Calls Try.prog 54 #[.agg #[.int .i64 k, .int .i64 s], .agg #[.bool nl, .int .u64 (b : Int), .slice A.a xs.length A.c]] w (FitV k s w) := by
  have HR := Aside.mk h
  have HO := Aside.mk ho
  have HX := Aside.mk hx
  clear h ho hx
  cases nl with
  | true =>
    go_enter Try.func54, Try.ntmps54
    go_wp2
    refine bodyPost_ret (v := .agg #[.bool true, .int .u64 0, .slice none 0 0]) (by simp [results, Try.results54, go_sem]) rfl ?_
    exact ⟨⟨true, 0, []⟩, none, 0, rfl, ⟨isBytes_nil, (show (0 : Nat) < 18446744073709551616 by decide), (fun _ => ⟨rfl, rfl⟩), (fun h => by cases h)⟩, by simp, Own.nil _ _ _ _, (fit_four w _ _ _ _ _ _ _ _).1⟩
  | false =>
    go_enter Try.func54, Try.ntmps54
    go_wp2_with fail
    have HI := Aside.mk (show FitIn k s xs A b 0 (.slice none 0 0) w ((((w.alloc (.cells #[.int .i64 k, .int .i64 s] 23)).alloc (.cells #[.bool false, .int .u64 (b : Int), .slice A.a xs.length A.c] 98)).alloc (.cells #[.bool false, .int .u64 0, .slice none 0 0] 49)).alloc (.cells #[.bool false, .int .u64 0, .slice none 0 0] 49)) from fit_four w _ _ _ _ _ _ _ _)
    generalize ((((w.alloc (.cells #[.int .i64 k, .int .i64 s] 23)).alloc (.cells #[.bool false, .int .u64 (b : Int), .slice A.a xs.length A.c] 98)).alloc (.cells #[.bool false, .int .u64 0, .slice none 0 0] 49)).alloc (.cells #[.bool false, .int .u64 0, .slice none 0 0] 49)) = w4 at *
    cases hwd : wordedB k with
    | true =>
      have HWD := Aside.mk hwd
      have HTW := Aside.mk (fun (w2 : World) a c h => twin_bytes (xs.take 40) ⟨a, c⟩ (by rw [List.length_take]; omega) w2 h)
      have HCT := Aside.mk (fun (w2 : World) h => cut_bytes xs A hl w2 h)
      have HYB := Aside.mk (show IsBytes (xs.take 40) from fun x hx => HX.out x (List.mem_of_mem_take hx))
      have HYL := Aside.mk (show (xs.take 40).length ≤ 40 by rw [List.length_take]; omega)
      generalize xs.take 40 = ys at *
      clear hwd
      go_wp2_with (first | (go_at_call 45; refine (worded_any k s _).mono ?_; rintro e w5 ⟨rfl, hb5⟩; rw [HWD.out]; replace HI := Aside.mk (HI.out.below hb5); obtain ⟨p0, p1, p2, p3, p4, p5, p6, p7, p8, p9, f1, f2⟩ := fit_cells HI.out; clear hb5) | (go_at_call 103; refine (HCT.out _ (HR.out.below HI.out.1)).mono ?_; rintro e w6 ⟨ca, cc, rfl, hrc, rfl⟩; have HRC := Aside.mk hrc; clear hrc) | (go_at_call 102; refine (HTW.out _ _ _ HRC.out).mono ?_; rintro e w7 ⟨ta, tc, rfl, hot, hb7⟩; have HOT := Aside.mk (hot.mono (base' := w.heap.size + 4) (lt_of_blk HI.out.2.2.2.2)); replace HI := Aside.mk (HI.out.below hb7); clear hot hb7 p0 p1 p2 p3 p4 p5 p6 p7 p8 p9 f1 f2; obtain ⟨p0, p1, p2, p3, p4, p5, p6, p7, p8, p9, f1, f2⟩ := fit_cells HI.out))
      refine bodyPost_ret (v := .agg #[.bool false, .int .u64 0, .slice ta ys.length tc]) (by simp [results, Try.results54, go_sem, p4, p5, p6]) rfl ?_
      have hne : ∀ a, a = w.heap.size + 1 + 1 + 1 ∨ a = w.heap.size + 1 + 1 → Value.ownBlock (.slice ta ys.length tc) ≠ some a := fun a ha e => by have := (HOT.out.lt _ e).1; omega
      refine ⟨⟨false, 0, ys⟩, ta, tc, rfl, ⟨HYB.out, (show (0 : Nat) < 18446744073709551616 by decide), (fun h => by cases h), (fun _ => by rw [HWD.out, if_pos rfl])⟩, HYL.out, ?_, ?_⟩
      · exact ((((HOT.out.set_other (a := ⟨w.heap.size + 1 + 1 + 1, 2, none⟩) (hne _ (.inl rfl)) _).set_other (a := ⟨w.heap.size + 1 + 1, 0, none⟩) (hne _ (.inr rfl)) _).set_other (a := ⟨w.heap.size + 1 + 1, 1, none⟩) (hne _ (.inr rfl)) _).set_other (a := ⟨w.heap.size + 1 + 1, 2, none⟩) (hne _ (.inr rfl)) _).mono (by omega)
      · exact (((HI.out.1.setCell (by simp; omega) _).setCell (by simp; omega) _).setCell (by simp; omega) _).setCell (by simp; omega) _
    | false =>
      have HWD := Aside.mk hwd
      clear hwd
      go_wp2_with (go_at_call 45; refine (worded_any k s _).mono ?_; rintro e w5 ⟨rfl, hb5⟩; rw [HWD.out]; replace HI := Aside.mk (HI.out.below hb5); obtain ⟨p0, p1, p2, p3, p4, p5, p6, p7, p8, p9, f1, f2⟩ := fit_cells HI.out; clear hb5)
      have HI2 := Aside.mk (show FitIn k s xs A b (b / 2 ^ 0) (.slice none 0 0) w (w5.setCell ⟨w.heap.size + 1 + 1 + 1, 1, none⟩ (.int .u64 (b : Int))) from by
        have := HI.out.setBits (b2 := b)
        simpa using this)
      clear HI p0 p1 p2 p3 p4 p5 p6 p7 p8 p9 f1 f2
      go_loopw [6] (fun iv wr => ∃ i : Nat, i ≤ 64 ∧ iv = .int .i64 (i : Int) ∧ Aside (FitIn k s xs A b (b / 2 ^ i) (.slice none 0 0) w wr)) (fun iv _ => 64 - (intOf iv).toNat)
      case atStart => exact ⟨0, by omega, rfl, HI2⟩
      case round =>
        clear HI2
        obtain ⟨i, hi, rfl, HI⟩ := hrel
        obtain ⟨p0, p1, p2, p3, p4, p5, p6, p7, p8, p9, f1, f2⟩ := fit_cells HI.out
        have hlt64 : b / 2 ^ i < 18446744073709551616 := Nat.lt_of_le_of_lt (Nat.div_le_self _ _) hb
        have hnext : b / 2 ^ i / 2 = b / 2 ^ (i + 1) := by rw [Nat.div_div_eq_div_mul, Nat.pow_succ]
        have hzero : i = 64 → b / 2 ^ i = 0 := fun h => by rw [h]; exact Nat.div_eq_of_lt hb
        have HN := Aside.mk hnext
        have HZ := Aside.mk hzero
        clear hnext hzero
        have done_ : fitsB k s ((b / 2 ^ i : Nat) : Int) = true → vOK k s ⟨false, b / 2 ^ i, []⟩ := fun h => ⟨isBytes_nil, hlt64, (fun h => by cases h), fun _ => by rw [HWD.out, if_neg (by decide)]; exact ⟨h, rfl⟩⟩
        have HDN := Aside.mk done_
        clear done_
        generalize hx : b / 2 ^ i = x at *
        clear hx
        by_cases h64 : i < 64
        · cases hfit : fitsB k s (x : Int) with
          | true =>
            have HFT := Aside.mk hfit
            clear hfit
            go_wp2_with (go_at_call 15; refine (r18fits_any k s x (by omega) (by omega) _).mono ?_; rintro e w6 ⟨rfl, hb6⟩; rw [HFT.out]; replace HI := Aside.mk (HI.out.below hb6); clear hb6 p0 p1 p2 p3 p4 p5 p6 p7 p8 p9 f1 f2; obtain ⟨p0, p1, p2, p3, p4, p5, p6, p7, p8, p9, f1, f2⟩ := fit_cells HI.out)
            refine bodyPost_ret (v := .agg #[.bool false, .int .u64 (x : Int), .slice none 0 0]) (by simp [results, Try.results54, go_sem, p4, p5, p6]) rfl ?_
            exact ⟨⟨false, x, []⟩, none, 0, rfl, HDN.out HFT.out, by simp, Own.nil _ _ _ _, ((HI.out.1.setCell (by simp; omega) _).setCell (by simp; omega) _).setCell (by simp; omega) _⟩
          | false =>
            have HFT := Aside.mk hfit
            clear hfit
            go_wp2_with (go_at_call 15; refine (r18fits_any k s x (by omega) (by omega) _).mono ?_; rintro e w6 ⟨rfl, hb6⟩; rw [HFT.out]; replace HI := Aside.mk (HI.out.below hb6); clear hb6 p0 p1 p2 p3 p4 p5 p6 p7 p8 p9 f1 f2; obtain ⟨p0, p1, p2, p3, p4, p5, p6, p7, p8, p9, f1, f2⟩ := fit_cells HI.out)
            have hnx := HI.out.setBits (b2 := b / 2 ^ (i + 1))
            rw [← HN.out] at hnx
            refine ⟨⟨i + 1, by omega, by simp, ⟨?_⟩⟩, by simp [intOf]; omega⟩
            rw [← HN.out]
            simpa using hnx
        · obtain rfl : i = 64 := by omega
          have hx0 := HZ.out rfl
          subst hx0
          have HFT := Aside.mk (fits_zero HO.out HWD.out)
          go_wp2
          refine bodyPost_ret (v := .agg #[.bool false, .int .u64 0, .slice none 0 0]) (by simp [results, Try.results54, go_sem, p4, p5, p6]) rfl ?_
          exact ⟨⟨false, 0, []⟩, none, 0, rfl, HDN.out HFT.out, by simp, Own.nil _ _ _ _, ((HI.out.1.setCell (by simp; omega) _).setCell (by simp; omega) _).setCell (by simp; omega) _⟩
end Go.Proofs.Ytmhjjhaipcgbiaa


/- Fits: values of a type, out of any. -/
namespace Go.Proofs.Ytmhjjhaipcgbiaa
open Go.RowKit
set_option linter.unusedVariables false
set_option linter.unusedSimpArgs false
set_option maxRecDepth 100000
set_option maxHeartbeats 2000000

theorem valinfo : (Try.prog.info? 49).map (fun i => (i.zero, i.size, i.bytes)) = some (some (.agg #[.bool false, .int .u64 0, .slice none 0 0]), 3, 40) := by kernel_rfl

/-- Values in a row of their own, each text in a row of its own. -/
structure OwnVs (w : World) (base : Nat) (A : SL) (l : List V) (xs : List Value) : Prop where
  row : Own w base 49 3 (.slice A.a l.length A.c) l.length xs
  each : ∀ (i : Nat) v, l[i]? = some v → ∃ ta tc, xs[i * 3]? = some (.bool v.null) ∧ xs[i * 3 + 1]? = some (.int .u64 (v.bits : Int)) ∧ xs[i * 3 + 2]? = some (.slice ta v.text.length tc) ∧ Own w base 5 1 (.slice ta v.text.length tc) v.text.length (v.text.map (.int .u8))
theorem OwnVs.rd {w : World} {base : Nat} {A : SL} {l : List V} {xs : List Value} (h : OwnVs w base A l xs) : RdVs w A l :=
  ⟨xs, h.row.rd, fun i v hi => by obtain ⟨ta, tc, a, b, c, d⟩ := h.each i v hi; exact ⟨ta, tc, a, b, c, d.rd⟩⟩
theorem OwnVs.kept {w w' : World} {base : Nat} {A : SL} {l : List V} {xs : List Value} {S : Nat → Prop} (h : OwnVs w base A l xs) (hk : Kept S w w') (hS : ∀ b, base ≤ b → b < w.heap.size → ¬ S b) : OwnVs w' base A l xs :=
  ⟨h.row.kept hk (fun b e => hS b (h.row.lt b e).1 (h.row.lt b e).2), fun i v hi => by obtain ⟨ta, tc, a, b, c, d⟩ := h.each i v hi; exact ⟨ta, tc, a, b, c, d.kept hk (fun x e => hS x (d.lt x e).1 (d.lt x e).2)⟩⟩
theorem OwnVs.below {w w' : World} {base : Nat} {A : SL} {l : List V} {xs : List Value} (h : OwnVs w base A l xs) (hb : Below w.heap.size w w') : OwnVs w' base A l xs :=
  h.kept (Kept.of_below (S := fun _ => False) hb) (fun _ _ _ e => e)

def FitsIn (k s : Int) (a : Option Addr) (c i : Nat) (w wr : World) : Prop :=
  ∃ (l : List V) (xs : List Value), l.length = i ∧ (∀ v ∈ l, vOK k s v ∧ v.text.length ≤ 40) ∧ OwnVs wr (w.heap.size + 1) ⟨a, c⟩ l xs ∧ Below w.heap.size w wr ∧ wr.heap[w.heap.size]? = some (.cells #[.int .i64 k, .int .i64 s] 23 (0, 0))
def FitsLP (k s : Int) (w : World) (e : Ending) (w' : World) : Prop :=
  ∃ (l : List V) (A : SL) (xs : List Value), e = .returned (.slice A.a l.length A.c) ∧ l.length ≤ 120 ∧ (∀ v ∈ l, vOK k s v ∧ v.text.length ≤ 40) ∧ OwnVs w' w.heap.size A l xs ∧ Below w.heap.size w w'

theorem get3 (x0 x1 x2 : Value) : ∀ (j : Nat) (u : Value), [x0, x1, x2][j]? = some u → j = 0 ∧ u = x0 ∨ j = 1 ∧ u = x1 ∨ j = 2 ∧ u = x2
  | 0, u, h => by simp at h; exact .inl ⟨rfl, h.symm⟩
  | 1, u, h => by simp at h; exact .inr (.inl ⟨rfl, h.symm⟩)
  | 2, u, h => by simp at h; exact .inr (.inr ⟨rfl, h.symm⟩)
  | n + 3, u, h => by simp at h

theorem src_val (w : World) (x0 x1 x2 : Value) (h0 : x0.oneCell' = true) (h1 : x1.oneCell' = true) (h2 : x2.oneCell' = true) : Src Try.prog 3 35 (.slice (some ⟨w.heap.size, 0, none⟩) 1 1) 1 [x0, x1, x2] (w.alloc (.cells #[x0, x1, x2] 49)) := by
  refine Src.ofSlice _ Try.underlying35 _ 1 1 [x0, x1, x2] rfl (fun j u hu => ?_) (by simp [h0, h1, h2])
  rw [addr_add, cell_blk (heap_alloc_new w _)]
  rcases get3 x0 x1 x2 j u hu with ⟨rfl, rfl⟩ | ⟨rfl, rfl⟩ | ⟨rfl, rfl⟩ <;> rfl

theorem fits_step {k s : Int} {a a5 : Option Addr} {c c5 i : Nat} {w wr w3 w5 : World} {v : V} {va : Option Addr} {vc : Nat} {xs : List Value} {l : List V} {o : Obj} (hl : l.length = i) (hv : ∀ v ∈ l, vOK k s v ∧ v.text.length ≤ 40) (ho : OwnVs wr (w.heap.size + 1) ⟨a, c⟩ l xs) (hb : Below w.heap.size w wr) (ht : wr.heap[w.heap.size]? = some (.cells #[.int .i64 k, .int .i64 s] 23 (0, 0)))
    (hok : vOK k s v) (h40 : v.text.length ≤ 40) (hb3 : Below wr.heap.size wr w3) (hov : Own w3 wr.heap.size 5 1 (.slice va v.text.length vc) v.text.length (v.text.map (.int .u8)))
    (hg : (w3.alloc o).grownBy w5 (Value.ownBlock (.slice a i c))) (hown : Own w5 (w.heap.size + 1) 49 3 (.slice a5 (i + 1) c5) (i + 1) (xs ++ [.bool v.null, .int .u64 (v.bits : Int), .slice va v.text.length vc])) : FitsIn k s a5 c5 (i + 1) w w5 := by
  have hxl : xs.length = i * 3 := by have := ho.row.1; rw [hl] at this; exact this
  have hsw := lt_of_blk ht
  have hrow : Value.ownBlock (.slice a i c) = Value.ownBlock (.slice a l.length c) := by cases a <;> rfl
  have K : Kept (fun b => Value.ownBlock (.slice a i c) = some b) wr w5 := ((Kept.of_below (S := fun b => Value.ownBlock (.slice a i c) = some b) hb3).trans (Kept.of_below (S := fun b => Value.ownBlock (.slice a i c) = some b) (below_new w3 o)) (fun _ e _ => e)).trans (Kept.of_grown hg) (fun _ e _ => e.symm)
  have K3 : Kept (fun b => Value.ownBlock (.slice a i c) = some b) w3 w5 := (Kept.of_below (S := fun b => Value.ownBlock (.slice a i c) = some b) (below_new w3 o)).trans (Kept.of_grown hg) (fun _ e _ => e.symm)
  have hlt : ∀ b, Value.ownBlock (.slice a i c) = some b → w.heap.size + 1 ≤ b ∧ b < wr.heap.size := fun b e => ho.row.lt b (hrow ▸ e)
  refine ⟨l ++ [v], _, by simp [hl], ?_, ⟨by simpa [hl] using hown, ?_⟩, hb.trans (K.to_below hb.size (fun b e => by have := hlt b e; omega)), (K.block _ hsw (fun e => by have := (hlt _ e).1; omega)).trans ht⟩
  · intro u hu
    rcases List.mem_append.1 hu with h | h
    · exact hv u h
    · simp at h; subst h; exact ⟨hok, h40⟩
  · intro j u hj
    rcases Nat.lt_or_ge j l.length with hlt2 | hge
    · rw [List.getElem?_append_left hlt2] at hj
      obtain ⟨ta, tc, q0, q1, q2, q3⟩ := ho.each j u hj
      refine ⟨ta, tc, ?_, ?_, ?_, q3.kept K (fun b e h => ?_)⟩
      · rw [List.getElem?_append_left (by omega)]; exact q0
      · rw [List.getElem?_append_left (by omega)]; exact q1
      · rw [List.getElem?_append_left (by omega)]; exact q2
      · obtain ⟨cur, hc⟩ := own_blk q3 e
        exact ho.row.blk_ne hc (by decide) (hrow ▸ h)
    · rw [List.getElem?_append_right hge] at hj
      have h0 : j - l.length = 0 := by
        have := (List.getElem?_eq_some_iff.1 hj).1
        simp at this
        omega
      rw [h0] at hj
      simp at hj
      subst hj
      have hj3 : j * 3 = xs.length := by omega
      refine ⟨va, vc, ?_, ?_, ?_, (hov.kept K3 (fun b e h => ?_)).mono (by omega)⟩
      · rw [hj3, List.getElem?_append_right (Nat.le_refl _)]; simp
      · rw [hj3, List.getElem?_append_right (by omega)]; simp
      · rw [hj3, List.getElem?_append_right (by omega)]; simp
      · have := (hov.lt b e).1; have := (hlt b h).2; omega

theorem fits_end {k s : Int} {a : Option Addr} {c i : Nat} {w wr : World} (h : FitsIn k s a c i w wr) (hi : i ≤ 120) : FitsLP k s w (.returned (.slice a i c)) wr := by
  obtain ⟨l, xs, hl, hv, ho, hb, _⟩ := h
  refine ⟨l, ⟨a, c⟩, xs, by rw [hl], by omega, hv, ⟨ho.row.mono (by omega), fun j u hj => ?_⟩, hb⟩
  obtain ⟨ta, tc, q0, q1, q2, q3⟩ := ho.each j u hj
  exact ⟨ta, tc, q0, q1, q2, q3.mono (by omega)⟩

theorem fitsL_any (k s : Int) (ho : okType k s = true) (l : List V) (hl : l.length ≤ 9223372036854775807) (hv : ∀ v ∈ l, IsBytes v.text ∧ v.bits < 18446744073709551616 ∧ v.text.length ≤ 9223372036854775807) (A : SL) (w : World) (h : RdVs w A l) :
    Calls Try.prog 17 #[.agg #[.int .i64 k, .int .i64 s], .slice A.a l.length A.c] w (FitsLP k s w) := by
  obtain ⟨aa, ac⟩ := A
  have HR := Aside.mk h
  have HV := Aside.mk hv
  have HO := Aside.mk ho
  clear h hv ho
  dsimp only
  go_enter Try.func17, Try.ntmps17
  go_wp2
  go_loopw [5, 6] (fun ov iv wr => ∃ (i : Nat) (a : Option Addr) (c : Nat), i ≤ l.length ∧ i ≤ 120 ∧ ov = .slice a i c ∧ iv = .int .i64 (i : Int) ∧ Aside (FitsIn k s a c i w wr)) (fun ov iv _ => l.length - (intOf iv).toNat)
  case atStart => exact ⟨0, none, 0, by omega, by omega, rfl, rfl, ⟨[], [], rfl, fun v hv => (by cases hv), ⟨Own.nil _ _ _ _, fun i v h => by simp at h⟩, below_new w _, heap_alloc_new w _⟩⟩
  case round =>
    obtain ⟨i, a, c, hi, hi2, rfl, rfl, hp⟩ := hrel
    by_cases hlt : i < l.length
    · by_cases h120 : i < 120
      · obtain ⟨lv, xs, hll, hlv, hov, hbl, htb⟩ := hp.out
        obtain ⟨g, off, cap, ta, tc, e1, e2, q1, q2, v0, v1, v2, hrt⟩ := (HR.out.below hbl).at hlt
        simp only at e1 e2
        subst e1 e2
        have hc0 := cell_blk (k := 0) htb
        have hc1 := cell_blk (k := 1) htb
        simp at hc0 hc1
        have hvv := HV.out _ (List.getElem_mem hlt)
        generalize l[i] = v at *
        obtain ⟨vn, vb, vt⟩ := v
        dsimp only at v0 v1 v2 hrt hvv
        have HFIT := Aside.mk (fit_any k s HO.out vn vb hvv.2.1 vt hvv.1 ⟨ta, tc⟩ hvv.2.2 wr.drew (hrt.below (below_drewN _ _ 1)))
        have HP1 := Aside.mk (And.intro hll (And.intro hlv (And.intro hov (And.intro hbl htb))))
        clear hrt hvv hll hlv hov hbl htb
        have HROW := Aside.mk (show Own wr (w.heap.size + 1) 49 3 (.slice a i c) i xs by
          have := HP1.out.2.2.1.row
          rw [HP1.out.1] at this
          exact this)
        have hsz1 : w.heap.size + 1 ≤ wr.heap.size := lt_of_blk HP1.out.2.2.2.2
        go_wp2_with fail
        go_region_law (first
          | (refine step_call (P := Try.prog) wr.drew (by rfl) 54 [.tmp 18, .tmp 22] _ (by rfl) [.agg #[.int .i64 k, .int .i64 s], .agg #[.bool vn, .int .u64 (vb : Int), .slice ta vt.length tc]] (by rfl) (fun _ _ => rfl) HFIT.out ?_; rintro e w3 ⟨v', va, vc, rfl, hok, h40, hov, hb3⟩; replace hb3 := undrew hb3; have HF3 := Aside.mk (And.intro hok (And.intro h40 (And.intro hov hb3))); have hsz3 := Nat.le_trans hsz1 hb3.size; clear hok h40 hov hb3; refine ⟨_, rfl, ?_⟩)
          | (refine step_app (P := Try.prog) (w3.alloc (.cells #[.bool v'.null, .int .u64 (v'.bits : Int), .slice va v'.text.length vc] 49)) (by rfl) (.tmp 17) (.tmp 24) 35 35 (by rfl) (w.heap.size + 1) 49 (.agg #[.bool false, .int .u64 0, .slice none 0 0]) 3 40 Try.underlying35 valinfo (by rfl) (.slice a i c) i xs (by rfl) ((HROW.out.below HF3.out.2.2.2).alloc _) (.slice (some ⟨w3.heap.size, 0, none⟩) 1 1) 1 [.bool v'.null, .int .u64 (v'.bits : Int), .slice va v'.text.length vc] (by rfl) (src_val w3 _ _ _ rfl rfl rfl) (by unfold maxLen; omega) (by omega) (by simp; omega) ?_; intro v5 w5 hown' hgrow _ hat; obtain ⟨a5, c5, rfl⟩ := hown'.form; have HST := Aside.mk (fits_step HP1.out.1 HP1.out.2.1 HP1.out.2.2.1 HP1.out.2.2.2.1 HP1.out.2.2.2.2 HF3.out.1 HF3.out.2.1 HF3.out.2.2.2 HF3.out.2.2.1 hgrow hown'); clear hown' hgrow hat))
        all_goals
          go_wp2
          exact ⟨⟨i + 1, a5, c5, by omega, by omega, rfl, by simp, HST⟩, by simp [intOf]; omega⟩
      · obtain rfl : i = 120 := by omega
        go_wp2
        go_ret
        exact fits_end hp.out (by omega)
    · obtain rfl : i = l.length := by omega
      go_wp2
      go_ret
      exact fits_end hp.out (by omega)
end Go.Proofs.Ytmhjjhaipcgbiaa


/- A column that is built is in range. Plain. -/
namespace Go.Proofs.Ytmhjjhaipcgbiaa
open Go.RowKit
set_option linter.unusedVariables false
set_option linter.unusedSimpArgs false
set_option maxRecDepth 100000
set_option maxHeartbeats 1000000

theorem of_bytes (k : Int) (l : List V) (hl : ∀ v ∈ l, IsBytes v.text) : IsBytes (CS.of k l).data ∧ ∀ t ∈ (CS.of k l).words, IsBytes t := by
  induction l using snoc_ind with
  | h0 => exact ⟨isBytes_nil, fun t h => by cases h⟩
  | h1 l v ih =>
    obtain ⟨h1, h2⟩ := ih (fun v hv => hl v (List.mem_append_left _ hv))
    have hv := hl v (by simp)
    rw [CS.of_snoc]
    unfold CS.add
    split
    · exact ⟨isBytes_append h1 hv, h2⟩
    split
    · refine ⟨isBytes_append h1 (lows_bytes _ _), ?_⟩
      dsimp only
      split
      · exact h2
      · exact addWord_bytes h2 hv
    · exact ⟨isBytes_append h1 (lows_bytes _ _), h2⟩
theorem of_ends (k : Int) (l : List V) (hl : ∀ v ∈ l, v.text.length ≤ 1000) : ∀ x ∈ (CS.of k l).ends, 0 ≤ x ∧ x ≤ (l.length : Int) * 1000 := by
  induction l using snoc_ind with
  | h0 => intro x h; cases h
  | h1 l v ih =>
    have ih := ih (fun v hv => hl v (List.mem_append_left _ hv))
    have hv := hl v (by simp)
    have hd := (of_sizes k l (fun v hv => hl v (List.mem_append_left _ hv))).1
    have ih2 : ∀ x ∈ (CS.of k l).ends, 0 ≤ x ∧ x ≤ ((l ++ [v]).length : Int) * 1000 := fun x hx => by
      have := ih x hx
      simp; omega
    rw [CS.of_snoc]
    unfold CS.add
    split
    · intro x hx
      rcases List.mem_append.1 hx with h | h
      · exact ih2 x h
      · simp at h; subst h; simp; omega
    split <;> exact ih2
theorem built_cok {k s : Int} (ho : okType k s = true) {l : List V} (hf : Few l) (hl : ∀ v ∈ l, vOK k s v) : COK ((CS.of k l).col k s) := by
  obtain ⟨h1, h2, h3, h4⟩ := of_sizes k l hf.2
  obtain ⟨h5, h6⟩ := of_bytes k l (fun v hv => (hl v hv).1)
  have h7 := of_ends k l hf.2
  have h8 := of_words k l hf.2
  have h9 := hf.1
  have hm := mof_len (CS.of k l).nulls
  unfold okType at ho
  simp only [decide_eq_true_eq] at ho
  refine ⟨mof_bytes _, h5, fun x hx => ?_, fun t ht => ⟨h6 t ht, Nat.le_trans (h8 t ht) (by decide)⟩, ?_, ?_, ?_, ?_, ?_, ?_, ?_, ?_⟩
  · have := h7 x hx; unfold IsI64; omega
  · show (mof (CS.of k l).nulls).length ≤ _; omega
  · show (CS.of k l).data.length ≤ _; omega
  · show (CS.of k l).ends.length ≤ _; omega
  · show (CS.of k l).words.length ≤ _; omega
  · show IsI64 k; unfold IsI64; omega
  · show IsI64 s; unfold IsI64; omega
  · show IsI64 ((CS.of k l).nulls.length : Int); unfold IsI64; omega
  · show IsI64 ((CS.of k l).nulls.length : Int); unfold IsI64; omega

/-- What is to be known of a column that is built. -/
structure BF (k s : Int) (l : List V) (c : Col) : Prop where
  cok : COK c
  chk : checkC c = 0
  k : c.k = k
  s : c.s = s
  n : c.n = (l.length : Int)
  bits : c.bits = mof (l.map (·.null))
  val : ∀ (i : Nat) (h : i < l.length), l[i].null = false → valueC c i = (l[i].bits, l[i].text)
  nul : ∀ (i : Nat) (h : i < l.length), nullB c.bits i = l[i].null
theorem built_facts {k s : Int} (ho : okType k s = true) {l : List V} (hf : Few l) (hl : ∀ v ∈ l, vOK k s v) : BF k s l ((CS.of k l).col k s) := by
  have h9 := hf.1
  refine ⟨built_cok ho hf hl, built_ok ho l hl (by omega), rfl, rfl, ?_, ?_, fun i h hn => built_value ho l hl (by omega) i h hn, fun i h => built_null k s l i h⟩
  · show ((CS.of k l).nulls.length : Int) = _; rw [nulls_of]; simp
  · show mof (CS.of k l).nulls = _; rw [nulls_of]
end Go.Proofs.Ytmhjjhaipcgbiaa


/- running.value. -/
namespace Go.Proofs.Ytmhjjhaipcgbiaa
open Go.RowKit
set_option linter.unusedVariables false
set_option linter.unusedSimpArgs false
set_option maxRecDepth 100000
set_option maxHeartbeats 3000000

theorem rd_cut2 {w : World} {g off n cap i j : Nat} {xs : List Value} (h : Rd w 1 (.slice (some ⟨g, off, none⟩) n cap) n xs) (hij : i ≤ j) (hj : j ≤ n) : Rd w 1 (.slice (if cap = i then some ⟨g, off, none⟩ else some ⟨g, off + i, none⟩) (j - i) (cap - i)) (j - i) ((xs.drop i).take (j - i)) := by
  split
  · rename_i e
    obtain ⟨hl, a, cap', e', h1, h2, h3, h4⟩ := h
    simp only [Value.slice.injEq, true_and] at e'
    obtain ⟨rfl, rfl⟩ := e'
    obtain rfl : j = i := by omega
    rw [Nat.sub_self, List.take_zero, ← e]
    exact ⟨by simp, _, _, rfl, Nat.zero_le _, by omega, (fun e => by cases e), fun k u hu => by simp at hu⟩
  · exact rd_cut h hij hj

theorem value_r (c : Col) (hc : COK c) (B D E X : SL) (vals : List Value) (i f t : Nat) (hi : i < c.ends.length) (hf : aheadI c.ends i = (f : Int)) (ht : c.ends.getD i 0 = (t : Int)) (hft : f ≤ t) (htd : t ≤ c.data.length) (g off : Nat) (hD : D.a = some ⟨g, off, none⟩) (w : World) (h : RdC w c B D E X vals) :
    Calls Try.prog 138 #[.agg #[], colV c B D E X, .int .i64 (i : Int)] w (ValP 0 ((c.data.drop f).take (t - f)) w) := by
  obtain ⟨ea, ec⟩ := E
  obtain ⟨da, dc⟩ := D
  obtain rfl : da = some ⟨g, off, none⟩ := hD
  have HR := Aside.mk h
  have HC := Aside.mk hc
  have hah := Aside.mk (fun (w2 : World) (hb : Below w.heap.size w w2) => show Calls Try.prog 69 _ w2 (IntP (f : Int) w2) from hf ▸ cahead_any c B ⟨some ⟨g, off, none⟩, dc⟩ ⟨ea, ec⟩ X i (by omega) HC.out.le w2 (HR.out.ends.below hb))
  have hle := HC.out.le
  have hld := HC.out.ld
  clear h hc
  dsimp only [colV] at hah ⊢
  obtain ⟨eb, eo, ecap, hs, hel, hecap, hcE⟩ := rd_get HR.out.ends i hi
  simp only [Value.slice.injEq, true_and] at hs
  obtain ⟨rfl, rfl⟩ := hs
  rw [ht] at hcE
  have HCE := Aside.mk hcE
  have hdm := HR.out.data.max
  obtain ⟨_, da', dcap', hds, hdl, hdc, _, _⟩ := HR.out.data
  simp only [Value.slice.injEq, true_and] at hds
  obtain ⟨hda, hdcc⟩ := hds
  rw [← hdcc] at hdl hdc
  have hdc2 : dc ≤ 9223372036854775807 := by unfold maxLen at hdc; omega
  clear hda hdcc hdc hdm
  have htc : t ≤ dc := Nat.le_trans htd hdl
  have HT := Aside.mk (rd_cut2 HR.out.data hft htd)
  have hxl : ((c.data.drop f).take (t - f)).length = t - f := by rw [List.length_take, List.length_drop]; omega
  have e1 : ((c.data.map (Value.int .u8)).drop f).take (t - f) = ((c.data.drop f).take (t - f)).map (Value.int .u8) := by rw [List.map_take, List.map_drop]
  rw [e1] at HT
  have HXL := Aside.mk hxl
  have HCL := Aside.mk (fun (w2 : World) (hb : Below w.heap.size w w2) => clone_bytes (.slice (if dc = f then some ⟨g, off, none⟩ else some ⟨g, off + f, none⟩) (t - f) (dc - f)) (t - f) _ w2 (by omega) (HT.out.below hb) (one_map (fun x : Int => Value.int .u8 x) (fun _ => rfl) ((c.data.drop f).take (t - f))))
  clear hf ht hcE hxl e1
  generalize (c.data.drop f).take (t - f) = tx at *
  have heb : eb < w.heap.size := World.block_lt_of_cell? _ _ HCE.out
  have hne : eb ≠ w.heap.size + 1 + 1 := by omega
  go_enter Try.func138, Try.ntmps138
  go_wp2_with fail
  obtain ⟨b3, hf3, hx3, hr3, hs3⟩ := three_new w #[] #[.int .i64 c.k, .int .i64 c.s, .int .i64 c.n, .int .i64 c.m, .slice B.a c.bits.length B.c, .slice (some ⟨g, off, none⟩) c.data.length dc, .slice (some ⟨eb, eo, none⟩) c.ends.length ec, .slice X.a c.words.length X.c] #[.int .u64 0, .slice none 0 0, .bool false] 125 43 102
  have B3 := Aside.mk b3
  have HX3 := Aside.mk hx3
  have HR3 := Aside.mk hr3
  have HS3 := Aside.mk hs3
  have HE3 := Aside.mk ((b3.cell (p := ⟨eb, eo + i, none⟩) (World.block_lt_of_cell? _ _ HCE.out)).trans HCE.out)
  clear b3 hf3 hx3 hr3 hs3
  generalize (((w.alloc (.cells #[] 125)).alloc (.cells #[.int .i64 c.k, .int .i64 c.s, .int .i64 c.n, .int .i64 c.m, .slice B.a c.bits.length B.c, .slice (some ⟨g, off, none⟩) c.data.length dc, .slice (some ⟨eb, eo, none⟩) c.ends.length ec, .slice X.a c.words.length X.c] 43)).alloc (.cells #[.int .u64 0, .slice none 0 0, .bool false] 102)) = w3 at *
  obtain ⟨p0, p1, p2, p3, p4, p5, p6, p7⟩ := box8 HX3.out
  have pe := HE3.out
  go_region_law (first
    | (refine step_call (P := Try.prog) w3.drew (by rfl) 69 [.tmp 9, .tmp 10] _ (by rfl) [.agg #[.int .i64 c.k, .int .i64 c.s, .int .i64 c.n, .int .i64 c.m, .slice B.a c.bits.length B.c, .slice (some ⟨g, off, none⟩) c.data.length dc, .slice (some ⟨eb, eo, none⟩) c.ends.length ec, .slice X.a c.words.length X.c], .int .i64 (i : Int)] (by rfl) (fun _ _ => rfl) (hah.out w3.drew (B3.out.trans (below_drewN _ _ 1))) ?_; rintro e wK ⟨rfl, hbK⟩; replace hbK := undrew hbK; have hcK : Below w3.heap.size w3 wK := hbK; obtain ⟨k0, k1, k2, k3, k4, k5, k6, k7⟩ := box8 ((hcK.block _ (lt_of_blk HX3.out)).trans HX3.out); have ke := (hcK.cell (p := ⟨eb, eo + i, none⟩) (World.block_lt_of_cell? _ _ HE3.out)).trans HE3.out; have HBK := Aside.mk hbK; clear hcK hbK; refine ⟨_, rfl, ?_⟩)
    | (refine step_call (P := Try.prog) wK (by rfl) 66 [.tmp 17] _ (by rfl) [.slice (if dc = f then some ⟨g, off, none⟩ else some ⟨g, off + f, none⟩) (t - f) (dc - f)] (by rfl) (fun _ _ => rfl) (HCL.out wK (B3.out.trans (HBK.out.mono B3.out.size))) ?_; rintro e wL ⟨v', rfl, ho, hbL⟩; obtain ⟨va, vc, rfl⟩ := ho.form; have HO := Aside.mk ho; clear ho; have B4 := Aside.mk (HBK.out.trans (hbL.mono HBK.out.size)); have hr4 := (B4.out.block _ (lt_of_blk HR3.out)).trans HR3.out; have q0 := cell_blk (k := 0) hr4; have q1 := cell_blk (k := 1) hr4; have q2 := cell_blk (k := 2) hr4; have z0 := frozen_blk (k := 0) hr4; have z1 := frozen_blk (k := 1) hr4; have z2 := frozen_blk (k := 2) hr4; simp at q0 q1 q2; clear hr4 hbL; refine ⟨_, rfl, ?_⟩))
  all_goals
    go_wp2
    all_goals refine bodyPost_ret (v := .agg #[.int .u64 0, .slice va (t - f) vc, .bool false]) (by simp [results, Try.results138, go_sem, q0, q1, q2]) rfl ?_
    all_goals exact ⟨va, vc, by rw [HXL.out]; rfl, by rw [HXL.out]; exact val_own HS3.out (HO.out.mono HBK.out.size), val_below B3.out B4.out⟩
end Go.Proofs.Ytmhjjhaipcgbiaa


/- running.value of no bytes. -/
namespace Go.Proofs.Ytmhjjhaipcgbiaa
open Go.RowKit
set_option linter.unusedVariables false
set_option linter.unusedSimpArgs false
set_option maxRecDepth 100000
set_option maxHeartbeats 1500000

theorem value_r0 (c : Col) (hc : COK c) (B D E X : SL) (vals : List Value) (i : Nat) (hi : i < c.ends.length) (hf : aheadI c.ends i = 0) (ht : c.ends.getD i 0 = 0) (hD : D.a = none) (w : World) (h : RdC w c B D E X vals) :
    Calls Try.prog 138 #[.agg #[], colV c B D E X, .int .i64 (i : Int)] w (ValP 0 [] w) := by
  obtain ⟨ea, ec⟩ := E
  obtain ⟨da, dc⟩ := D
  obtain rfl : da = none := hD
  have HR := Aside.mk h
  have HC := Aside.mk hc
  have hah := Aside.mk (fun (w2 : World) (hb : Below w.heap.size w w2) => show Calls Try.prog 69 _ w2 (IntP 0 w2) from hf ▸ cahead_any c B ⟨none, dc⟩ ⟨ea, ec⟩ X i (by omega) HC.out.le w2 (HR.out.ends.below hb))
  have hle := HC.out.le
  have hld := HC.out.ld
  clear h hc
  dsimp only [colV] at hah ⊢
  obtain ⟨eb, eo, ecap, hs, hel, hecap, hcE⟩ := rd_get HR.out.ends i hi
  simp only [Value.slice.injEq, true_and] at hs
  obtain ⟨rfl, rfl⟩ := hs
  rw [ht] at hcE
  have HCE := Aside.mk hcE
  obtain ⟨_, da', dcap', hds, hdl, hdc, h0, _⟩ := HR.out.data
  simp only [Value.slice.injEq, true_and] at hds
  obtain ⟨rfl, rfl⟩ := hds
  obtain ⟨e0, rfl⟩ := h0 rfl
  have HCL := Aside.mk (fun (w2 : World) (hb : Below w.heap.size w w2) => clone_bytes (.slice none 0 0) 0 [] w2 (by omega) (Rd.nil w2 1) (fun u hu => by cases hu))
  have E0 := Aside.mk e0
  clear hf ht hcE hdl hdc h0 e0
  have heb : eb < w.heap.size := World.block_lt_of_cell? _ _ HCE.out
  have hne : eb ≠ w.heap.size + 1 + 1 := by omega
  go_enter Try.func138, Try.ntmps138
  go_wp2_with fail
  obtain ⟨b3, hf3, hx3, hr3, hs3⟩ := three_new w #[] #[.int .i64 c.k, .int .i64 c.s, .int .i64 c.n, .int .i64 c.m, .slice B.a c.bits.length B.c, .slice none c.data.length 0, .slice (some ⟨eb, eo, none⟩) c.ends.length ec, .slice X.a c.words.length X.c] #[.int .u64 0, .slice none 0 0, .bool false] 125 43 102
  have B3 := Aside.mk b3
  have HX3 := Aside.mk hx3
  have HR3 := Aside.mk hr3
  have HS3 := Aside.mk hs3
  have HE3 := Aside.mk ((b3.cell (p := ⟨eb, eo + i, none⟩) (World.block_lt_of_cell? _ _ HCE.out)).trans HCE.out)
  clear b3 hf3 hx3 hr3 hs3
  generalize (((w.alloc (.cells #[] 125)).alloc (.cells #[.int .i64 c.k, .int .i64 c.s, .int .i64 c.n, .int .i64 c.m, .slice B.a c.bits.length B.c, .slice none c.data.length 0, .slice (some ⟨eb, eo, none⟩) c.ends.length ec, .slice X.a c.words.length X.c] 43)).alloc (.cells #[.int .u64 0, .slice none 0 0, .bool false] 102)) = w3 at *
  obtain ⟨p0, p1, p2, p3, p4, p5, p6, p7⟩ := box8 HX3.out
  have pe := HE3.out
  go_region_law (first
    | (refine step_call (P := Try.prog) w3.drew (by rfl) 69 [.tmp 9, .tmp 10] _ (by rfl) [.agg #[.int .i64 c.k, .int .i64 c.s, .int .i64 c.n, .int .i64 c.m, .slice B.a c.bits.length B.c, .slice none c.data.length 0, .slice (some ⟨eb, eo, none⟩) c.ends.length ec, .slice X.a c.words.length X.c], .int .i64 (i : Int)] (by rfl) (fun _ _ => rfl) (hah.out w3.drew (B3.out.trans (below_drewN _ _ 1))) ?_; rintro e wK ⟨rfl, hbK⟩; replace hbK := undrew hbK; have hcK : Below w3.heap.size w3 wK := hbK; obtain ⟨k0, k1, k2, k3, k4, k5, k6, k7⟩ := box8 ((hcK.block _ (lt_of_blk HX3.out)).trans HX3.out); have ke := (hcK.cell (p := ⟨eb, eo + i, none⟩) (World.block_lt_of_cell? _ _ HE3.out)).trans HE3.out; have HBK := Aside.mk hbK; clear hcK hbK; refine ⟨_, rfl, ?_⟩)
    | (refine step_call (P := Try.prog) wK (by rfl) 66 [.tmp 17] _ (by rfl) [.slice none 0 0] (by rfl) (fun _ _ => rfl) (HCL.out wK (B3.out.trans (HBK.out.mono B3.out.size))) ?_; rintro e wL ⟨v', rfl, ho, hbL⟩; obtain ⟨va, vc, rfl⟩ := ho.form; have HO := Aside.mk ho; clear ho; have B4 := Aside.mk (HBK.out.trans (hbL.mono HBK.out.size)); have hr4 := (B4.out.block _ (lt_of_blk HR3.out)).trans HR3.out; have q0 := cell_blk (k := 0) hr4; have q1 := cell_blk (k := 1) hr4; have q2 := cell_blk (k := 2) hr4; have z0 := frozen_blk (k := 0) hr4; have z1 := frozen_blk (k := 1) hr4; have z2 := frozen_blk (k := 2) hr4; simp at q0 q1 q2; clear hr4 hbL; refine ⟨_, rfl, ?_⟩))
  all_goals
    go_wp2
    all_goals refine bodyPost_ret (v := .agg #[.int .u64 0, .slice va 0 vc, .bool false]) (by simp [results, Try.results138, go_sem, q0, q1, q2]) rfl ?_
    all_goals exact ⟨va, vc, rfl, val_own HS3.out (HO.out.mono HBK.out.size), val_below B3.out B4.out⟩
end Go.Proofs.Ytmhjjhaipcgbiaa
