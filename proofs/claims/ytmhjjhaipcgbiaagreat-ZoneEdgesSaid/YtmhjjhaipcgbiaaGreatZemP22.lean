/- Texts of this claim, one behind the other: Wakes, BS, Steps. -/
import Derived.Test.YtmhjjhaipcgbiaaGreatZemP11
import Derived.Laws.BytesArg
import Derived.Test.YtmhjjhaipcgbiaaGreatZemP21

namespace Go.Proofs.YtmhjjhaipcgbiaaGreat
open Go.RowKit
set_option linter.unusedVariables false
set_option linter.unusedSimpArgs false
set_option maxRecDepth 100000
set_option maxHeartbeats 2000000
theorem rd_blk {w : World} {g n : Nat} {cs : Array Value} {T : TypeId} {fr : Nat × Nat} (h : w.heap[g]? = some (.cells cs T fr)) (hn : cs.size = n) (hm : n ≤ maxLen) : Rd w 1 (.slice (some ⟨g, 0, none⟩) n n) n cs.toList :=
  ⟨by simp [hn], some ⟨g, 0, none⟩, n, rfl, Nat.le_refl _, hm, (fun e => by cases e), fun j u hu => ⟨g, 0, rfl, by rw [cell_blk h, Nat.zero_add, ← Array.getElem?_toList]; exact hu⟩⟩
end Go.Proofs.YtmhjjhaipcgbiaaGreat


namespace Go.Proofs.YtmhjjhaipcgbiaaGreat
open Go.RowKit
set_option linter.unusedVariables false
set_option linter.unusedSimpArgs false
set_option maxRecDepth 100000
set_option maxHeartbeats 1000000
structure BSx (w : World) (S : Nat → Prop) (bl : Nat) (k s : Int) (c : CS) (lw : Nat) (nv dv ev : Value) (T : Nat → Prop) : Prop where
  b : IsB w bl lw 0 k s c.nulls c.data c.ends nv dv ev
  l : WL w T lw c.words
  ts : ∀ x, T x → S x ∧ x < w.heap.size ∧ x ≠ bl ∧ nv.ownBlock ≠ some x ∧ dv.ownBlock ≠ some x ∧ ev.ownBlock ≠ some x
  sb : S bl
  sn : ∀ x, nv.ownBlock = some x ∨ dv.ownBlock = some x ∨ ev.ownBlock = some x → S x
def BS (w : World) (S : Nat → Prop) (bl : Nat) (k s : Int) (c : CS) : Prop := ∃ lw nv dv ev T, BSx w S bl k s c lw nv dv ev T
theorem BS.kept {w w' : World} {S R : Nat → Prop} {bl : Nat} {k s : Int} {c : CS} (h : BS w S bl k s c) (hk : Kept R w w') (hR : ∀ b, S b → b < w.heap.size → ¬ R b) : BS w' S bl k s c := by
  obtain ⟨lw, nv, dv, ev, T, h⟩ := h
  have hL := h.l.kept hk (fun b hb hlt => hR b (h.ts b hb).1 hlt)
  refine ⟨lw, nv, dv, ev, T, h.b.kept hk (hR bl h.sb (lt_of_blk h.b.blk)) (fun b hb => hR b (h.sn b hb) ?_) hL.lst, hL, fun x hx => ?_, h.sb, h.sn⟩
  · rcases hb with e | e | e
    · exact (h.b.nulls.lt b e).2
    · exact (h.b.data.lt b e).2
    · exact (h.b.ends.lt b e).2
  · obtain ⟨h1, h2, h3⟩ := h.ts x hx
    exact ⟨h1, Nat.lt_of_lt_of_le h2 hk.size, h3⟩
theorem BS.below {w w' : World} {S : Nat → Prop} {bl : Nat} {k s : Int} {c : CS} (h : BS w S bl k s c) (hb : Below w.heap.size w w') : BS w' S bl k s c :=
  h.kept (Kept.of_below (S := fun _ => False) hb) (fun _ _ _ e => e)
theorem BS.mono {w : World} {S S' : Nat → Prop} {bl : Nat} {k s : Int} {c : CS} (h : BS w S bl k s c) (hS : ∀ b, S b → b < w.heap.size → S' b) : BS w S' bl k s c := by
  obtain ⟨lw, nv, dv, ev, T, h⟩ := h
  refine ⟨lw, nv, dv, ev, T, h.b, h.l, fun x hx => ?_, hS bl h.sb (lt_of_blk h.b.blk), fun x hx => hS x (h.sn x hx) ?_⟩
  · obtain ⟨h1, h2, h3⟩ := h.ts x hx
    exact ⟨hS x h1 h2, h2, h3⟩
  · rcases hx with e | e | e
    · exact (h.b.nulls.lt x e).2
    · exact (h.b.data.lt x e).2
    · exact (h.b.ends.lt x e).2
def StepP (S : Nat → Prop) (bl : Nat) (k s : Int) (c' : CS) (r : Value) (w : World) (e : Ending) (w' : World) : Prop :=
  e = .returned r ∧ BS w' (fun b => S b ∨ w.heap.size ≤ b) bl k s c' ∧ Kept S w w'
def Room (c : CS) (v : V) : Prop := c.data.length + v.text.length ≤ 100000000 ∧ c.nulls.length ≤ 100000000 ∧ c.ends.length ≤ 100000000 ∧ c.words.length ≤ 100000000 ∧ IsBytes v.text ∧ v.bits < 18446744073709551616
theorem own_new {v v' : Value} {w : World} {S : Nat → Prop} (h : v'.ownBlock = v.ownBlock ∨ ∃ b, v'.ownBlock = some b ∧ w.heap.size ≤ b) (hS : ∀ x, v.ownBlock = some x → S x) : ∀ x, v'.ownBlock = some x → S x ∨ w.heap.size ≤ x := fun x e => by
  rcases h with h | ⟨b, h, hb⟩
  · exact .inl (hS x (h ▸ e))
  · rw [h] at e; cases e; exact .inr hb
theorem own_apart {v v' : Value} {w : World} {x : Nat} (h : v'.ownBlock = v.ownBlock ∨ ∃ b, v'.ownBlock = some b ∧ w.heap.size ≤ b) (hx : x < w.heap.size) (hn : v.ownBlock ≠ some x) : v'.ownBlock ≠ some x := fun e => by
  rcases h with h | ⟨b, h, hb⟩
  · exact hn (h ▸ e)
  · rw [h] at e; cases e; omega
theorem add_BS (S : Nat → Prop) (bl : Nat) (k s : Int) (c : CS) (v : V) (ta : Option Addr) (tc : Nat) (hr : Room c v) (w : World) (h : BS w S bl k s c) (ht : Rd w 1 (.slice ta v.text.length tc) v.text.length (v.text.map (.int .u8))) :
    Calls Tryz.prog 72 #[.pointer (some ⟨bl, 0, none⟩), .agg #[.int .u64 (v.bits : Int), .slice ta v.text.length tc, .bool v.null]] w (StepP S bl k s (c.add k v) (.tuple #[]) w) := by
  obtain ⟨lw, nv, dv, ev, T, h⟩ := h
  obtain ⟨r1, r2, r3, r4, r5, r6⟩ := hr
  have hn := h.sn
  by_cases h15 : k = 15
  · subst h15
    refine (add_running bl lw 0 s c.nulls c.data c.ends nv dv ev v.bits ta v.text.length tc v.text v.null r1 r2 r3 w h.b (Nat.zero_le _) ht rfl).mono ?_
    rintro e w' ⟨rfl, nv', dv', ev', hb, hk, od, on, oe⟩
    refine ⟨rfl, ⟨lw, nv', dv', ev', T, ?_, ?_, ?_, .inl h.sb, ?_⟩, hk.mono ?_⟩
    · show IsB w' bl lw 0 15 s (CS.add 15 c v).nulls (CS.add 15 c v).data (CS.add 15 c v).ends nv' dv' ev'
      simpa [CS.add] using hb
    · show WL w' T lw (CS.add 15 c v).words
      have : (CS.add 15 c v).words = c.words := by simp [CS.add]
      rw [this]
      exact h.l.kept hk (fun b hb _ e => by
        obtain ⟨_, _, a1, a2, a3, a4⟩ := h.ts b hb
        rcases e with e | e | e | e
        · exact a1 e
        · exact a3 e
        · exact a2 e
        · exact a4 e)
    · intro x hx
      obtain ⟨a0, a5, a1, a2, a3, a4⟩ := h.ts x hx
      exact ⟨.inl a0, Nat.lt_of_lt_of_le a5 hk.size, a1, own_apart on a5 a2, own_apart od a5 a3, own_apart oe a5 a4⟩
    · rintro x (e | e | e)
      · exact own_new on (fun y e => hn y (.inl e)) x e
      · exact own_new od (fun y e => hn y (.inr (.inl e))) x e
      · exact own_new oe (fun y e => hn y (.inr (.inr e))) x e
    · rintro b (e | e | e | e) _
      · rw [e]; exact h.sb
      · exact hn b (.inr (.inl e))
      · exact hn b (.inl e)
      · exact hn b (.inr (.inr e))
  by_cases h16 : k = 16
  · subst h16
    have hts : ∀ b, T b → b ≠ bl ∧ nv.ownBlock ≠ some b ∧ dv.ownBlock ≠ some b := fun b hb => ⟨(h.ts b hb).2.2.1, (h.ts b hb).2.2.2.1, (h.ts b hb).2.2.2.2.1⟩
    have hte : ∀ b, T b → ev.ownBlock ≠ some b := fun b hb => (h.ts b hb).2.2.2.2.2
    have fin : ∀ (X : Nat) (ws2 : List (List Int)) (e : Ending) (w' : World), AddCP bl lw s T c.nulls c.data c.ends c.words nv dv ev X ws2 v.null w e w' → c.add 16 v = ⟨c.nulls ++ [v.null], c.data ++ lows X 4, c.ends, ws2⟩ → StepP S bl 16 s (c.add 16 v) (.tuple #[]) w e w' := by
      rintro X ws2 e w' ⟨rfl, nv', dv', hb, hl, hk, od, on⟩ hc
      rw [hc]
      have hl2 := hl.mono (T' := fun b => (T b ∨ w.heap.size ≤ b ∧ b ≠ bl ∧ nv'.ownBlock ≠ some b ∧ dv'.ownBlock ≠ some b) ∧ b < w'.heap.size) (fun b h1 h2 => ⟨h1, h2⟩)
      refine ⟨rfl, ⟨lw, nv', dv', ev, _, hb, hl2, ?_, .inl h.sb, ?_⟩, hk.mono ?_⟩
      · rintro x ⟨hx | hx, hlt⟩
        · obtain ⟨a0, a5, a1, a2, a3, a4⟩ := h.ts x hx
          exact ⟨.inl a0, hlt, a1, own_apart on a5 a2, own_apart od a5 a3, a4⟩
        · exact ⟨.inr hx.1, hlt, hx.2.1, hx.2.2.1, hx.2.2.2, fun e => by have := (h.b.ends.lt x e).2; omega⟩
      · rintro x (e | e | e)
        · exact own_new on (fun y e => hn y (.inl e)) x e
        · exact own_new od (fun y e => hn y (.inr (.inl e))) x e
        · exact .inl (hn x (.inr (.inr e)))
      · rintro b (e | e | e | e) _
        · exact (h.ts b e).1
        · rw [e]; exact h.sb
        · exact hn b (.inr (.inl e))
        · exact hn b (.inl e)
    cases hv : v.null with
    | true =>
      refine (add_coded_null bl lw s T c.nulls c.data c.ends c.words nv dv ev v.bits ta v.text.length tc (by omega) r2 w h.b h.l hts).mono ?_
      intro e w' hp
      refine fin 0 c.words e w' (by rw [hv]; exact hp) ?_
      simp [CS.add, hv]
    | false =>
      refine (add_coded_word bl lw s T c.nulls c.data c.ends c.words nv dv ev v.bits v.text ta tc (by omega) r2 r4 r5 (by omega) w h.b h.l hts hte ht).mono ?_
      intro e w' hp
      refine fin (codeOf c.words v.text) (addWord c.words v.text) e w' (by rw [hv]; exact hp) ?_
      simp [CS.add, hv]
  · have q1 : (k == 15) = false := by simpa using h15
    have q2 : (k == 16) = false := by simpa using h16
    refine (add_fixed bl lw 0 k s q1 q2 c.nulls c.data c.ends nv dv ev v.bits (.slice ta v.text.length tc) v.null r6 (by omega) r2 w h.b (Nat.zero_le _)).mono ?_
    rintro e w' ⟨rfl, nv', dv', hb, hk, od, on⟩
    have hc : c.add k v = ⟨c.nulls ++ [v.null], c.data ++ lows v.bits (widthOf k).toNat, c.ends, c.words⟩ := by simp [CS.add, h15, h16]
    rw [hc]
    refine ⟨rfl, ⟨lw, nv', dv', ev, T, hb, ?_, ?_, .inl h.sb, ?_⟩, hk.mono ?_⟩
    · exact h.l.kept hk (fun b hb _ e => by
        obtain ⟨_, _, a1, a2, a3, a4⟩ := h.ts b hb
        rcases e with e | e | e
        · exact a1 e
        · exact a3 e
        · exact a2 e)
    · intro x hx
      obtain ⟨a0, a5, a1, a2, a3, a4⟩ := h.ts x hx
      exact ⟨.inl a0, Nat.lt_of_lt_of_le a5 hk.size, a1, own_apart on a5 a2, own_apart od a5 a3, a4⟩
    · rintro x (e | e | e)
      · exact own_new on (fun y e => hn y (.inl e)) x e
      · exact own_new od (fun y e => hn y (.inr (.inl e))) x e
      · exact .inl (hn x (.inr (.inr e)))
    · rintro b (e | e | e) _
      · rw [e]; exact h.sb
      · exact hn b (.inr (.inl e))
      · exact hn b (.inl e)
end Go.Proofs.YtmhjjhaipcgbiaaGreat


namespace Go.Proofs.YtmhjjhaipcgbiaaGreat
open Go.RowKit
set_option linter.unusedVariables false
set_option linter.unusedSimpArgs false
set_option maxRecDepth 100000
set_option maxHeartbeats 1000000
def NewBP (k s : Int) (w : World) (e : Ending) (w' : World) : Prop := ∃ bl, e = .returned (.tuple #[.pointer (some ⟨bl, 0, none⟩), .int .i64 0]) ∧ BS w' (fun b => w.heap.size ≤ b) bl k s CS.zero ∧ Below w.heap.size w w'
theorem new_BS (k s : Int) (w : World) (h : okType k s = true) : Calls Tryz.prog 11 #[.agg #[.int .i64 k, .int .i64 s]] w (NewBP k s w) := by
  refine (new_yes k s w h).mono ?_
  rintro e w' ⟨bl, lw, rfl, hb, hbl, hl, _⟩
  refine ⟨bl, rfl, ⟨lw, _, _, _, _, ⟨hb.blk, hb.lst, Nat.zero_le _, Nat.zero_le _, hb.nulls.mono (Nat.zero_le _), hb.data.mono (Nat.zero_le _), hb.ends.mono (Nat.zero_le _)⟩, hl.mono (T' := fun b => (w.heap.size ≤ b ∧ b ≠ bl) ∧ b < w'.heap.size) (fun b h1 h2 => ⟨h1, h2⟩), ?_, hb.bbl, ?_⟩, hbl⟩
  · rintro x ⟨⟨h1, h2⟩, h3⟩
    exact ⟨h1, h3, h2, by simp [Value.ownBlock], by simp [Value.ownBlock], by simp [Value.ownBlock]⟩
  · rintro x (e | e | e) <;> cases e
structure SepC (B D : SL) (vals : List Value) : Prop where
  bd : ∀ b, (Value.slice B.a 0 0).ownBlock = some b → (Value.slice D.a 0 0).ownBlock ≠ some b
  bw : ∀ v ∈ vals, ∀ b, v.ownBlock = some b → (Value.slice B.a 0 0).ownBlock ≠ some b ∧ (Value.slice D.a 0 0).ownBlock ≠ some b
  ww : WSep vals.length vals
theorem own_len00 (a : Option Addr) (x y : Nat) : (Value.slice a x y).ownBlock = (Value.slice a 0 0).ownBlock := by cases a <;> rfl
structure OwnC (w : World) (base : Nat) (c : Col) (B D E W : SL) (vals : List Value) : Prop where
  bits : Own w base 5 1 (.slice B.a c.bits.length B.c) c.bits.length (c.bits.map (.int .u8))
  data : Own w base 5 1 (.slice D.a c.data.length D.c) c.data.length (c.data.map (.int .u8))
  ends : Own w base 3 1 (.slice E.a c.ends.length E.c) c.ends.length (c.ends.map (.int .i64))
  words : Own w base 43 1 (.slice W.a c.words.length W.c) c.words.length vals
  len : vals.length = c.words.length
  each : WOwn w base c.words.length vals c.words
  sep : SepC B D vals
theorem OwnC.rd {w : World} {base : Nat} {c : Col} {B D E W : SL} {vals : List Value} (h : OwnC w base c B D E W vals) : RdC w c B D E W vals :=
  ⟨h.bits.rd, h.data.rd, h.ends.rd, h.words.rd, h.len, fun i t hi => by
    obtain ⟨a, cap, h1, h2⟩ := h.each i t (List.getElem?_eq_some_iff.1 hi).1 hi
    exact ⟨a, cap, h1, h2.rd⟩⟩
def ColBP (c : Col) (w : World) (e : Ending) (w' : World) : Prop := ∃ B D E W vals, e = .returned (colV c B D E W) ∧ OwnC w' w.heap.size c B D E W vals ∧ Below w.heap.size w w'
theorem WOwn.mono {w : World} {base base' i : Nat} {vals : List Value} {ws : List (List Int)} (h : WOwn w base i vals ws) (hb : base' ≤ base) : WOwn w base' i vals ws := fun j t hj ht => by
  obtain ⟨a, cap, h1, h2⟩ := h j t hj ht
  exact ⟨a, cap, h1, h2.mono hb⟩
theorem column_BS (S : Nat → Prop) (bl : Nat) (k s : Int) (c : CS) (h1 : c.nulls.length ≤ 100000000) (h2 : c.data.length ≤ 100000000) (h3 : c.ends.length ≤ 100000000) (h4 : c.words.length ≤ 100000000) (h5 : ∀ t ∈ c.words, t.length ≤ 100000000) (w : World) (h : BS w S bl k s c) :
    Calls Tryz.prog 34 #[.pointer (some ⟨bl, 0, none⟩)] w (ColBP (c.col k s) w) := by
  obtain ⟨lw, nv, dv, ev, T, h⟩ := h
  refine (column_any (fun n v w' => ∃ a cp vals, v = .slice a c.words.length cp ∧ Own w' (w.heap.size + 1) 43 1 (.slice a c.words.length cp) c.words.length vals ∧ vals.length = c.words.length ∧ WOwn w' n c.words.length vals c.words ∧ WSep vals.length vals)
    bl lw 0 k s c.nulls c.data c.ends nv dv ev w h.b.blk h.b.nulls h.b.data h.b.ends h1 (by omega) (by omega) ?_ ?_).mono ?_
  · rintro n v w1 w2 hn ⟨a, cp, vals, rfl, ho, hl, hw, hs⟩ hk
    refine ⟨a, cp, vals, rfl, ho.kept hk (fun b e h => by have := (ho.lt b e).1; omega), hl, fun j t hj ht => ?_, hs⟩
    obtain ⟨a, cap, q1, q2⟩ := hw j t hj ht
    exact ⟨a, cap, q1, q2.kept hk (fun b e h => by have := (q2.lt b e).1; omega)⟩
  · intro w2 hb hsz
    refine (words_any T lw c.words h4 (fun t ht => Nat.le_trans (h5 t ht) (by decide)) w2 (h.l.below hb)).mono ?_
    rintro e w' ⟨a, cp, vals, rfl, ho, hl, hw, hb2, hs⟩
    exact ⟨a, _, cp, rfl, hb2, a, cp, vals, rfl, ho.mono hsz, hl, hw, by rw [hl]; exact hs⟩
  · rintro e w' ⟨mv, dv', ev', wv, rfl, hm, hd, he, ⟨n, hwn, ⟨a, cp, vals, rfl, ho, hl, hw, hs⟩, s1, s2, s3⟩, hb⟩
    obtain ⟨ma, mc, rfl⟩ := hm.form
    obtain ⟨da, dc, rfl⟩ := hd.form
    obtain ⟨ea, ec, rfl⟩ := he.form
    refine ⟨⟨ma, mc⟩, ⟨da, dc⟩, ⟨ea, ec⟩, ⟨a, cp⟩, vals, rfl, ⟨hm, hd, he, ho.mono (by omega), hl, hw.mono (Nat.le_of_lt hwn), ⟨fun b e e2 => ?_, fun v hv b e => ?_, hs⟩⟩, hb⟩
    · rw [← own_len00 ma _ mc] at e
      rw [← own_len00 da _ dc] at e2
      exact s3 b e e2
    · obtain ⟨i, hi, rfl⟩ := List.mem_iff_getElem.1 hv
      obtain ⟨a', cap', q1, q2⟩ := hw i _ (by omega) (List.getElem?_eq_getElem (by omega))
      rw [List.getElem?_eq_getElem hi] at q1
      have q1 := Option.some.inj q1
      rw [q1] at e
      have := (q2.lt b e).1
      refine ⟨fun e2 => ?_, fun e2 => ?_⟩
      · rw [← own_len00 ma _ mc] at e2
        have := s1 b e2; omega
      · rw [← own_len00 da _ dc] at e2
        have := s2 b e2; omega
end Go.Proofs.YtmhjjhaipcgbiaaGreat
