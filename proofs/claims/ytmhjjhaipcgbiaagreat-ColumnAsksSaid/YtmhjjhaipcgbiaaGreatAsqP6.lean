/- Texts of this claim, one behind the other: KeepC, RB, Read18, Read18W, OfCheck, OfRead, Ask0, Ask1, Ask2, DictB, Back, Refuse. -/
import Derived.Test.YtmhjjhaipcgbiaaGreatAsqP5
import Derived.Test.YtmhjjhaipcgbiaaGreatAsqP4
import Derived.Test.YtmhjjhaipcgbiaaGreatAsqP1
import Derived.Test.YtmhjjhaipcgbiaaGreatAsqP2
import Derived.BigQuiet
import Derived.Deep.QuietTactic
import Derived.Test.YtmhjjhaipcgbiaaGreatAsqP3
import Derived.Maps.Views
import Derived.IntWalk

namespace Go.Proofs.YtmhjjhaipcgbiaaGreat
open Go.RowKit
set_option linter.unusedVariables false
set_option linter.unusedSimpArgs false
set_option maxRecDepth 100000
set_option maxHeartbeats 1000000
def KS (T : Nat → Prop) (l : List Value) (n b : Nat) : Prop := T b ∨ (∃ v ∈ l, v.ownBlock = some b) ∨ n ≤ b
theorem ks_next {T : Nat → Prop} {l : List Value} {bk : Nat} {v : Value} {w1 wr w' : World} {e : Ending} (h : BookP (KS T l w1.heap.size) bk v wr e w') (hk : Kept (KS T l w1.heap.size) w1 wr) : e = .returned (.tuple #[]) ∧ BK w' (KS T (l ++ [v]) w1.heap.size) bk ∧ Kept (KS T (l ++ [v]) w1.heap.size) w1 w' := by
  have hm : ∀ b, KS T l w1.heap.size b → KS T (l ++ [v]) w1.heap.size b := fun b h => h.imp id (fun h => h.imp (fun ⟨u, hu, e⟩ => ⟨u, List.mem_append_left _ hu, e⟩) id)
  refine ⟨h.1, h.2.1.mono (fun b e _ => ?_), (hk.trans h.2.2 (fun b e _ => e)).mono (fun b e _ => hm b e)⟩
  rcases e with h | h | h
  · exact hm b h
  · exact .inr (.inl ⟨v, by simp, h⟩)
  · exact .inr (.inr (Nat.le_trans hk.size h))
theorem ks_row {T : Nat → Prop} {l : List Value} {base n : Nat} {E : TypeId} {v : Value} {xs : List Value} {w1 wr : World} (ho : Own w1 base E 1 v n xs) (hT : ∀ b, T b → b < base) (hl : ∀ u ∈ l, ∀ b, v.ownBlock = some b → u.ownBlock ≠ some b) (hk : Kept (KS T l w1.heap.size) w1 wr) :
    Own wr 0 E 1 v n xs ∧ ∀ b, v.ownBlock = some b → ¬ KS T l w1.heap.size b := by
  have h : ∀ b, v.ownBlock = some b → ¬ KS T l w1.heap.size b := fun b e h => by
    rcases h with h | ⟨u, hu, h⟩ | h
    · have := hT b h; have := (ho.lt b e).1; omega
    · exact hl u hu b e h
    · have := (ho.lt b e).2; omega
  exact ⟨(ho.kept hk h).mono (Nat.zero_le _), h⟩
theorem own_types {w : World} {b1 b2 n1 n2 : Nat} {E1 E2 : TypeId} {v1 v2 : Value} {xs1 xs2 : List Value} (h1 : Own w b1 E1 1 v1 n1 xs1) (h2 : Own w b2 E2 1 v2 n2 xs2) (hne : E1 ≠ E2) (b : Nat) (e : v1.ownBlock = some b) : v2.ownBlock ≠ some b := by
  obtain ⟨cur, q⟩ := own_blk h1 e
  exact h2.blk_ne q hne
theorem own_same0 {a : Option Addr} {x y b : Nat} (e : (Value.slice a x y).ownBlock = some b) : (Value.slice a 0 0).ownBlock = some b := by cases a <;> exact e
def front3 (c : Col) (B D E : SL) : List Value := [.slice D.a c.data.length D.c, .slice B.a c.bits.length B.c, .slice E.a c.ends.length E.c]
theorem keep_rows {T : Nat → Prop} {c : Col} {B D E X : SL} {vals : List Value} {base : Nat} {w1 : World} (hT : ∀ b, T b → b < base) (hc : OwnC w1 base c B D E X vals) :
    (∀ wr, Kept (KS T [] w1.heap.size) w1 wr → Own wr 0 5 1 (.slice D.a c.data.length D.c) c.data.length (c.data.map (.int .u8)) ∧ ∀ b, (Value.slice D.a c.data.length D.c).ownBlock = some b → ¬ KS T [] w1.heap.size b) ∧
    (∀ wr, Kept (KS T [.slice D.a c.data.length D.c] w1.heap.size) w1 wr → Own wr 0 5 1 (.slice B.a c.bits.length B.c) c.bits.length (c.bits.map (.int .u8)) ∧ ∀ b, (Value.slice B.a c.bits.length B.c).ownBlock = some b → ¬ KS T [.slice D.a c.data.length D.c] w1.heap.size b) ∧
    (∀ wr, Kept (KS T [.slice D.a c.data.length D.c, .slice B.a c.bits.length B.c] w1.heap.size) w1 wr → Own wr 0 3 1 (.slice E.a c.ends.length E.c) c.ends.length (c.ends.map (.int .i64)) ∧ ∀ b, (Value.slice E.a c.ends.length E.c).ownBlock = some b → ¬ KS T [.slice D.a c.data.length D.c, .slice B.a c.bits.length B.c] w1.heap.size b) ∧
    (∀ wr i, Kept (KS T (front3 c B D E ++ vals.take i) w1.heap.size) w1 wr → Own wr 0 43 1 (.slice X.a c.words.length X.c) c.words.length vals) ∧
    (∀ wr i t, c.words[i]? = some t → Kept (KS T (front3 c B D E ++ vals.take i) w1.heap.size) w1 wr → ∃ a cp, vals[i]? = some (.slice a t.length cp) ∧ Own wr 0 5 1 (.slice a t.length cp) t.length (t.map (.int .u8)) ∧ ∀ b, (Value.slice a t.length cp).ownBlock = some b → ¬ KS T (front3 c B D E ++ vals.take i) w1.heap.size b) := by
  have hv : ∀ v ∈ vals, ∃ n xs, Own w1 base 5 1 v n xs := fun v hv => by
    obtain ⟨j, hj, rfl⟩ := List.mem_iff_getElem.1 hv
    have hj2 : j < c.words.length := by have := hc.len; omega
    obtain ⟨a, cp, q1, q2⟩ := hc.each j _ hj2 (List.getElem?_eq_getElem hj2)
    rw [List.getElem?_eq_getElem hj] at q1
    rw [Option.some.inj q1]
    exact ⟨_, _, q2⟩
  refine ⟨fun wr hk => ks_row hc.data hT (by simp) hk, fun wr hk => ks_row hc.bits hT (fun u hu b e => ?_) hk, fun wr hk => ks_row hc.ends hT (fun u hu b e => ?_) hk, fun wr i hk => (ks_row hc.words hT (fun u hu b e => ?_) hk).1, fun wr i t ht hk => ?_⟩
  · simp at hu; subst hu
    exact fun e2 => hc.sep.bd b (own_same0 e) (own_same0 e2)
  · simp at hu
    rcases hu with rfl | rfl
    · exact own_types hc.ends hc.data (by decide) b e
    · exact own_types hc.ends hc.bits (by decide) b e
  · rcases List.mem_append.1 hu with hu | hu
    · simp [front3] at hu
      rcases hu with rfl | rfl | rfl
      · exact own_types hc.words hc.data (by decide) b e
      · exact own_types hc.words hc.bits (by decide) b e
      · exact own_types hc.words hc.ends (by decide) b e
    · obtain ⟨n, xs, q⟩ := hv u (List.mem_of_mem_take hu)
      exact own_types hc.words q (by decide) b e
  · have hi := (List.getElem?_eq_some_iff.1 ht).1
    obtain ⟨a, cp, q1, q2⟩ := hc.each i t hi ht
    have hm : Value.slice a t.length cp ∈ vals := List.mem_of_getElem? q1
    have h := ks_row (l := front3 c B D E ++ vals.take i) q2 hT (fun u hu b e => ?_) hk
    · exact ⟨a, cp, q1, h.1, h.2⟩
    · rcases List.mem_append.1 hu with hu | hu
      · simp [front3] at hu
        rcases hu with rfl | rfl | rfl
        · exact fun e2 => (hc.sep.bw _ hm b e).2 (own_same0 e2)
        · exact fun e2 => (hc.sep.bw _ hm b e).1 (own_same0 e2)
        · exact own_types q2 hc.ends (by decide) b e
      · obtain ⟨j, hj, rfl⟩ := List.mem_iff_getElem.1 hu
        simp at hj
        rw [List.getElem_take]
        exact fun e2 => hc.sep.ww j i _ _ (by omega) (by have := hc.len; omega) (List.getElem?_eq_getElem (by omega)) q1 b e2 e
def RowsC (c : Col) (B D E : SL) (vals : List Value) (b : Nat) : Prop := ∃ v ∈ front3 c B D E ++ vals, v.ownBlock = some b
theorem rowsC_blk {w : World} {base : Nat} {c : Col} {B D E X : SL} {vals : List Value} (hc : OwnC w base c B D E X vals) {b : Nat} (h : RowsC c B D E vals b) : base ≤ b ∧ b < w.heap.size ∧ ∃ cur F, w.heap[b]? = some (.cells cur F (0, 0)) ∧ (F = 5 ∨ F = 3) := by
  obtain ⟨v, hv, e⟩ := h
  rcases List.mem_append.1 hv with hv | hv
  · simp [front3] at hv
    rcases hv with rfl | rfl | rfl
    · obtain ⟨cur, q⟩ := own_blk hc.data e
      exact ⟨(hc.data.lt b e).1, (hc.data.lt b e).2, cur, _, q, .inl rfl⟩
    · obtain ⟨cur, q⟩ := own_blk hc.bits e
      exact ⟨(hc.bits.lt b e).1, (hc.bits.lt b e).2, cur, _, q, .inl rfl⟩
    · obtain ⟨cur, q⟩ := own_blk hc.ends e
      exact ⟨(hc.ends.lt b e).1, (hc.ends.lt b e).2, cur, _, q, .inr rfl⟩
  · obtain ⟨j, hj, rfl⟩ := List.mem_iff_getElem.1 hv
    have hj2 : j < c.words.length := by have := hc.len; omega
    obtain ⟨a, cp, q1, q2⟩ := hc.each j _ hj2 (List.getElem?_eq_getElem hj2)
    rw [List.getElem?_eq_getElem hj] at q1
    rw [Option.some.inj q1] at e
    obtain ⟨cur, q⟩ := own_blk q2 e
    exact ⟨(q2.lt b e).1, (q2.lt b e).2, cur, _, q, .inl rfl⟩
theorem keep_colR (T : Nat → Prop) (bk : Nat) (c : Col) (B D E X : SL) (vals : List Value) (base : Nat) (hT : ∀ b, T b → b < base) (hd : IsBytes c.data) (hb : IsBytes c.bits) (hw : ∀ t ∈ c.words, IsBytes t) (hdl : c.data.length ≤ 100000000) (hbl : c.bits.length ≤ 100000000) (hel : c.ends.length ≤ 100000000) (hwl : ∀ t ∈ c.words, t.length ≤ 100000000) (hwn : c.words.length ≤ 100000000)
    (w : World) (hbase : base ≤ w.heap.size) (h : BK w T bk) (hc : OwnC w base c B D E X vals) :
    Calls Tryz.prog 35 #[.pointer (some ⟨bk, 0, none⟩), colV c B D E X] w (fun e w' => e = .returned (.tuple #[]) ∧ BK w' (fun b => T b ∨ RowsC c B D E vals b ∨ w.heap.size ≤ b) bk ∧ Kept (fun b => T b ∨ RowsC c B D E vals b ∨ w.heap.size ≤ b) w w') := by
  obtain ⟨xa, xc⟩ := X
  obtain ⟨w1, ew1⟩ : ∃ x, x = w.alloc (.cells #[.int .i64 c.k, .int .i64 c.s, .int .i64 c.n, .int .i64 c.m, .slice B.a c.bits.length B.c, .slice D.a c.data.length D.c, .slice E.a c.ends.length E.c, .slice xa c.words.length xc] 63) := ⟨_, rfl⟩
  have hsz : w1.heap.size = w.heap.size + 1 := by rw [ew1]; simp
  have hc1 : OwnC w1 base c B D E ⟨xa, xc⟩ vals := by rw [ew1]; exact hc.below (below_new w _)
  have hbk1 : w1.heap[w.heap.size]? = some (.cells #[.int .i64 c.k, .int .i64 c.s, .int .i64 c.n, .int .i64 c.m, .slice B.a c.bits.length B.c, .slice D.a c.data.length D.c, .slice E.a c.ends.length E.c, .slice xa c.words.length xc] 63 (0, 0)) := by rw [ew1]; exact heap_alloc_new w _
  have hb1 : Below w.heap.size w w1 := by rw [ew1]; exact below_new w _
  obtain ⟨r1, r2, r3, r4, r5⟩ := keep_rows hT hc1
  have hvl : ∀ v ∈ front3 c B D E ++ vals, ∀ b, v.ownBlock = some b → base ≤ b ∧ b < w.heap.size := fun v hv b e => by
    rcases List.mem_append.1 hv with hv | hv
    · simp [front3] at hv
      rcases hv with rfl | rfl | rfl
      · exact hc.data.lt b e
      · exact hc.bits.lt b e
      · exact hc.ends.lt b e
    · obtain ⟨j, hj, rfl⟩ := List.mem_iff_getElem.1 hv
      have hj2 : j < c.words.length := by have := hc.len; omega
      obtain ⟨a, cp, q1, q2⟩ := hc.each j _ hj2 (List.getElem?_eq_getElem hj2)
      rw [List.getElem?_eq_getElem hj] at q1
      rw [Option.some.inj q1] at e
      exact q2.lt b e
  have HBX := Aside.mk (show ∀ {l : List Value} {wr : World}, (∀ v ∈ l, v ∈ front3 c B D E ++ vals) → Kept (KS T l w1.heap.size) w1 wr → wr.heap[w.heap.size]? = some (.cells #[.int .i64 c.k, .int .i64 c.s, .int .i64 c.n, .int .i64 c.m, .slice B.a c.bits.length B.c, .slice D.a c.data.length D.c, .slice E.a c.ends.length E.c, .slice xa c.words.length xc] 63 (0, 0)) from fun {l wr} hl hk => (hk.block _ (by omega) (fun h => by
    rcases h with h | ⟨u, hu, h⟩ | h
    · have := hT _ h; omega
    · have := (hvl u (hl u hu) _ h).2; omega
    · omega)).trans hbk1)
  have HEND := Aside.mk (show ∀ {wr : World}, BK wr (KS T (front3 c B D E ++ vals.take c.words.length) w1.heap.size) bk ∧ Kept (KS T (front3 c B D E ++ vals.take c.words.length) w1.heap.size) w1 wr → BK wr (fun b => T b ∨ RowsC c B D E vals b ∨ w.heap.size ≤ b) bk ∧ Kept (fun b => T b ∨ RowsC c B D E vals b ∨ w.heap.size ≤ b) w wr from fun {wr} h => by
    have hm : ∀ b, KS T (front3 c B D E ++ vals.take c.words.length) w1.heap.size b → T b ∨ RowsC c B D E vals b ∨ w.heap.size ≤ b := fun b h => by
      rcases h with h | ⟨u, hu, h⟩ | h
      · exact .inl h
      · refine .inr (.inl ⟨u, ?_, h⟩)
        rcases List.mem_append.1 hu with hu | hu
        · exact List.mem_append_left _ hu
        · exact List.mem_append_right _ (List.mem_of_mem_take hu)
      · exact .inr (.inr (by omega))
    exact ⟨h.1.mono (fun b e _ => hm b e), (Kept.of_below hb1).trans h.2 (fun b e _ => hm b e)⟩)
  have HK0 := Aside.mk (And.intro (show BK w1 (KS T [] w1.heap.size) bk from by rw [ew1]; exact (h.below (below_new w _)).mono (fun b e _ => .inl e)) (Kept.refl (S := KS T [] w1.heap.size) w1))
  have R1 := Aside.mk r1
  have R2 := Aside.mk r2
  have R3 := Aside.mk r3
  have R4 := Aside.mk r4
  have R5 := Aside.mk r5
  have HLEN := Aside.mk hc.len
  obtain ⟨d0, d1, d2, d3, d4, d5, d6, d7⟩ := box8 hbk1
  have HBK1 := Aside.mk hbk1
  clear r1 r2 r3 r4 r5 hvl h hc hc1 hT hbk1 hb1
  dsimp only [colV]
  go_enter Tryz.func35, Tryz.ntmps35
  go_wp2_with fail
  rw [← ew1]
  refine (book_bytes (KS T [] w1.heap.size) bk D.a D.c c.data hd hdl w1 HK0.out.1 (R1.out w1 HK0.out.2).1 (R1.out w1 HK0.out.2).2).mono ?_
  intro e w2 hp
  obtain ⟨rfl, hp2⟩ := ks_next hp HK0.out.2
  have HK2 := Aside.mk hp2
  clear d0 d1 d2 d3 d4 d5 d6 d7 hp hp2
  obtain ⟨d0, d1, d2, d3, d4, d5, d6, d7⟩ := box8 (HBX.out (l := [.slice D.a c.data.length D.c]) (by simp [front3]) HK2.out.2)
  go_wp2_with fail
  refine (book_bytes (KS T [.slice D.a c.data.length D.c] w1.heap.size) bk B.a B.c c.bits hb hbl w2 HK2.out.1 (R2.out w2 HK2.out.2).1 (R2.out w2 HK2.out.2).2).mono ?_
  intro e w3 hp
  obtain ⟨rfl, hp2⟩ := ks_next hp HK2.out.2
  have HK3 := Aside.mk hp2
  clear d0 d1 d2 d3 d4 d5 d6 d7 hp hp2
  obtain ⟨d0, d1, d2, d3, d4, d5, d6, d7⟩ := box8 (HBX.out (l := [.slice D.a c.data.length D.c, .slice B.a c.bits.length B.c]) (by simp [front3]) HK3.out.2)
  go_wp2_with fail
  refine (book_ints (KS T [.slice D.a c.data.length D.c, .slice B.a c.bits.length B.c] w1.heap.size) bk E.a E.c c.ends hel w3 HK3.out.1 (R3.out w3 HK3.out.2).1 (R3.out w3 HK3.out.2).2).mono ?_
  intro e w4 hp
  obtain ⟨rfl, hp2⟩ := ks_next hp HK3.out.2
  have HK4 := Aside.mk hp2
  clear d0 d1 d2 d3 d4 d5 d6 d7 hp hp2
  go_wp2_with fail
  go_loopw [4] (fun i0 wr => ∃ i : Nat, i ≤ c.words.length ∧ i0 = .int .i64 (i : Int) ∧ Aside (BK wr (KS T (front3 c B D E ++ vals.take i) w1.heap.size) bk ∧ Kept (KS T (front3 c B D E ++ vals.take i) w1.heap.size) w1 wr)) (fun i0 _ => c.words.length - (intOf i0).toNat)
  case atStart => exact ⟨0, by omega, rfl, ⟨by simpa [front3] using HK4.out⟩⟩
  case round =>
    obtain ⟨i, hi, rfl, HP⟩ := hrel
    obtain ⟨d0, d1, d2, d3, d4, d5, d6, d7⟩ := box8 (HBX.out (l := front3 c B D E ++ vals.take i) (fun v hv => by
      rcases List.mem_append.1 hv with hv | hv
      · exact List.mem_append_left _ hv
      · exact List.mem_append_right _ (List.mem_of_mem_take hv)) HP.out.2)
    by_cases hlt : i < c.words.length
    · obtain ⟨a, cp, q1, q2, q3⟩ := R5.out wr i _ (List.getElem?_eq_getElem hlt) HP.out.2
      have hbw := hw _ (List.getElem_mem hlt)
      have hbl := hwl _ (List.getElem_mem hlt)
      have HV := Aside.mk q1
      obtain ⟨g, o, cap, e2, hx1, hx2, hx3, hx4, q4, _⟩ := (R4.out wr i HP.out.2).some_ (by omega)
      have d8 := q4 i _ q1
      simp only [Value.slice.injEq, true_and] at e2
      obtain ⟨rfl, rfl⟩ := e2
      have HQ := Aside.mk (And.intro hbw (And.intro hbl (And.intro q2 q3)))
      clear q1 q2 q3 q4 hbw hbl
      generalize c.words[i] = t at *
      obtain ⟨n, hn⟩ : ∃ n, n = t.length := ⟨_, rfl⟩
      have HN := Aside.mk hn
      rw [← hn] at d8
      clear hn
      go_wp2_with fail
      rw [HN.out]
      refine (book_bytes (KS T (front3 c B D E ++ vals.take i) w1.heap.size) bk a cp t HQ.out.1 HQ.out.2.1 wr HP.out.1 HQ.out.2.2.1 HQ.out.2.2.2).mono ?_
      intro e w5 hp
      obtain ⟨rfl, hp2⟩ := ks_next hp HP.out.2
      have HP5 := Aside.mk hp2
      clear hp hp2
      go_wp2_with fail
      refine ⟨⟨i + 1, by omega, by simp, ⟨?_⟩⟩, by simp [intOf]; omega⟩
      have h5 := HP5.out
      rw [List.append_assoc] at h5
      rw [List.take_add_one, HV.out]
      exact h5
    · obtain rfl : i = c.words.length := by omega
      go_wp2_with fail
      refine bodyPost_end (v := .tuple #[]) (by simp [results, Tryz.results35, go_sem]) rfl ?_
      exact ⟨rfl, HEND.out HP.out⟩
theorem keep_col (T : Nat → Prop) (bk : Nat) (c : Col) (B D E X : SL) (vals : List Value) (base : Nat) (hT : ∀ b, T b → b < base) (hd : IsBytes c.data) (hb : IsBytes c.bits) (hw : ∀ t ∈ c.words, IsBytes t) (hdl : c.data.length ≤ 100000000) (hbl : c.bits.length ≤ 100000000) (hel : c.ends.length ≤ 100000000) (hwl : ∀ t ∈ c.words, t.length ≤ 100000000) (hwn : c.words.length ≤ 100000000)
    (w : World) (hbase : base ≤ w.heap.size) (h : BK w T bk) (hc : OwnC w base c B D E X vals) :
    Calls Tryz.prog 35 #[.pointer (some ⟨bk, 0, none⟩), colV c B D E X] w (fun e w' => e = .returned (.tuple #[]) ∧ BK w' (fun b => T b ∨ base ≤ b) bk ∧ Kept (fun b => T b ∨ base ≤ b) w w') := by
  refine (keep_colR T bk c B D E X vals base hT hd hb hw hdl hbl hel hwl hwn w hbase h hc).mono ?_
  rintro e w' ⟨rfl, h1, h2⟩
  have hm : ∀ b, (T b ∨ RowsC c B D E vals b ∨ w.heap.size ≤ b) → T b ∨ base ≤ b := fun b h => h.imp id (fun h => h.elim (fun h => (rowsC_blk hc h).1) (fun h => by omega))
  exact ⟨rfl, h1.mono (fun b e _ => hm b e), h2.mono (fun b e _ => hm b e)⟩
end Go.Proofs.YtmhjjhaipcgbiaaGreat


namespace Go.Proofs.YtmhjjhaipcgbiaaGreat
open Go.RowKit
set_option linter.unusedVariables false
set_option linter.unusedSimpArgs false
set_option maxRecDepth 100000
set_option maxHeartbeats 1000000
structure RBx (w : World) (R : Nat → Prop) (rb : Nat) (k s : Int) (l : List V) (A : SL) (xs : List Value) : Prop where
  blk : w.heap[rb]? = some (.cells #[.int .i64 k, .int .i64 s, .slice A.a l.length A.c] 35 (0, 0))
  sb : R rb
  row : Own w 0 50 3 (.slice A.a l.length A.c) l.length xs
  sr : ∀ b, (Value.slice A.a l.length A.c).ownBlock = some b → R b
  each : ∀ (i : Nat) v, l[i]? = some v → ∃ ta tc, xs[i * 3]? = some (.bool v.null) ∧ xs[i * 3 + 1]? = some (.int .u64 (v.bits : Int)) ∧ xs[i * 3 + 2]? = some (.slice ta v.text.length tc) ∧
    Own w 0 5 1 (.slice ta v.text.length tc) v.text.length (v.text.map (.int .u8)) ∧ ∀ b, (Value.slice ta v.text.length tc).ownBlock = some b → R b
def RB (w : World) (R : Nat → Prop) (rb : Nat) (k s : Int) (l : List V) : Prop := ∃ A xs, RBx w R rb k s l A xs
theorem RBx.kept {w w' : World} {R Q : Nat → Prop} {rb : Nat} {k s : Int} {l : List V} {A : SL} {xs : List Value} (h : RBx w R rb k s l A xs) (hk : Kept Q w w') (hR : ∀ b, R b → b < w.heap.size → ¬ Q b) : RBx w' R rb k s l A xs := by
  refine ⟨(hk.block _ (lt_of_blk h.blk) (hR rb h.sb (lt_of_blk h.blk))).trans h.blk, h.sb, h.row.kept hk (fun b e => hR b (h.sr b e) (h.row.lt b e).2), h.sr, fun i v hi => ?_⟩
  obtain ⟨ta, tc, q0, q1, q2, q3, q4⟩ := h.each i v hi
  exact ⟨ta, tc, q0, q1, q2, q3.kept hk (fun b e => hR b (q4 b e) (q3.lt b e).2), q4⟩
theorem RB.kept {w w' : World} {R Q : Nat → Prop} {rb : Nat} {k s : Int} {l : List V} (h : RB w R rb k s l) (hk : Kept Q w w') (hR : ∀ b, R b → b < w.heap.size → ¬ Q b) : RB w' R rb k s l := by
  obtain ⟨A, xs, h⟩ := h
  exact ⟨A, xs, h.kept hk hR⟩
theorem RBx.below {w w' : World} {R : Nat → Prop} {rb : Nat} {k s : Int} {l : List V} {A : SL} {xs : List Value} (h : RBx w R rb k s l A xs) (hb : Below w.heap.size w w') : RBx w' R rb k s l A xs :=
  h.kept (Kept.of_below (S := fun _ => False) hb) (fun _ _ _ e => e)
theorem RB.below {w w' : World} {R : Nat → Prop} {rb : Nat} {k s : Int} {l : List V} (h : RB w R rb k s l) (hb : Below w.heap.size w w') : RB w' R rb k s l :=
  h.kept (Kept.of_below (S := fun _ => False) hb) (fun _ _ _ e => e)
theorem RB.mono {w : World} {R R' : Nat → Prop} {rb : Nat} {k s : Int} {l : List V} (h : RB w R rb k s l) (hR : ∀ b, R b → b < w.heap.size → R' b) : RB w R' rb k s l := by
  obtain ⟨A, xs, h⟩ := h
  refine ⟨A, xs, h.blk, hR rb h.sb (lt_of_blk h.blk), h.row, fun b e => hR b (h.sr b e) (h.row.lt b e).2, fun i v hi => ?_⟩
  obtain ⟨ta, tc, q0, q1, q2, q3, q4⟩ := h.each i v hi
  exact ⟨ta, tc, q0, q1, q2, q3, fun b e => hR b (q4 b e) (q3.lt b e).2⟩
theorem RBx.vals {w : World} {R : Nat → Prop} {rb : Nat} {k s : Int} {l : List V} {A : SL} {xs : List Value} (h : RBx w R rb k s l A xs) : RdVs w A l :=
  ⟨xs, h.row.rd, fun i v hi => by obtain ⟨ta, tc, q0, q1, q2, q3, _⟩ := h.each i v hi; exact ⟨ta, tc, q0, q1, q2, q3.rd⟩⟩
def RStep (R : Nat → Prop) (rb : Nat) (k s : Int) (l : List V) (r : Value) (w : World) (e : Ending) (w' : World) : Prop :=
  e = .returned r ∧ RB w' (fun b => R b ∨ w.heap.size ≤ b) rb k s l ∧ Kept R w w'
theorem RBx.push {w w2 w5 : World} {R : Nat → Prop} {rb : Nat} {k s : Int} {l : List V} {A : SL} {xs : List Value} (h : RBx w R rb k s l A xs) (hb : Below w.heap.size w w2) {v : V} {ta : Option Addr} {tc : Nat}
    (hv : Own w2 w.heap.size 5 1 (.slice ta v.text.length tc) v.text.length (v.text.map (.int .u8))) {o : Obj} {v5 : Value}
    (hA : AppP (w2.alloc o) 0 50 3 (.slice A.a l.length A.c) l.length xs 1 [.bool v.null, .int .u64 (v.bits : Int), .slice ta v.text.length tc] v5 w5) :
    RB (w5.setCell ⟨rb, 2, none⟩ v5) (fun b => R b ∨ w.heap.size ≤ b) rb k s (l ++ [v]) ∧ Kept R w (w5.setCell ⟨rb, 2, none⟩ v5) := by
  have hz2 := hb.size
  have K2 : Kept (fun b => (Value.slice A.a l.length A.c).ownBlock = some b) (w2.alloc o) w5 := (Kept.of_grown hA.grown).mono (fun b e _ => e.symm)
  have K : Kept (fun b => (Value.slice A.a l.length A.c).ownBlock = some b) w w5 := (Kept.of_below (hb.trans ((below_new w2 o).mono hz2))).trans K2 (fun _ e _ => e)
  have nrb : (Value.slice A.a l.length A.c).ownBlock ≠ some rb := h.row.blk_ne h.blk (by decide)
  have g := (K.block rb (lt_of_blk h.blk) nrb).trans h.blk
  have g2 := heap_setCell_at (k := 2) g v5
  obtain ⟨a5, c5, rfl⟩ := hA.own.form
  have hxl : xs.length = l.length * 3 := h.row.1
  refine ⟨⟨⟨a5, c5⟩, xs ++ [.bool v.null, .int .u64 (v.bits : Int), .slice ta v.text.length tc], by simpa using g2, .inl h.sb, ?_, fun b e => ?_, fun i u hi => ?_⟩, (K.mono (fun b e _ => h.sr b e)).trans (Kept.setCell w5 _ _) (fun b e _ => by rw [e]; exact h.sb)⟩
  · have := hA.own.set_other (a := ⟨rb, 2, none⟩) (hA.own.blk_ne g (by decide)) (.slice a5 (l.length + 1) c5)
    rw [List.length_append]
    exact this
  · replace e : (Value.slice a5 (l ++ [v]).length c5).ownBlock = some b := e
    rw [List.length_append] at e
    replace e : (Value.slice a5 (l.length + 1) c5).ownBlock = some b := e
    rcases hA.blk with h1 | ⟨b', h1, h2⟩
    · exact .inl (h.sr b (by rw [← h1]; exact e))
    · rw [h1] at e; cases e
      exact .inr (by simp at h2; omega)
  · rcases Nat.lt_or_ge i l.length with hl | hl
    · rw [List.getElem?_append_left hl] at hi
      obtain ⟨ua, uc, q0, q1, q2, q3, q4⟩ := h.each i u hi
      refine ⟨ua, uc, ?_, ?_, ?_, ?_, fun b e => .inl (q4 b e)⟩
      · rw [List.getElem?_append_left (by omega)]; exact q0
      · rw [List.getElem?_append_left (by omega)]; exact q1
      · rw [List.getElem?_append_left (by omega)]; exact q2
      · have q5 := q3.kept K (fun b e => own_ne_own q3 h.row (by decide) b e)
        exact q5.set_other (a := ⟨rb, 2, none⟩) (q5.blk_ne g (by decide)) _
    · rw [List.getElem?_append_right hl] at hi
      have hi0 : i - l.length = 0 := by have := (List.getElem?_eq_some_iff.1 hi).1; simp at this; omega
      rw [hi0] at hi
      simp at hi
      subst hi
      have hie : i = l.length := by omega
      subst hie
      refine ⟨ta, tc, ?_, ?_, ?_, ?_, fun b e => .inr (hv.lt b e).1⟩
      · rw [List.getElem?_append_right (by omega), hxl, Nat.sub_self]; rfl
      · rw [List.getElem?_append_right (by omega), hxl, Nat.add_sub_cancel_left]; rfl
      · rw [List.getElem?_append_right (by omega), hxl, Nat.add_sub_cancel_left]; rfl
      · have q5 := (hv.alloc o).kept K2 (fun b e e2 => by have := (hv.lt b e).1; have := (h.row.lt b e2).2; omega)
        exact (q5.set_other (a := ⟨rb, 2, none⟩) (q5.blk_ne g (by decide)) _).mono (Nat.zero_le _)
theorem RBx.cells {w : World} {R : Nat → Prop} {rb : Nat} {k s : Int} {l : List V} {A : SL} {xs : List Value} (h : RBx w R rb k s l A xs) :
    w.cell? ⟨rb, 0, none⟩ = some (.int .i64 k) ∧ w.cell? ⟨rb, 1, none⟩ = some (.int .i64 s) ∧ w.cell? ⟨rb, 2, none⟩ = some (.slice A.a l.length A.c) ∧ ∀ k, w.frozen? ⟨rb, k, none⟩ = false := by
  refine ⟨?_, ?_, ?_, fun k => frozen_blk h.blk⟩ <;> (rw [cell_blk h.blk]; rfl)
theorem own_capR {w : World} {base : Nat} {E : TypeId} {sz n c : Nat} {a : Option Addr} {xs : List Value} (h : Own w base E sz (.slice a n c) n xs) : n ≤ c := by
  rcases h.2 with ⟨e, hn⟩ | ⟨_, _, _, _, e, _, _, h5, _⟩
  · omega
  · cases e; exact h5
theorem rback_set {w : World} {R : Nat → Prop} {rb : Nat} {k s : Int} {l : List V} {aa : Option Addr} {ac : Nat} {xs : List Value} (h : RBx w R rb k s l ⟨aa, ac⟩ xs) {n : Nat} (hn : n ≤ l.length) :
    RStep R rb k s (l.take n) (.int .i64 0) w (.returned (.int .i64 0)) (w.setCell ⟨rb, 2, none⟩ (.slice (cutA aa ac 0 3) (n - 0) (ac - 0))) := by
  have g2 := heap_setCell_at (k := 2) h.blk (.slice (cutA aa ac 0 3) (n - 0) (ac - 0))
  have hlen : (l.take n).length = n := by rw [List.length_take]; omega
  have e0 : cutA aa ac 0 3 = aa := by
    unfold cutA
    split
    · rfl
    · cases aa <;> simp [Addr.add]
  have hrow := h.row
  have hxl : xs.length = l.length * 3 := h.row.1
  have hfront : Own w 0 50 3 (.slice aa n ac) n (xs.take (n * 3)) := by
    refine own_front0 (m := l.length - n) (ys := xs.drop (n * 3)) ?_ (by rw [List.length_take]; omega)
    rw [List.take_append_drop, show n + (l.length - n) = l.length by omega]
    exact hrow
  rw [e0] at g2 ⊢
  have nrb : (Value.slice aa n ac).ownBlock ≠ some rb := hfront.blk_ne h.blk (by decide)
  refine ⟨rfl, ⟨⟨aa, ac⟩, xs.take (n * 3), by rw [hlen]; simpa using g2, .inl h.sb, ?_, fun b e => .inl (h.sr b ?_), fun i v hi => ?_⟩, (Kept.setCell w _ _).mono (fun b e _ => by rw [e]; exact h.sb)⟩
  · rw [hlen]; exact hfront.set_other (a := ⟨rb, 2, none⟩) nrb _
  · rw [hlen] at e
    cases aa with
    | none => cases e
    | some a => exact e
  · have hi2 : i < n := by have := (List.getElem?_eq_some_iff.1 hi).1; omega
    rw [List.getElem?_take, if_pos hi2] at hi
    obtain ⟨ta, tc, q0, q1, q2, q3, q4⟩ := h.each i v hi
    refine ⟨ta, tc, ?_, ?_, ?_, q3.set_other (a := ⟨rb, 2, none⟩) (q3.blk_ne h.blk (by decide)) _, fun b e => .inl (q4 b e)⟩
    · rw [List.getElem?_take, if_pos (by omega)]; exact q0
    · rw [List.getElem?_take, if_pos (by omega)]; exact q1
    · rw [List.getElem?_take, if_pos (by omega)]; exact q2
theorem rput_word (R : Nat → Prop) (rb : Nat) (k s : Int) (l : List V) (X : Nat) (hk : wordedB k = true) (w : World) (h : RB w R rb k s l) :
    Calls Tryz.prog 18 #[.pointer (some ⟨rb, 0, none⟩), .int .u64 (X : Int)] w (IntP 170 w) := by
  obtain ⟨A, xs, h⟩ := h
  obtain ⟨c0, c1, c2, c3⟩ := h.cells
  have HW := Aside.mk (fun W => show Calls Tryz.prog 62 #[.agg #[.int .i64 k, .int .i64 s]] W (FitsP true W) from by have := worded_any k s W; rwa [hk] at this)
  clear h hk
  go_enter Tryz.func18, Tryz.ntmps18
  go_wp2_with (go_at_call 62; refine (HW.out _).mono ?_; rintro e w1 ⟨rfl, hb1⟩; have B1 := Aside.mk hb1; clear hb1)
  go_ret
  exact ⟨rfl, B1.out⟩
theorem rput_bad (R : Nat → Prop) (rb : Nat) (k s : Int) (l : List V) (X : Nat) (hX : X < 18446744073709551616) (hk : wordedB k = false) (hf : fitsB k s X = false) (w : World) (h : RB w R rb k s l) :
    Calls Tryz.prog 18 #[.pointer (some ⟨rb, 0, none⟩), .int .u64 (X : Int)] w (IntP 172 w) := by
  obtain ⟨A, xs, h⟩ := h
  have H := Aside.mk h
  have HW := Aside.mk (fun W => show Calls Tryz.prog 62 #[.agg #[.int .i64 k, .int .i64 s]] W (FitsP false W) from by have := worded_any k s W; rwa [hk] at this)
  have HF := Aside.mk (fun W => show Calls Tryz.prog 75 #[.agg #[.int .i64 k, .int .i64 s], .int .u64 (X : Int)] W (FitsP false W) from by have := r18fits_any k s X (by omega) (by omega) W; rwa [hf] at this)
  obtain ⟨c0, c1, c2, c3⟩ := h.cells
  clear h hk hf
  go_enter Tryz.func18, Tryz.ntmps18
  go_wp2_with (go_at_call 62; refine (HW.out _).mono ?_; rintro e w1 ⟨rfl, hb1⟩; have B1 := Aside.mk hb1; clear hb1 c0 c1 c2 c3; obtain ⟨c0, c1, c2, c3⟩ := (H.out.below B1.out).cells)
  refine (HF.out _).mono ?_
  rintro e w2 ⟨rfl, hb2⟩
  have B2 := Aside.mk hb2
  clear hb2
  go_wp2_with fail
  go_ret
  exact ⟨rfl, B1.out.trans (B2.out.mono B1.out.size)⟩
theorem rput_yes (R : Nat → Prop) (rb : Nat) (k s : Int) (l : List V) (X : Nat) (hX : X < 18446744073709551616) (hk : wordedB k = false) (hf : fitsB k s X = true) (hl : l.length ≤ 100000000) (w : World) (h : RB w R rb k s l) :
    Calls Tryz.prog 18 #[.pointer (some ⟨rb, 0, none⟩), .int .u64 (X : Int)] w (RStep R rb k s (l ++ [⟨false, X, []⟩]) (.int .i64 0) w) := by
  obtain ⟨A, xs, h⟩ := h
  obtain ⟨aa, ac⟩ := A
  have H := Aside.mk h
  have HW := Aside.mk (fun W => show Calls Tryz.prog 62 #[.agg #[.int .i64 k, .int .i64 s]] W (FitsP false W) from by have := worded_any k s W; rwa [hk] at this)
  have HF := Aside.mk (fun W => show Calls Tryz.prog 75 #[.agg #[.int .i64 k, .int .i64 s], .int .u64 (X : Int)] W (FitsP true W) from by have := r18fits_any k s X (by omega) (by omega) W; rwa [hf] at this)
  obtain ⟨c0, c1, c2, c3⟩ := h.cells
  clear h hk hf
  generalize hn : l.length = n at *
  have HN := Aside.mk hn
  clear hn
  go_enter Tryz.func18, Tryz.ntmps18
  go_wp2_with (go_at_call 62; refine (HW.out _).mono ?_; rintro e w1 ⟨rfl, hb1⟩; have B1 := Aside.mk hb1; clear hb1 c0 c1 c2 c3; obtain ⟨c0, c1, c2, c3⟩ := (H.out.below B1.out).cells)
  refine (HF.out _).mono ?_
  rintro e w2 ⟨rfl, hb2⟩
  have B2 := Aside.mk (B1.out.trans (hb2.mono B1.out.size))
  clear hb2 c0 c1 c2 c3
  have H2 := Aside.mk (H.out.below B2.out)
  obtain ⟨c0, c1, c2, c3⟩ := H2.out.cells
  dsimp only at c2
  rw [HN.out] at c2
  have HROW := Aside.mk H2.out.row
  dsimp only at HROW
  rw [HN.out] at HROW
  go_wp2_with (at_builtin; refine wpList_app2 _ rfl _ _ 33 33 rfl 0 50 (.agg #[.bool false, .int .u64 0, .slice none 0 0]) 3 40 Tryz.underlying33 valinfo rfl _ n xs rfl (HROW.out.alloc _) _ 1 [.bool false, .int .u64 (X : Int), .slice none 0 0] rfl (src_val _ _ _ _ rfl rfl rfl) (by unfold maxLen; omega) (by omega) (Nat.zero_le _) ?_)
  intro v5 w5 hA
  obtain ⟨a5, c5, rfl⟩ := hA.own.form
  have HP := Aside.mk (H.out.push (v := ⟨false, X, []⟩) B2.out (Own.nil w2 _ _ _) (by dsimp only; rw [HN.out]; exact hA))
  have K5 : Kept (fun b => (Value.slice aa n ac).ownBlock = some b) w2 w5 := (Kept.of_below (below_new w2 _)).trans ((Kept.of_grown hA.grown).mono (fun b e _ => e.symm)) (fun _ e _ => e)
  have g5 := (K5.block rb (lt_of_blk H2.out.blk) (HROW.out.blk_ne H2.out.blk (by decide))).trans H2.out.blk
  clear hA c0 c1 c2 c3 K5
  have c0 := cell_blk (k := 2) g5
  simp at c0
  have c3 := fun k => frozen_blk (k := k) g5
  clear g5
  go_wp2_with fail
  go_ret
  exact ⟨rfl, HP.out⟩
theorem rtext_no (R : Nat → Prop) (rb : Nat) (k s : Int) (l : List V) (v : Value) (hk : wordedB k = false) (w : World) (h : RB w R rb k s l) :
    Calls Tryz.prog 22 #[.pointer (some ⟨rb, 0, none⟩), v] w (IntP 170 w) := by
  obtain ⟨A, xs, h⟩ := h
  obtain ⟨c0, c1, c2, c3⟩ := h.cells
  have HW := Aside.mk (fun W => show Calls Tryz.prog 62 #[.agg #[.int .i64 k, .int .i64 s]] W (FitsP false W) from by have := worded_any k s W; rwa [hk] at this)
  clear h hk
  go_enter Tryz.func22, Tryz.ntmps22
  go_wp2_with (go_at_call 62; refine (HW.out _).mono ?_; rintro e w1 ⟨rfl, hb1⟩; have B1 := Aside.mk hb1; clear hb1)
  go_ret
  exact ⟨rfl, B1.out⟩
theorem byteinfoR : (Tryz.prog.info? 5).map (fun i => (i.zero, i.size, i.bytes)) = some (some (.int .u8 0), 1, 1) := by kernel_rfl
theorem own_emptyD (w : World) (E : TypeId) : Own (w.drew.alloc (.cells #[] E)) w.heap.size E 1 (.slice (some ⟨w.heap.size, 0, none⟩) 0 0) 0 [] := own_empty w.drew w.heap.size w.heap.size E 1 rfl (Nat.le_refl _)
theorem rtext_yes (R : Nat → Prop) (rb : Nat) (k s : Int) (l : List V) (tx : List Int) (T : SL) (hk : wordedB k = true) (hl : l.length ≤ 100000000) (htl : tx.length ≤ 100000000) (w : World) (h : RB w R rb k s l) (ht : Rd w 1 (.slice T.a tx.length T.c) tx.length (tx.map (.int .u8))) :
    Calls Tryz.prog 22 #[.pointer (some ⟨rb, 0, none⟩), .slice T.a tx.length T.c] w (RStep R rb k s (l ++ [⟨false, 0, tx⟩]) (.int .i64 0) w) := by
  obtain ⟨A, xs, h⟩ := h
  obtain ⟨aa, ac⟩ := A
  obtain ⟨ta, tc⟩ := T
  have H := Aside.mk h
  have HTR := Aside.mk ht
  have HW := Aside.mk (fun W => show Calls Tryz.prog 62 #[.agg #[.int .i64 k, .int .i64 s]] W (FitsP true W) from by have := worded_any k s W; rwa [hk] at this)
  obtain ⟨c0, c1, c2, c3⟩ := h.cells
  clear h hk ht
  generalize hn : l.length = n at *
  have HN := Aside.mk hn
  clear hn
  generalize hm : tx.length = m at *
  have HM := Aside.mk hm
  clear hm
  dsimp only at c2 HTR ⊢
  go_enter Tryz.func22, Tryz.ntmps22
  go_wp2_with (go_at_call 62; refine (HW.out _).mono ?_; rintro e w2 ⟨rfl, hb1⟩; have B2 := Aside.mk hb1; clear hb1 c0 c1 c2 c3)
  have H2 := Aside.mk (H.out.below B2.out)
  obtain ⟨c0, c1, c2, c3⟩ := H2.out.cells
  dsimp only at c2
  rw [HN.out] at c2
  have hlt := lt_of_blk H2.out.blk
  have HROW := Aside.mk H2.out.row
  dsimp only at HROW
  rw [HN.out] at HROW
  have HSR := Aside.mk (((HTR.out.below B2.out).below (((below_drewN w2 _ 1).trans (below_new w2.drew (.cells #[] 5))))).src (P := Tryz.prog) Tryz.underlying43 (one_map (fun x : Int => Value.int .u8 x) (fun _ => rfl) tx))
  have HTX := Aside.mk (own_emptyD w2 5)
  go_region_law (first
    | (refine step_app2 (P := Tryz.prog) (w2.drew.alloc (.cells #[] 5)) (.tmp 16) (.tmp 17) 43 43 (by rfl) (by rfl) w2.heap.size 5 (.int .u8 0) 1 1 Tryz.underlying43 byteinfoR (by rfl) (.slice (some ⟨w2.heap.size, 0, none⟩) 0 0) 0 [] (by rfl) HTX.out (.slice ta m tc) m (tx.map (.int .u8)) (by rfl) HSR.out (by unfold maxLen; omega) (by omega) (by show w2.heap.size ≤ (w2.alloc _).heap.size; simp) ?_; intro v6 w6 hA; obtain ⟨a6, c6, rfl⟩ := hA.own.form; rw [Nat.zero_add]; have HA6 := Aside.mk (And.intro hA.own hA.grown); clear hA; have B6 := Aside.mk (show Below w2.heap.size w2 w6 from ((below_drewN w2 _ 1).trans (below_new w2.drew _)).trans (below_of_grown HA6.out.2 (by show w2.heap.size ≤ (w2.alloc _).heap.size; simp) (fun k e => (by cases e; exact Nat.le_refl _)))); clear c0 c1 c2 c3; obtain ⟨c0, c1, c2, c3⟩ := (H2.out.below B6.out).cells; dsimp only at c2; rw [HN.out] at c2; have hl6 := World.block_lt_of_cell? _ _ c0)
    | (refine step_app2 (P := Tryz.prog) (w6.alloc (.cells #[.bool false, .int .u64 0, .slice a6 m c6] 50)) (.tmp 15) (.tmp 20) 33 33 (by rfl) (by rfl) 0 50 (.agg #[.bool false, .int .u64 0, .slice none 0 0]) 3 40 Tryz.underlying33 valinfo (by rfl) (.slice aa n ac) n xs (by rfl) ((HROW.out.below B6.out).alloc _) (.slice (some ⟨w6.heap.size, 0, none⟩) 1 1) 1 [.bool false, .int .u64 0, .slice a6 m c6] (by rfl) (src_val _ _ _ _ rfl rfl rfl) (by unfold maxLen; omega) (by omega) (Nat.zero_le _) ?_; intro v5 w5 hA; obtain ⟨a5, c5, rfl⟩ := hA.own.form; have HA5 := Aside.mk hA; clear hA; have g5 := ((show Kept (fun b => (Value.slice aa n ac).ownBlock = some b) w2 w5 from ((Kept.of_below B6.out).trans (Kept.of_below (below_new w6 _)) (fun _ e _ => e)).trans ((Kept.of_grown HA5.out.grown).mono (fun b e _ => e.symm)) (fun _ e _ => e)).block rb hlt (HROW.out.blk_ne H2.out.blk (by decide))).trans H2.out.blk; clear c0 c1 c2 c3; have c0 := cell_blk (k := 2) g5; simp at c0; have c3 := fun k => frozen_blk (k := k) g5; clear g5))
  all_goals
    have h6 := HA6.out.1
    rw [Nat.zero_add, List.nil_append] at h6
    have hz2 := B2.out.size
    have HP := Aside.mk (H.out.push (v := ⟨false, 0, tx⟩) (ta := a6) (tc := c6) (B2.out.trans (B6.out.mono hz2)) (by dsimp only; rw [HM.out]; exact h6.mono hz2) (by dsimp only; rw [HN.out, HM.out]; exact HA5.out))
    clear h6 hz2
    go_wp2_with fail
    go_ret
    exact ⟨rfl, HP.out⟩
theorem rback_yes (R : Nat → Prop) (rb : Nat) (k s : Int) (l : List V) (n : Nat) (hl : l.length ≤ 100000000) (hn : n ≤ l.length) (w : World) (h : RB w R rb k s l) :
    Calls Tryz.prog 32 #[.pointer (some ⟨rb, 0, none⟩), .int .i64 (n : Int)] w (RStep R rb k s (l.take n) (.int .i64 0) w) := by
  obtain ⟨A, xs, h⟩ := h
  obtain ⟨aa, ac⟩ := A
  have H := Aside.mk h
  obtain ⟨c0, c1, c2, c3⟩ := h.cells
  have hs := fun W => run_slice_to (P := Tryz.prog) Tryz.underlying33 (sz := 3) (by kernel_rfl) aa l.length ac n (Nat.le_trans hn (own_capR h.row)) W
  have hm := Aside.mk (h.row.mid (Nat.zero_le n) hn)
  clear h
  have HP := Aside.mk (show RStep R rb k s (l.take n) (.int .i64 0) w (.returned (.int .i64 0)) (w.setCell ⟨rb, 2, none⟩ (.slice (cutA aa ac 0 3) (n - 0) (ac - 0))) from rback_set H.out hn)
  generalize hq : cutA aa ac 0 3 = qa at *
  clear hq hm
  generalize hln : l.length = m at *
  clear hln
  dsimp only at c2
  go_enter Tryz.func32, Tryz.ntmps32
  go_wp2
  go_ret
  exact HP.out
theorem rback_no (R : Nat → Prop) (rb : Nat) (k s : Int) (l : List V) (n : Int) (hm : l.length ≤ 100000000) (hn : n < 0 ∨ (l.length : Int) < n) (w : World) (h : RB w R rb k s l) :
    Calls Tryz.prog 32 #[.pointer (some ⟨rb, 0, none⟩), .int .i64 n] w (IntP 173 w) := by
  obtain ⟨A, xs, h⟩ := h
  obtain ⟨c0, c1, c2, c3⟩ := h.cells
  clear h
  by_cases h0 : n < 0
  · clear hn
    go_enter Tryz.func32, Tryz.ntmps32
    go_wp2
    go_ret
    exact ⟨rfl, Below.refl _ _⟩
  · have h1 : (l.length : Int) < n := by omega
    clear hn
    go_enter Tryz.func32, Tryz.ntmps32
    go_wp2
    go_ret
    exact ⟨rfl, Below.refl _ _⟩
end Go.Proofs.YtmhjjhaipcgbiaaGreat


namespace Go.Proofs.YtmhjjhaipcgbiaaGreat
open Go.RowKit
set_option linter.unusedVariables false
set_option linter.unusedSimpArgs false
set_option maxRecDepth 100000
set_option maxHeartbeats 4000000
structure RdO (Q : World → Prop) (w : World) (base : Nat) (A : SL) (l : List V) (xs : List Value) : Prop where
  row : Own w base 50 3 (.slice A.a l.length A.c) l.length xs
  each : ∀ (i : Nat) v, l[i]? = some v → ∃ ta tc, xs[i * 3]? = some (.bool v.null) ∧ xs[i * 3 + 1]? = some (.int .u64 (v.bits : Int)) ∧ xs[i * 3 + 2]? = some (.slice ta v.text.length tc) ∧ ∀ W, Q W → Rd W 1 (.slice ta v.text.length tc) v.text.length (v.text.map (.int .u8))
theorem RdO.kept {Q : World → Prop} {w w' : World} {base : Nat} {A : SL} {l : List V} {xs : List Value} {S : Nat → Prop} (h : RdO Q w base A l xs) (hk : Kept S w w') (hS : ∀ b, base ≤ b → b < w.heap.size → ¬ S b) : RdO Q w' base A l xs :=
  ⟨h.row.kept hk (fun b e => hS b (h.row.lt b e).1 (h.row.lt b e).2), h.each⟩
theorem RdO.below {Q : World → Prop} {w w' : World} {base : Nat} {A : SL} {l : List V} {xs : List Value} (h : RdO Q w base A l xs) (hb : Below w.heap.size w w') : RdO Q w' base A l xs :=
  ⟨h.row.below hb, h.each⟩
theorem RdO.vals {Q : World → Prop} {w : World} {base : Nat} {A : SL} {l : List V} {xs : List Value} (h : RdO Q w base A l xs) (hq : Q w) : RdVs w A l :=
  ⟨xs, h.row.rd, fun i v hi => by obtain ⟨ta, tc, q0, q1, q2, q3⟩ := h.each i v hi; exact ⟨ta, tc, q0, q1, q2, q3 w hq⟩⟩
abbrev QC (c : Col) (B D E X : SL) (vals : List Value) (W : World) : Prop := RdC W c B D E X vals
def Read18P (c : Col) (B D E X : SL) (vals : List Value) (w : World) (e : Ending) (w' : World) : Prop :=
  Below w.heap.size w w' ∧ match readC c with
    | some l => ∃ A xs, e = .returned (.tuple #[.slice A.a l.length A.c, .int .i64 0]) ∧ RdO (QC c B D E X vals) w' w.heap.size A l xs
    | none => e = .returned (.tuple #[.slice none 0 0, .int .i64 (readE c)])
theorem read18_no {c : Col} {B D E X : SL} {vals : List Value} {w w' : World} (h : readC c = none) (ho : okType c.k c.s = true) (hb : Below w.heap.size w w') : Read18P c B D E X vals w (.returned (.tuple #[.slice none 0 0, .int .i64 171])) w' := by
  refine ⟨hb, ?_⟩
  rw [h]
  show _ = Ending.returned (.tuple #[.slice none 0 0, .int .i64 (readE c)])
  unfold readE
  rw [h, if_neg (by rw [ho]; decide)]
  rfl
theorem read18_yes {c : Col} {B D E X : SL} {vals : List Value} {w w' : World} {l : List V} {a : Option Addr} {cp n : Nat} {xs : List Value} (h : readC c = some l) (hl : l.length = n) (hb : Below w.heap.size w w') (hr : RdO (QC c B D E X vals) w' w.heap.size ⟨a, cp⟩ l xs) : Read18P c B D E X vals w (.returned (.tuple #[.slice a n cp, .int .i64 0])) w' := by
  refine ⟨hb, ?_⟩
  rw [h]
  exact ⟨⟨a, cp⟩, xs, by rw [hl], hr⟩
theorem rdRun_none {c : Col} {i : Nat} (h : rdRun c i = none) : ∀ j, i ≤ j → rdRun c j = none
  | 0, hj => by obtain rfl : i = 0 := by omega
                exact h
  | j + 1, hj => by
    by_cases e : i = j + 1
    · subst e; exact h
    · rw [rdRun, rdRun_none h j (by omega)]; rfl
theorem read_fail {c : Col} {i : Nat} {l : List V} {p : Nat} (hr : rdRun c i = some (l, p)) (hs : rdStep c i p = none) (hi : i < c.n.toNat) : readC c = none := by
  have h1 : rdRun c (i + 1) = none := by rw [rdRun, hr, Option.bind_some, hs]; rfl
  unfold readC readRows
  rw [rdRun_none h1 c.n.toNat (by omega)]
  split <;> rfl
abbrev colB (c : Col) (B D E X : SL) : Obj := .cells #[.int .i64 c.k, .int .i64 c.s, .int .i64 c.n, .int .i64 c.m, .slice B.a c.bits.length B.c, .slice D.a c.data.length D.c, .slice E.a c.ends.length E.c, .slice X.a c.words.length X.c] 63 (0, 0)
structure R18I (c : Col) (B D E X : SL) (vals : List Value) (w wr : World) (nv : Value) (N i p : Nat) (l : List V) (A : SL) (xs : List Value) : Prop where
  bel : Below w.heap.size w wr
  box : wr.heap[w.heap.size]? = some (colB c B D E X)
  nulls : Own wr w.heap.size 4 1 nv N ((bitsOf c.bits N).map .bool)
  row : Own wr w.heap.size 50 3 (.slice A.a l.length A.c) l.length xs
  each : ∀ (i : Nat) v, l[i]? = some v → ∃ ta tc, xs[i * 3]? = some (.bool v.null) ∧ xs[i * 3 + 1]? = some (.int .u64 (v.bits : Int)) ∧ xs[i * 3 + 2]? = some (.slice ta v.text.length tc) ∧ ∀ W, RdC W c B D E X vals → Rd W 1 (.slice ta v.text.length tc) v.text.length (v.text.map (.int .u8))
  run : rdRun c i = some (l, p)
theorem R18I.len {c : Col} {B D E X : SL} {vals : List Value} {w wr : World} {nv : Value} {N i p : Nat} {l : List V} {A : SL} {xs : List Value} (h : R18I c B D E X vals w wr nv N i p l A xs) : l.length = i := rdRun_len h.run
theorem R18I.below {c : Col} {B D E X : SL} {vals : List Value} {w wr w2 : World} {nv : Value} {N i p : Nat} {l : List V} {A : SL} {xs : List Value} (h : R18I c B D E X vals w wr nv N i p l A xs) (hb : Below wr.heap.size wr w2) : R18I c B D E X vals w w2 nv N i p l A xs :=
  ⟨below_chain h.bel hb, (hb.block _ (lt_of_blk h.box)).trans h.box, h.nulls.below hb, h.row.below hb, h.each, h.run⟩
theorem R18I.rdo {c : Col} {B D E X : SL} {vals : List Value} {w wr : World} {nv : Value} {N i p : Nat} {l : List V} {A : SL} {xs : List Value} (h : R18I c B D E X vals w wr nv N i p l A xs) : RdO (QC c B D E X vals) wr w.heap.size A l xs := ⟨h.row, h.each⟩
theorem R18I.next {c : Col} {B D E X : SL} {vals : List Value} {w wr w2 w5 : World} {nv v5 : Value} {N i p p' : Nat} {l : List V} {A : SL} {xs : List Value} {v : V} {ta : Option Addr} {tc : Nat} (h : R18I c B D E X vals w wr nv N i p l A xs) (hs : rdStep c i p = some (v, p')) (hb : Below wr.heap.size wr w2)
    (ht : ∀ W, RdC W c B D E X vals → Rd W 1 (.slice ta v.text.length tc) v.text.length (v.text.map (.int .u8))) (hA : AppP w2 w.heap.size 50 3 (.slice A.a l.length A.c) l.length xs 1 [.bool v.null, .int .u64 (v.bits : Int), .slice ta v.text.length tc] v5 w5) :
    ∃ a5 c5, v5 = .slice a5 (i + 1) c5 ∧ R18I c B D E X vals w w5 nv N (i + 1) p' (l ++ [v]) ⟨a5, c5⟩ (xs ++ [.bool v.null, .int .u64 (v.bits : Int), .slice ta v.text.length tc]) := by
  obtain ⟨a5, c5, rfl⟩ := hA.own.form
  have hl := h.len
  have K : Kept (fun b => (Value.slice A.a l.length A.c).ownBlock = some b) wr w5 := (Kept.of_below hb).trans ((Kept.of_grown hA.grown).mono (fun b e _ => e.symm)) (fun _ e _ => e)
  have hxl : xs.length = l.length * 3 := h.row.1
  refine ⟨a5, c5, by rw [hl], h.bel.trans (K.to_below h.bel.size (fun b e => (h.row.lt b e).1)), (K.block _ (lt_of_blk h.box) (h.row.blk_ne h.box (by decide))).trans h.box, h.nulls.kept K (fun b e => own_ne_own h.nulls h.row (by decide) b e), ?_, fun j u hj => ?_, ?_⟩
  · rw [List.length_append]; exact hA.own
  · rcases Nat.lt_or_ge j l.length with hlt | hge
    · rw [List.getElem?_append_left hlt] at hj
      obtain ⟨ua, uc, q0, q1, q2, q3⟩ := h.each j u hj
      refine ⟨ua, uc, ?_, ?_, ?_, q3⟩
      · rw [List.getElem?_append_left (by omega)]; exact q0
      · rw [List.getElem?_append_left (by omega)]; exact q1
      · rw [List.getElem?_append_left (by omega)]; exact q2
    · rw [List.getElem?_append_right hge] at hj
      have hj0 : j - l.length = 0 := by have := (List.getElem?_eq_some_iff.1 hj).1; simp at this; omega
      rw [hj0] at hj
      simp at hj
      subst hj
      obtain rfl : j = l.length := by omega
      refine ⟨ta, tc, ?_, ?_, ?_, ht⟩
      · rw [List.getElem?_append_right (by omega), hxl, Nat.sub_self]; rfl
      · rw [List.getElem?_append_right (by omega), hxl, Nat.add_sub_cancel_left]; rfl
      · rw [List.getElem?_append_right (by omega), hxl, Nat.add_sub_cancel_left]; rfl
  · rw [rdRun, h.run, Option.bind_some, hs]; rfl
theorem rd_cap {w : World} {sz n c : Nat} {a : Option Addr} {xs : List Value} (h : Rd w sz (.slice a n c) n xs) : n ≤ c := by
  obtain ⟨_, a', cap, e, h1, _⟩ := h
  cases e; exact h1
theorem src_valB {w : World} (b : Nat) (x0 x1 x2 : Value) (h0 : x0.oneCell' = true) (h1 : x1.oneCell' = true) (h2 : x2.oneCell' = true) (hb : w.heap.size = b) : Src Tryz.prog 3 33 (.slice (some ⟨b, 0, none⟩) 1 1) 1 [x0, x1, x2] (w.alloc (.cells #[x0, x1, x2] 50)) := by
  subst hb; exact src_val w x0 x1 x2 h0 h1 h2
theorem width_nat (k : Int) : ∃ W : Nat, widthOf k = (W : Int) ∧ W ≤ 8 := by
  unfold widthOf
  split
  · exact ⟨1, rfl, by decide⟩
  split
  · exact ⟨2, rfl, by decide⟩
  split
  · exact ⟨4, rfl, by decide⟩
  split
  · exact ⟨8, rfl, by decide⟩
  · exact ⟨0, rfl, by decide⟩
theorem R18I.bit {c : Col} {B D E X : SL} {vals : List Value} {w wr : World} {na : Option Addr} {nc N i p : Nat} {l : List V} {A : SL} {xs : List Value} (h : R18I c B D E X vals w wr (.slice na N nc) N i p l A xs) (hi : i < N) : ∃ g off, na = some ⟨g, off, none⟩ ∧ wr.cell? ⟨g, off + i, none⟩ = some (.bool (nullB c.bits i)) := by
  obtain ⟨g, off, cap, e, _, _, _, _, hc, _⟩ := h.nulls.some_ (by omega)
  simp only [Value.slice.injEq, true_and] at e
  refine ⟨g, off, e.1, hc i _ ?_⟩
  rw [List.getElem?_map, bitsOf, List.getElem?_map, List.getElem?_range hi]
  rfl
theorem read_end {c : Col} {l : List V} {p : Nat} (hr : rdRun c c.n.toNat = some (l, p)) (ho : okType c.k c.s = true) (hm : maskOK c.m c.bits = true) (hn : c.m = c.n) : readC c = if equalC (colOf c.k c.s (l.map nrm)) c = true then some l else none := by
  unfold readC readRows
  rw [if_pos ⟨ho, hm, hn⟩, hr]
  rfl
def Small18 (c : Col) : Prop := (c.m = c.n → c.n ≤ 20000) ∧ c.data.length ≤ 4900 ∧ ∀ t ∈ c.words, t.length ≤ 4900
theorem rdStep_wf {c : Col} (hc : COK c) (hs : Small18 c) {i p p' : Nat} {v : V} (h : rdStep c i p = some (v, p')) : IsBytes v.text ∧ v.bits < 18446744073709551616 ∧ v.text.length ≤ 4900 ∧ p' ≤ c.data.length := by
  have hw : ∀ W, W ≤ 8 → wordAt c.data p W < 18446744073709551616 := fun W hW => by
    have h1 := wordAt_lt hc.data p W
    have h2 : 256 ^ W ≤ 256 ^ 8 := Nat.pow_le_pow_right (by decide) hW
    have h3 : (256 : Nat) ^ 8 = 18446744073709551616 := by decide
    omega
  have hw8 : (widthOf c.k).toNat ≤ 8 := by
    unfold widthOf
    split
    · decide
    split
    · decide
    split
    · decide
    split <;> decide
  unfold rdStep at h
  split at h
  · split at h
    · rename_i h1
      cases h
      refine ⟨fun x hx => hc.data x (List.mem_of_mem_drop (List.mem_of_mem_take hx)), by simp, ?_, by omega⟩
      have := hs.2.1
      simp [List.length_take, List.length_drop]; omega
    · cases h
  · split at h
    · rename_i h0
      split at h
      · cases h; exact ⟨isBytes_nil, hw _ hw8, by simp, h0⟩
      · split at h
        · split at h
          · rename_i h1 h2 h3
            cases h
            rw [List.getD_eq_getElem?_getD, List.getElem?_eq_getElem h3]
            exact ⟨(hc.words _ (List.getElem_mem h3)).1, by simp, hs.2.2 _ (List.getElem_mem h3), h0⟩
          · cases h
        · split at h
          · cases h; exact ⟨isBytes_nil, hw _ hw8, by simp, h0⟩
          · cases h
    · cases h
theorem rdRun_wf {c : Col} (hc : COK c) (hs : Small18 c) : ∀ {i : Nat} {l : List V} {p : Nat}, rdRun c i = some (l, p) → (∀ v ∈ l, IsBytes v.text ∧ v.bits < 18446744073709551616 ∧ v.text.length ≤ 4900) ∧ p ≤ c.data.length
  | 0, l, p, h => by simp [rdRun] at h; obtain ⟨rfl, rfl⟩ := h; exact ⟨fun v hv => (by cases hv), Nat.zero_le _⟩
  | i + 1, l, p, h => by
    rw [rdRun] at h
    obtain ⟨x, h1, h2⟩ := Option.bind_eq_some_iff.1 h
    obtain ⟨y, h3, h4⟩ := Option.map_eq_some_iff.1 h2
    cases h4
    obtain ⟨g1, g2⟩ := rdRun_wf hc hs (l := x.1) (p := x.2) (by simpa using h1)
    obtain ⟨g3, g4, g5, g6⟩ := rdStep_wf hc hs (v := y.1) (p' := y.2) (by simpa using h3)
    refine ⟨fun v hv => ?_, g6⟩
    rcases List.mem_append.1 hv with hv | hv
    · exact g1 v hv
    · simp at hv; subst hv; exact ⟨g3, g4, g5⟩
end Go.Proofs.YtmhjjhaipcgbiaaGreat


namespace Go.Proofs.YtmhjjhaipcgbiaaGreat
open Go.RowKit
set_option linter.unusedVariables false
set_option linter.unusedSimpArgs false
set_option maxRecDepth 100000
set_option maxHeartbeats 4000000
theorem read18_any (c : Col) (hc : COK c) (hs : Small18 c) (B D E X : SL) (vals : List Value) (w : World) (h : RdC w c B D E X vals) : Calls Tryz.prog 84 #[colV c B D E X] w (Read18P c B D E X vals w) := by
  obtain ⟨w0, ew0⟩ : ∃ x, x = w.alloc (.cells #[.int .i64 c.k, .int .i64 c.s, .int .i64 c.n, .int .i64 c.m, .slice B.a c.bits.length B.c, .slice D.a c.data.length D.c, .slice E.a c.ends.length E.c, .slice X.a c.words.length X.c] 63) := ⟨_, rfl⟩
  have hb0 : Below w.heap.size w w0 := by rw [ew0]; exact below_new w _
  have hx0 : w0.heap[w.heap.size]? = some (colB c B D E X) := by rw [ew0]; exact heap_alloc_new w _
  have HR := Aside.mk h
  have HC := Aside.mk hc
  have HSM := Aside.mk hs
  have HB0 := Aside.mk hb0
  have HX0 := Aside.mk hx0
  obtain ⟨d0, d1, d2, d3, d4, d5, d6, d7⟩ := box8 hx0
  have HCT := Aside.mk (fun W => r18check_any c.k c.s W)
  clear h hc hs hb0 hx0
  dsimp only [colV]
  cases hok : okType c.k c.s with
  | false =>
    have HOK := Aside.mk hok
    rw [hok] at HCT
    clear hok
    go_enter Tryz.func84, Tryz.ntmps84
    go_upto_region 1 with fail
    rw [← ew0]
    clear ew0
    go_wp2_with (go_at_call 13; refine (HCT.out _).mono ?_; rintro e w1 ⟨rfl, hb1⟩; have HB1 := Aside.mk (below_chain HB0.out hb1); clear hb1)
    go_ret2
    refine ⟨HB1.out, ?_⟩
    have e : readC c = none := by unfold readC; rw [if_neg (fun h => by have := HOK.out; rw [h.1] at this; cases this)]
    rw [e]
    show _ = Ending.returned (.tuple #[.slice none 0 0, .int .i64 (readE c)])
    unfold readE
    rw [if_pos HOK.out]
    rfl
  | true =>
    have HOK := Aside.mk hok
    rw [hok] at HCT
    clear hok
    go_enter Tryz.func84, Tryz.ntmps84
    go_upto_region 1 with fail
    rw [← ew0]
    clear ew0
    go_upto_region 4 with (go_at_call 13; refine (HCT.out _).mono ?_; rintro e w1 ⟨rfl, hb1⟩; have HX1 := Aside.mk ((hb1.block _ (lt_of_blk HX0.out)).trans HX0.out); have HB1 := Aside.mk (below_chain HB0.out hb1); clear hb1 d0 d1 d2 d3 d4 d5 d6 d7; obtain ⟨d0, d1, d2, d3, d4, d5, d6, d7⟩ := box8 HX1.out)
    clear HX0 HB0
    go_wp2_with fail
    refine (read16_any c.m c.bits B HC.out.lb HC.out.bits w1 (HR.out.below HB1.out).bits).mono ?_
    rintro e w2 ⟨hb2, ⟨hm, na, nc, rfl, hno⟩ | ⟨hm, rfl⟩⟩
    · have HX2 := Aside.mk ((hb2.block _ (lt_of_blk HX1.out)).trans HX1.out)
      have HB2 := Aside.mk (below_chain HB1.out hb2)
      have HNO := Aside.mk (hno.mono HB1.out.size)
      have HMO := Aside.mk hm
      have hm0 := ((maskOK_iff HC.out.bits).1 hm).1
      clear hb2 hno hm d0 d1 d2 d3 d4 d5 d6 d7
      obtain ⟨d0, d1, d2, d3, d4, d5, d6, d7⟩ := box8 HX2.out
      obtain ⟨N, hN⟩ := Int.eq_ofNat_of_zero_le hm0
      rw [hN] at HNO d3
      have HN := Aside.mk hN
      rw [hN]
      clear hN hm0
      rw [Int.toNat_natCast] at HNO ⊢
      have hNm := HNO.out.max
      by_cases hnn : (N : Int) = c.n
      · have HNN := Aside.mk hnn.symm
        rw [← hnn] at d2
        clear hnn
        obtain ⟨W, hW, hW8⟩ := width_nat c.k
        have HWD := Aside.mk (fun w' => show Calls Tryz.prog 78 #[.int .i64 c.k] w' fun e w'' => e = .returned (.int .i64 (W : Int)) ∧ w' = w'' from by have := r18width_any c.k w'; rwa [hW] at this)
        have HWK := Aside.mk hW
        clear hW
        go_wp2_with (go_at_call 78; refine (HWD.out _).mono ?_; rintro e wx ⟨rfl, rfl⟩)
        go_loopw [7, 8, 10] (fun lv pv iv wr => ∃ (i p : Nat) (a : Option Addr) (cp : Nat), i ≤ N ∧ lv = .slice a i cp ∧ pv = .int .i64 (p : Int) ∧ iv = .int .i64 (i : Int) ∧ Aside (∃ l xs, R18I c B D E X vals w wr (.slice na N nc) N i p l ⟨a, cp⟩ xs)) (fun _ _ iv _ => N - (intOf iv).toNat)
        case atStart => exact ⟨0, 0, none, 0, by omega, rfl, rfl, rfl, ⟨[], [], HB2.out, HX2.out, HNO.out, Own.nil _ _ _ _, fun i v hi => (by simp at hi), rfl⟩⟩
        case round =>
          obtain ⟨i, p, a, cp, hi, rfl, rfl, rfl, hp⟩ := hrel
          obtain ⟨l, xs, hI⟩ := hp.out
          clear hp d0 d1 d2 d3 d4 d5 d6 d7
          have hpl := (rdRun_wf HC.out HSM.out hI.run).2
          have hdl := HC.out.ld
          have hel := HC.out.le
          have hwl := HC.out.lw
          obtain ⟨d0, d1, d2, d3, d4, d5, d6, d7⟩ := box8 hI.box
          rw [HNN.out] at d2
          have HI := Aside.mk hI
          have hll := hI.len
          have hrow := hI.row
          rw [hll] at hrow
          have HROW := Aside.mk hrow
          have HLL := Aside.mk hll
          have hsz := hI.bel.size
          have hlt0 := lt_of_blk hI.box
          clear hI hrow hll
          have hN2 : N ≤ 20000 := by have := HSM.out.1 (HN.out.trans HNN.out.symm); have := HNN.out; omega
          by_cases hlt : i < N
          · obtain ⟨g, off, rfl, hcb⟩ := HI.out.bit hlt
            have hnc := own_capR HI.out.nulls
            have HFAIL := Aside.mk (fun (hs : rdStep c i p = none) => read_fail HI.out.run hs (by have := HNN.out; omega))
            have HNEXT := Aside.mk (show ∀ (v : V) (p' : Nat), rdStep c i p = some (v, p') → ∀ {w2 w5 : World} {ta : Option Addr} {tc tn : Nat} {v5 : Value}, AppP w2 w.heap.size 50 3 (.slice a i cp) i xs 1 [.bool v.null, .int .u64 (v.bits : Int), .slice ta tn tc] v5 w5 → v.text.length = tn → Below wr.heap.size wr w2 → (∀ W, RdC W c B D E X vals → Rd W 1 (.slice ta tn tc) tn (v.text.map (.int .u8))) →
                ∃ a5 c5, v5 = .slice a5 (i + 1) c5 ∧ R18I c B D E X vals w w5 (.slice (some ⟨g, off, none⟩) N nc) N (i + 1) p' (l ++ [v]) ⟨a5, c5⟩ (xs ++ [.bool v.null, .int .u64 (v.bits : Int), .slice ta v.text.length tc]) from by
              intro v p' hs w2 w5 ta tc tn v5 hA htn hb ht
              subst htn
              exact HI.out.next hs hb ht (by dsimp only; rw [HLL.out]; exact hA))
            obtain ⟨nl, hnl⟩ : ∃ b, b = nullB c.bits i := ⟨_, rfl⟩
            rw [← hnl] at hcb
            have HNL := Aside.mk hnl.symm
            clear hnl
            go_upto_region 14 with fail
            have hv3 := heap_alloc_new wr (.cells #[.bool nl, .int .u64 0, .slice none 0 0] 50)
            have hb3 := below_new wr (.cells #[.bool nl, .int .u64 0, .slice none 0 0] 50)
            generalize wr.alloc (.cells #[.bool nl, .int .u64 0, .slice none 0 0] 50) = w3 at *
            clear d0 d1 d2 d3 d4 d5 d6 d7 hcb
            obtain ⟨d0, d1, d2, d3, d4, d5, d6, d7⟩ := box8 ((hb3.block _ hlt0).trans HI.out.box)
            rw [HNN.out] at d2
            have HV3 := Aside.mk hv3
            have HB3 := Aside.mk hb3
            have hlv := lt_of_blk hv3
            obtain ⟨v0, v1, v2⟩ : w3.cell? ⟨wr.heap.size, 0, none⟩ = some (.bool nl) ∧ w3.cell? ⟨wr.heap.size, 1, none⟩ = some (.int .u64 0) ∧ w3.cell? ⟨wr.heap.size, 2, none⟩ = some (.slice none 0 0) := by refine ⟨?_, ?_, ?_⟩ <;> (rw [cell_blk hv3]; rfl)
            have vf := fun k => frozen_blk (k := k) hv3
            clear hv3
            by_cases h15 : c.k = 15
            · have k15 : (c.k == 15) = true := by simpa using h15
              have K15 := Aside.mk h15
              clear h15
              by_cases he1 : i < c.ends.length
              · obtain ⟨g2, off2, cap2, hs2, hlc2, hcap2, hc2⟩ := rd_get HR.out.ends i he1
                have he := ((below_chain HI.out.bel HB3.out).cell (p := ⟨g2, off2 + i, none⟩) (World.block_lt_of_cell? _ _ hc2)).trans hc2
                have hg2 : g2 < wr.heap.size := Nat.lt_of_lt_of_le (World.block_lt_of_cell? _ _ hc2) hsz
                have hg3 : g2 ≠ wr.heap.size := Nat.ne_of_lt hg2
                simp only [Value.slice.injEq, true_and] at hs2
                obtain ⟨e1, e2⟩ := hs2
                rw [e1, e2] at d6
                have hev := HC.out.ends (c.ends.getD i 0) (by rw [List.getD_eq_getElem?_getD, List.getElem?_eq_getElem he1]; exact List.getElem_mem he1)
                unfold IsI64 at hev
                obtain ⟨ev, hevv⟩ : ∃ x, x = c.ends.getD i 0 := ⟨_, rfl⟩
                rw [← hevv] at he hev
                have HEV := Aside.mk hevv.symm
                clear hevv hc2 e1 e2
                have f1 : decide ((c.ends.length : Int) ≤ (i : Int)) = false := by simpa using he1
                have f2 : decide (c.ends.length ≤ i) = false := by simpa using he1
                by_cases he2 : ev < (p : Int)
                · have f3 : decide (ev < (p : Int)) = true := by simpa using he2
                  have HF := Aside.mk (HFAIL.out (by unfold rdStep; rw [if_pos K15.out, if_neg (fun h => by have := HEV.out; omega)]))
                  go_upto_region 15 with fail
                  go_quiet (fail)
                  go_wp2_with fail
                  go_ret2
                  exact read18_no HF.out HOK.out ((below_chain HI.out.bel HB3.out).trans (below_drewN _ _ _))
                have f3 : decide (ev < (p : Int)) = false := by simpa using he2
                by_cases he3 : (c.data.length : Int) < ev
                · have f4 : decide ((c.data.length : Int) < ev) = true := by simpa using he3
                  have HF := Aside.mk (HFAIL.out (by unfold rdStep; rw [if_pos K15.out, if_neg (fun h => by have := HEV.out; omega)]))
                  go_upto_region 15 with fail
                  go_quiet (fail)
                  go_wp2_with fail
                  go_ret2
                  exact read18_no HF.out HOK.out ((below_chain HI.out.bel HB3.out).trans (below_drewN _ _ _))
                obtain ⟨en, rfl⟩ := Int.eq_ofNat_of_zero_le (show 0 ≤ ev by omega)
                have hs5 := fun W => run_slice_mid (P := Tryz.prog) Tryz.underlying43 (sz := 1) (by kernel_rfl) D.a c.data.length D.c p en (by omega) (Nat.le_trans (by omega) (rd_cap HR.out.data)) W
                have HTX := Aside.mk (show ∀ W, RdC W c B D E X vals → Rd W 1 (.slice (cutA D.a D.c p 1) (en - p) (D.c - p)) (en - p) (((c.data.drop p).take (en - p)).map (.int .u8)) from fun W hW => by
                  have := hW.data.mid (i := p) (j := en) (by omega) (by omega)
                  rwa [Nat.mul_one, Nat.mul_one, ← List.map_drop, ← List.map_take] at this)
                have f4 : decide ((c.data.length : Int) < (en : Int)) = false := by simpa using he3
                generalize cutA D.a D.c p 1 = ta at *
                generalize D.c - p = tc at *
                go_upto_region 15 with fail
                go_quiet (fail)
                go_upto_region 17 with fail
                go_region
                have k16 : (c.k == 16) = false := by rw [K15.out]; rfl
                have k15n : (c.k != 15) = false := by rw [K15.out]; rfl
                cases nl
                all_goals
                  go_wp2_with (at_builtin; go_loud (refine wpList_app2 _ rfl _ _ 33 33 rfl w.heap.size 50 (.agg #[.bool false, .int .u64 0, .slice none 0 0]) 3 40 Tryz.underlying33 valinfo rfl _ i xs rfl (HROW.out.below ((by repeat (first | exact Below.refl _ _ | assumption | (refine Below.drew ?_) | (refine Below.trans ?_ (below_drewN _ _ _)) | (refine Below.alloc ?_ (by first | omega | (simp; done) | (simp; omega)) _) | (refine Below.setCell ?_ (by first | omega | (simp; done) | (simp; omega)) _))))) _ 1 [_, _, _] rfl (src_valB w3.heap.size _ _ _ rfl rfl rfl (by simp)) (by unfold maxLen; omega) (by omega) (by simp; omega) ?_))
                  intro v5 w5 hA
                  have HPC := Aside.mk (show ((c.data.drop p).take (en - p)).length = en - p from by rw [List.length_take, List.length_drop]; omega)
                  obtain ⟨a5, c5, rfl, hI5⟩ := HNEXT.out ⟨_, 0, (c.data.drop p).take (en - p)⟩ en (by
                      unfold rdStep
                      rw [if_pos K15.out, HEV.out, if_pos ⟨he1, by omega, by omega⟩, HNL.out]; rfl) hA HPC.out ((by repeat (first | exact Below.refl _ _ | assumption | (refine Below.drew ?_) | (refine Below.trans ?_ (below_drewN _ _ _)) | (refine Below.alloc ?_ (by first | omega | (simp; done) | (simp; omega)) _) | (refine Below.setCell ?_ (by first | omega | (simp; done) | (simp; omega)) _)))) HTX.out
                  have H5 := Aside.mk hI5
                  clear hA hI5
                  go_wp2_with fail
                  exact ⟨⟨i + 1, en, a5, c5, by omega, rfl, rfl, by simp, ⟨_, _, H5.out⟩⟩, by simp [intOf]; omega⟩
              · have f1 : decide ((c.ends.length : Int) ≤ (i : Int)) = true := by simpa using he1
                have f2 : decide (c.ends.length ≤ i) = true := by simpa using he1
                have HF := Aside.mk (HFAIL.out (by unfold rdStep; rw [if_pos K15.out, if_neg (fun h => he1 h.1)]))
                clear he1
                go_upto_region 15 with fail
                go_quiet (fail)
                go_wp2_with fail
                go_ret2
                exact read18_no HF.out HOK.out ((below_chain HI.out.bel HB3.out).trans (below_drewN _ _ _))
            · have k15 : (c.k == 15) = false := by simpa using h15
              have k15n : (c.k != 15) = true := by simpa using h15
              have K15 := Aside.mk h15
              have HWT := Aside.mk (show (widthOf c.k).toNat = W from by rw [HWK.out]; rfl)
              clear h15
              by_cases hpw : p + W ≤ c.data.length
              · have HPW := Aside.mk hpw
                have hs5 := fun W' => run_slice_mid (P := Tryz.prog) Tryz.underlying43 (sz := 1) (by kernel_rfl) D.a c.data.length D.c p (p + W) (by omega) (Nat.le_trans hpw (rd_cap HR.out.data)) W'
                have hrd := HR.out.data.mid (i := p) (j := p + W) (by omega) hpw
                rw [Nat.add_sub_cancel_left, Nat.mul_one, Nat.mul_one, ← List.map_drop, ← List.map_take] at hrd
                simp only [Int.natCast_add, Nat.add_sub_cancel_left] at hs5
                have hxl : ((c.data.drop p).take W).length = W := by rw [List.length_take, List.length_drop]; omega
                have hxb : IsBytes ((c.data.drop p).take W) := fun x hx => HC.out.data x (List.mem_of_mem_drop (List.mem_of_mem_take hx))
                have HNUM := Aside.mk (show Calls Tryz.prog 152 #[.slice (cutA D.a D.c p 1) W (D.c - p)] w3 fun e w' => e = .returned (.int .u64 (wordAt c.data p W : Int)) ∧ w3 = w' from by
                  have := num18_any ((c.data.drop p).take W) ⟨cutA D.a D.c p 1, D.c - p⟩ hxb (by omega) w3 (by rw [hxl]; exact hrd.below (below_chain HI.out.bel HB3.out))
                  rw [numOf_word _ _ _ hpw] at this
                  simpa only [hxl] using this)
                have hb64 : wordAt c.data p W ≤ 18446744073709551615 := by
                  have h1 := wordAt_lt HC.out.data p W
                  have h2 : 256 ^ W ≤ 256 ^ 8 := Nat.pow_le_pow_right (by decide) hW8
                  have h3 : (256 : Nat) ^ 8 = 18446744073709551616 := by decide
                  omega
                have HSTEP := Aside.mk (show rdStep c i p = if nullB c.bits i = true then some (⟨true, wordAt c.data p W, []⟩, p + W)
                    else if c.k = 16 then (if wordAt c.data p W < c.words.length then some (⟨false, 0, c.words.getD (wordAt c.data p W) []⟩, p + W) else none)
                    else if fitsB c.k c.s (wordAt c.data p W) = true then some (⟨false, wordAt c.data p W, []⟩, p + W) else none from by
                  unfold rdStep
                  rw [if_neg K15.out, HWT.out, if_pos HPW.out])
                clear hrd hxl hxb
                generalize wordAt c.data p W = b at *
                generalize cutA D.a D.c p 1 = ta at *
                generalize D.c - p = tc at *
                go_upto_region 22 with (go_at_call 152; refine HNUM.out.mono ?_; rintro e wx ⟨rfl, rfl⟩)
                have hv4 : (w3.setCell ⟨wr.heap.size, 1, none⟩ (.int .u64 (b : Int))).heap[wr.heap.size]? = some (.cells #[.bool nl, .int .u64 (b : Int), .slice none 0 0] 50 (0, 0)) := by
                  have := heap_setCell_at (k := 1) HV3.out (.int .u64 (b : Int)); simpa using this
                have hb4 : Below wr.heap.size wr (w3.setCell ⟨wr.heap.size, 1, none⟩ (.int .u64 (b : Int))) := (by repeat (first | exact Below.refl _ _ | assumption | (refine Below.drew ?_) | (refine Below.trans ?_ (below_drewN _ _ _)) | (refine Below.alloc ?_ (by first | omega | (simp; done) | (simp; omega)) _) | (refine Below.setCell ?_ (by first | omega | (simp; done) | (simp; omega)) _)))
                clear HNUM d0 d1 d2 d3 d4 d5 d6 d7 v0 v1 v2 vf hlv hb3 HV3 HB3 hs5
                generalize w3.setCell ⟨wr.heap.size, 1, none⟩ (.int .u64 (b : Int)) = w4 at *
                obtain ⟨d0, d1, d2, d3, d4, d5, d6, d7⟩ := box8 ((hb4.block _ hlt0).trans HI.out.box)
                rw [HNN.out] at d2
                have HV4 := Aside.mk hv4
                have hlv := lt_of_blk hv4
                obtain ⟨v0, v1, v2⟩ : w4.cell? ⟨wr.heap.size, 0, none⟩ = some (.bool nl) ∧ w4.cell? ⟨wr.heap.size, 1, none⟩ = some (.int .u64 (b : Int)) ∧ w4.cell? ⟨wr.heap.size, 2, none⟩ = some (.slice none 0 0) := by refine ⟨?_, ?_, ?_⟩ <;> (rw [cell_blk hv4]; rfl)
                have vf := fun k => frozen_blk (k := k) hv4
                clear hv4
                cases nl with
                | true =>
                  go_wp2_with (at_builtin; go_loud (refine wpList_app2 _ rfl _ _ 33 33 rfl w.heap.size 50 (.agg #[.bool false, .int .u64 0, .slice none 0 0]) 3 40 Tryz.underlying33 valinfo rfl _ i xs rfl (HROW.out.below ((by repeat (first | exact Below.refl _ _ | assumption | (refine Below.drew ?_) | (refine Below.trans ?_ (below_drewN _ _ _)) | (refine Below.alloc ?_ (by first | omega | (simp; done) | (simp; omega)) _) | (refine Below.setCell ?_ (by first | omega | (simp; done) | (simp; omega)) _))))) _ 1 [_, _, _] rfl (src_valB w4.heap.size _ _ _ rfl rfl rfl (by simp)) (by unfold maxLen; omega) (by omega) (by simp; omega) ?_))
                  intro v5 w5 hA
                  obtain ⟨a5, c5, rfl, hI5⟩ := HNEXT.out ⟨true, b, []⟩ (p + W) (by rw [HSTEP.out, HNL.out]; rfl) hA rfl ((by repeat (first | exact Below.refl _ _ | assumption | (refine Below.drew ?_) | (refine Below.trans ?_ (below_drewN _ _ _)) | (refine Below.alloc ?_ (by first | omega | (simp; done) | (simp; omega)) _) | (refine Below.setCell ?_ (by first | omega | (simp; done) | (simp; omega)) _)))) (fun W _ => Rd.nil W 1)
                  have H5 := Aside.mk hI5
                  clear hA hI5
                  go_wp2_with fail
                  exact ⟨⟨i + 1, p + W, a5, c5, by omega, rfl, by simp, by simp, ⟨_, _, H5.out⟩⟩, by simp [intOf]; omega⟩
                | false =>
                  by_cases h16 : c.k = 16
                  · have k16 : (c.k == 16) = true := by simpa using h16
                    have K16 := Aside.mk h16
                    clear h16
                    by_cases hbw : b < c.words.length
                    · have g1 : decide ((c.words.length : Int) ≤ (b : Int)) = false := by simpa using hbw
                      have g2 : decide (c.words.length ≤ b) = false := by simpa using hbw
                      obtain ⟨ua, uc, q1, q2⟩ := HR.out.each.2 b _ (List.getElem?_eq_getElem hbw)
                      have hvl := HR.out.each.1
                      obtain ⟨g4, off4, cap4, e4, hq1, hq2, hcc⟩ := HR.out.words.some_ (by omega)
                      have hcu0 := hcc b _ q1
                      have hcu := ((below_chain HI.out.bel hb4).cell (p := ⟨g4, off4 + b, none⟩) (World.block_lt_of_cell? _ _ hcu0)).trans hcu0
                      have hg4 : g4 ≠ wr.heap.size := Nat.ne_of_lt (Nat.lt_of_lt_of_le (World.block_lt_of_cell? _ _ hcu0) hsz)
                      simp only [Value.slice.injEq, true_and] at e4
                      obtain ⟨e1, e2⟩ := e4
                      rw [e1, e2] at d7
                      have HQ2 := Aside.mk (show ∀ W, RdC W c B D E X vals → Rd W 1 (.slice ua c.words[b].length uc) c.words[b].length (c.words[b].map (.int .u8)) from fun W hW => by
                        obtain ⟨ua', uc', q1', q2'⟩ := hW.each.2 b _ (List.getElem?_eq_getElem hbw)
                        rw [q1] at q1'
                        have q1' := Option.some.inj q1'
                        simp only [Value.slice.injEq, true_and] at q1'
                        obtain ⟨rfl, rfl⟩ := q1'
                        exact q2')
                      have HGD := Aside.mk (show c.words.getD b [] = c.words[b] from by rw [List.getD_eq_getElem?_getD, List.getElem?_eq_getElem hbw]; rfl)
                      clear q1 q2 hcc hcu0 e1 e2 hvl
                      generalize c.words[b] = ut at *
                      obtain ⟨un, hun⟩ : ∃ n, n = ut.length := ⟨_, rfl⟩
                      rw [← hun] at hcu HQ2
                      have HUN := Aside.mk hun.symm
                      clear hun
                      go_wp2_with (at_builtin; go_loud (refine wpList_app2 _ rfl _ _ 33 33 rfl w.heap.size 50 (.agg #[.bool false, .int .u64 0, .slice none 0 0]) 3 40 Tryz.underlying33 valinfo rfl _ i xs rfl (HROW.out.below ((by repeat (first | exact Below.refl _ _ | assumption | (refine Below.drew ?_) | (refine Below.trans ?_ (below_drewN _ _ _)) | (refine Below.alloc ?_ (by first | omega | (simp; done) | (simp; omega)) _) | (refine Below.setCell ?_ (by first | omega | (simp; done) | (simp; omega)) _))))) _ 1 [_, _, _] rfl (src_valB w4.heap.size _ _ _ rfl rfl rfl (by simp)) (by unfold maxLen; omega) (by omega) (by simp; omega) ?_))
                      intro v5 w5 hA
                      obtain ⟨a5, c5, rfl, hI5⟩ := HNEXT.out ⟨false, 0, ut⟩ (p + W) (by rw [HSTEP.out, HNL.out, if_neg (by decide), if_pos K16.out, if_pos hbw, HGD.out]) hA HUN.out ((by repeat (first | exact Below.refl _ _ | assumption | (refine Below.drew ?_) | (refine Below.trans ?_ (below_drewN _ _ _)) | (refine Below.alloc ?_ (by first | omega | (simp; done) | (simp; omega)) _) | (refine Below.setCell ?_ (by first | omega | (simp; done) | (simp; omega)) _)))) HQ2.out
                      have H5 := Aside.mk hI5
                      clear hA hI5
                      go_wp2_with fail
                      exact ⟨⟨i + 1, p + W, a5, c5, by omega, rfl, by simp, by simp, ⟨_, _, H5.out⟩⟩, by simp [intOf]; omega⟩
                    · have g1 : decide ((c.words.length : Int) ≤ (b : Int)) = true := by simpa using hbw
                      have g2 : decide (c.words.length ≤ b) = true := by simpa using hbw
                      have HF := Aside.mk (HFAIL.out (by rw [HSTEP.out, HNL.out, if_neg (by decide), if_pos K16.out, if_neg hbw]))
                      have HB4 := Aside.mk (below_chain HI.out.bel hb4)
                      go_wp2_with fail
                      go_ret2
                      exact read18_no HF.out HOK.out HB4.out
                  · have k16 : (c.k == 16) = false := by simpa using h16
                    have K16 := Aside.mk h16
                    clear h16
                    cases hf : fitsB c.k c.s (b : Int) with
                    | true =>
                      have HFT := Aside.mk (show Calls Tryz.prog 75 #[.agg #[.int .i64 c.k, .int .i64 c.s], .int .u64 (b : Int)] w4 (FitsP true w4) from by have := r18fits_any c.k c.s b (by omega) (by omega) w4; rwa [hf] at this)
                      have HNX := Aside.mk (show rdStep c i p = some (⟨false, b, []⟩, p + W) from by rw [HSTEP.out, HNL.out, if_neg (by decide), if_neg K16.out, if_pos hf])
                      clear hf
                      go_upto_region 30 with (go_at_call 75; refine HFT.out.mono ?_; rintro e w6 ⟨rfl, hb6⟩; have hv6 := (hb6.block _ hlv).trans HV4.out; have hb60 : Below wr.heap.size wr w6 := below_chain hb4 hb6; clear d0 d1 d2 d3 d4 d5 d6 d7 v0 v1 v2 vf hlv hb6 HFT; have hlv := lt_of_blk hv6; obtain ⟨v0, v1, v2⟩ : w6.cell? ⟨wr.heap.size, 0, none⟩ = some (.bool false) ∧ w6.cell? ⟨wr.heap.size, 1, none⟩ = some (.int .u64 (b : Int)) ∧ w6.cell? ⟨wr.heap.size, 2, none⟩ = some (.slice none 0 0) := (by refine ⟨?_, ?_, ?_⟩ <;> (rw [cell_blk hv6]; rfl)); have vf := fun k => frozen_blk (k := k) hv6; clear hv6; have hsz6 := hb60.size)
                      go_wp2_with (at_builtin; go_loud (refine wpList_app2 _ rfl _ _ 33 33 rfl w.heap.size 50 (.agg #[.bool false, .int .u64 0, .slice none 0 0]) 3 40 Tryz.underlying33 valinfo rfl _ i xs rfl (HROW.out.below ((by repeat (first | exact Below.refl _ _ | assumption | (refine Below.drew ?_) | (refine Below.trans ?_ (below_drewN _ _ _)) | (refine Below.alloc ?_ (by first | omega | (simp; done) | (simp; omega)) _) | (refine Below.setCell ?_ (by first | omega | (simp; done) | (simp; omega)) _))))) _ 1 [_, _, _] rfl (src_valB w6.heap.size _ _ _ rfl rfl rfl (by simp)) (by unfold maxLen; omega) (by omega) (by simp; omega) ?_))
                      intro v5 w5 hA
                      obtain ⟨a5, c5, rfl, hI5⟩ := HNEXT.out ⟨false, b, []⟩ (p + W) HNX.out hA rfl ((by repeat (first | exact Below.refl _ _ | assumption | (refine Below.drew ?_) | (refine Below.trans ?_ (below_drewN _ _ _)) | (refine Below.alloc ?_ (by first | omega | (simp; done) | (simp; omega)) _) | (refine Below.setCell ?_ (by first | omega | (simp; done) | (simp; omega)) _)))) (fun W _ => Rd.nil W 1)
                      have H5 := Aside.mk hI5
                      clear hA hI5
                      go_wp2_with fail
                      exact ⟨⟨i + 1, p + W, a5, c5, by omega, rfl, by simp, by simp, ⟨_, _, H5.out⟩⟩, by simp [intOf]; omega⟩
                    | false =>
                      have HFT := Aside.mk (show Calls Tryz.prog 75 #[.agg #[.int .i64 c.k, .int .i64 c.s], .int .u64 (b : Int)] w4 (FitsP false w4) from by have := r18fits_any c.k c.s b (by omega) (by omega) w4; rwa [hf] at this)
                      have HF := Aside.mk (HFAIL.out (by rw [HSTEP.out, HNL.out, if_neg (by decide), if_neg K16.out, if_neg (by rw [hf]; decide)]))
                      have HB4 := Aside.mk (below_chain HI.out.bel hb4)
                      clear hf
                      go_wp2_with (go_at_call 75; refine HFT.out.mono ?_; rintro e w6 ⟨rfl, hb6⟩; have HB6 := Aside.mk (below_chain HB4.out hb6); clear hb6)
                      go_ret2
                      exact read18_no HF.out HOK.out HB6.out
              · have HF := Aside.mk (HFAIL.out (by unfold rdStep; rw [if_neg K15.out, HWT.out, if_neg hpw]))
                have g1 : decide ((c.data.length : Int) < (p : Int) + (W : Int)) = true := by simp; omega
                have HB4 := Aside.mk (below_chain HI.out.bel HB3.out)
                go_wp2_with fail
                go_ret2
                exact read18_no HF.out HOK.out HB4.out
          · obtain rfl : i = N := by omega
            have hcn : c.n.toNat = i := by have := HNN.out; omega
            have HEND := Aside.mk (read_end (l := l) (p := p) (c := c) (by rw [hcn]; exact HI.out.run) HOK.out HMO.out (by rw [HN.out, HNN.out]))
            have hwf := (rdRun_wf HC.out HSM.out HI.out.run).1
            have hfew : Few l := ⟨by have := HLL.out; omega, fun v hv => (hwf v hv).2.2⟩
            have hlay := lay_gen c.k c.s l HOK.out hfew (fun v hv => ⟨(hwf v hv).1, (hwf v hv).2.1⟩) ⟨a, cp⟩ wr.drew ((HI.out.rdo.vals (HR.out.below HI.out.bel)).below (below_drewN wr _ 1))
            dsimp only at hlay
            rw [HLL.out] at hlay
            have HLAY := Aside.mk hlay
            have HCOK := Aside.mk (show COK (colOf c.k c.s (l.map nrm)) from built_cokB HOK.out (nrm_few hfew) (fun v hv => by obtain ⟨u, hu, rfl⟩ := List.mem_map.1 hv; exact (nrm_wf ⟨(hwf u hu).1, (hwf u hu).2.1⟩).1))
            clear hlay hwf hfew hcn
            generalize hz : colOf c.k c.s (l.map nrm) = z at *
            rw [show (CS.of c.k (l.map nrm)).col c.k c.s = z from hz] at HLAY
            clear hz
            go_upto_region 31 with fail
            go_region_law (first
              | (refine step_call (P := Tryz.prog) wr.drew (by rfl) 25 [.tmp 157, .tmp 158] _ (by rfl) [.agg #[.int .i64 c.k, .int .i64 c.s], .slice a i cp] (by rfl) (fun _ _ => rfl) HLAY.out ?_; rintro e w6 ⟨B6, D6, E6, X6, vals6, rfl, hoc, hb6⟩; replace hb6 := undrew hb6; have HEQ := Aside.mk (equal_col z c HCOK.out HC.out B6 D6 E6 X6 B D E X vals6 vals w6 hoc.rd (HR.out.below (below_chain HI.out.bel hb6))); have HB6 := Aside.mk (below_chain HI.out.bel hb6); have HW6 := Aside.mk hb6; clear d0 d1 d2 d3 d4 d5 d6 d7; obtain ⟨d0, d1, d2, d3, d4, d5, d6, d7⟩ := box8 ((hb6.block _ hlt0).trans HI.out.box); rw [HNN.out] at d2; clear hoc hb6; dsimp only [colV] at HEQ ⊢; rw [HNN.out] at HEQ; refine ⟨_, rfl, ?_⟩)
              | (refine step_call (P := Tryz.prog) w6 (by rfl) 30 [.tmp 159, .tmp 160] _ (by rfl) [.agg #[.int .i64 z.k, .int .i64 z.s, .int .i64 z.n, .int .i64 z.m, .slice B6.a z.bits.length B6.c, .slice D6.a z.data.length D6.c, .slice E6.a z.ends.length E6.c, .slice X6.a z.words.length X6.c], .agg #[.int .i64 c.k, .int .i64 c.s, .int .i64 (i : Int), .int .i64 c.m, .slice B.a c.bits.length B.c, .slice D.a c.data.length D.c, .slice E.a c.ends.length E.c, .slice X.a c.words.length X.c]] (by rfl) (fun _ _ => rfl) HEQ.out ?_; rintro e w7 ⟨rfl, hb7⟩; have HB7 := Aside.mk (below_chain HB6.out hb7); have HW7 := Aside.mk (below_chain HW6.out hb7); clear hb7; refine ⟨_, rfl, ?_⟩))
            all_goals
              cases heq : equalC z c with
              | true =>
                have HE := Aside.mk (show readC c = some l from by rw [HEND.out, heq]; rfl)
                have HRD := Aside.mk (HI.out.rdo.below HW7.out)
                clear heq
                go_wp2_with fail
                go_ret2
                exact read18_yes HE.out HLL.out HB7.out HRD.out
              | false =>
                have HE := Aside.mk (show readC c = none from by rw [HEND.out, heq]; rfl)
                clear heq
                go_wp2_with fail
                go_ret2
                exact read18_no HE.out HOK.out HB7.out
      · have d9 : ((N : Int) != c.n) = true := by simpa using hnn
        have HNN := Aside.mk hnn
        clear hnn
        go_wp2_with fail
        go_ret2
        refine read18_no ?_ HOK.out HB2.out
        unfold readC
        rw [if_neg (fun h => HNN.out (by rw [← HN.out]; exact h.2.2))]
    · have HM := Aside.mk hm
      have HB2 := Aside.mk (below_chain HB1.out hb2)
      clear hb2 hm
      go_wp2_with fail
      go_ret2
      refine read18_no ?_ HOK.out HB2.out
      unfold readC
      rw [if_neg (fun h => by have := HM.out; rw [h.2.1] at this; cases this)]
end Go.Proofs.YtmhjjhaipcgbiaaGreat


namespace Go.Proofs.YtmhjjhaipcgbiaaGreat
open Go.RowKit
set_option linter.unusedVariables false
set_option linter.unusedSimpArgs false
set_option maxRecDepth 100000
set_option maxHeartbeats 1000000
theorem lows_cons (X n : Nat) : lows X (n + 1) = ((X % 256 : Nat) : Int) :: lows (X / 256) n := by
  unfold lows
  rw [List.range_succ_eq_map, List.map_cons, List.map_map]
  congr 1
  · simp
  · refine List.map_congr_left fun i _ => ?_
    simp only [Function.comp]
    rw [Nat.pow_succ, Nat.mul_comm, ← Nat.div_div_eq_div_mul]
theorem lows_num : ∀ {xs : List Int}, IsBytes xs → lows (numOf xs) xs.length = xs
  | [], _ => rfl
  | x :: r, h => by
    have hx := h x (List.mem_cons_self ..)
    have hr := lows_num (xs := r) (fun y hy => h y (List.mem_cons_of_mem _ hy))
    rw [List.length_cons, lows_cons, numOf, show (x.toNat + 256 * numOf r) / 256 = numOf r by omega, hr]
    congr 1
    omega
theorem lows_word {data : List Int} (hb : IsBytes data) (o W : Nat) (h : o + W ≤ data.length) : lows (wordAt data o W) W = (data.drop o).take W := by
  have hl : ((data.drop o).take W).length = W := by rw [List.length_take, List.length_drop]; omega
  have := lows_num (xs := (data.drop o).take W) (fun x hx => hb x (List.mem_of_mem_drop (List.mem_of_mem_take hx)))
  rwa [numOf_word _ _ _ h, hl] at this
theorem byte_ext {x y : Int} (hx : 0 ≤ x ∧ x < 256) (hy : 0 ≤ y ∧ y < 256) (h : ∀ j, j < 8 → x.toNat.testBit j = y.toNat.testBit j) : x = y := by
  have e : x.toNat = y.toNat := by
    refine Nat.eq_of_testBit_eq fun j => ?_
    rcases Nat.lt_or_ge j 8 with h8 | h8
    · exact h j h8
    · have hp : 2 ^ 8 ≤ 2 ^ j := Nat.pow_le_pow_right (by decide) h8
      rw [Nat.testBit_lt_two_pow (by omega), Nat.testBit_lt_two_pow (by omega)]
  omega
theorem mof_inv {m : Int} {bs : List Int} (hb : IsBytes bs) (h : maskOK m bs = true) : bs = mof (bitsOf bs m.toNat) := by
  obtain ⟨h1, h2, h3, h4⟩ := (maskOK_iff hb).1 h
  have hl : (mof (bitsOf bs m.toNat)).length = bs.length := by rw [mof_len, bitsOf_len]; omega
  refine List.ext_getElem hl.symm fun i hi hi2 => ?_
  refine byte_ext (hb _ (List.getElem_mem _)) (mof_bytes _ _ (List.getElem_mem _)) fun j hj => ?_
  have e1 : (bs[i]).toNat.testBit j = nullB bs (8 * i + j) := by
    unfold nullB
    rw [show (8 * i + j) / 8 = i by omega, show (8 * i + j) % 8 = j by omega, List.getD_eq_getElem?_getD, List.getElem?_eq_getElem hi]; rfl
  have e2 : ((mof (bitsOf bs m.toNat))[i]).toNat.testBit j = nullB (mof (bitsOf bs m.toNat)) (8 * i + j) := by
    unfold nullB
    rw [show (8 * i + j) / 8 = i by omega, show (8 * i + j) % 8 = j by omega, List.getD_eq_getElem?_getD, List.getElem?_eq_getElem hi2]; rfl
  rw [e1, e2, mof_bit]
  rcases Nat.lt_or_ge (8 * i + j) m.toNat with hm | hm
  · rw [bitsOf, List.getElem?_map, List.getElem?_range hm]; rfl
  · rw [h4 _ hm (by omega), List.getElem?_eq_none (by rw [bitsOf_len]; exact hm)]; rfl
theorem chop (data : List Int) (W : Nat) : ∀ n, ((List.range n).flatMap fun i => (data.drop (i * W)).take W) = data.take (n * W)
  | 0 => by simp
  | n + 1 => by
    rw [List.range_succ, List.flatMap_append, chop data W n, Nat.add_mul, Nat.one_mul, List.take_add]
    simp
theorem flatMap_congr_range {n : Nat} {f g : Nat → List Int} (h : ∀ i, i < n → f i = g i) : (List.range n).flatMap f = (List.range n).flatMap g := by
  induction n with
  | zero => rfl
  | succ n ih =>
    rw [List.range_succ, List.flatMap_append, List.flatMap_append, ih (fun i hi => h i (by omega))]
    simp [h n (by omega)]
theorem valsC_nulls (c : Col) (n : Nat) : (valsC c n).map (·.null) = bitsOf c.bits n := by
  unfold valsC bitsOf
  rw [List.map_map]
  refine List.map_congr_left fun i _ => ?_
  simp only [Function.comp, valC]
  split
  · rename_i h; exact h.symm
  · rename_i h; simpa using h
theorem valsC_len2 (c : Col) (n : Nat) : (valsC c n).length = n := by simp [valsC]
theorem valsC_get (c : Col) (n i : Nat) (h : i < n) : (valsC c n)[i]? = some (valC c i) := by rw [valsC, List.getElem?_map, List.getElem?_range h]; rfl
theorem valsC_take (c : Col) (n i : Nat) (h : i ≤ n) : (valsC c n).take i = valsC c i := by
  unfold valsC
  rw [← List.map_take]
  congr 1
  refine List.ext_getElem (by simp; omega) fun j h1 h2 => by simp
theorem fixed_data {c : Col} (hc : COK c) (h : checkC c = 0) (h1 : c.k ≠ 15) (h2 : c.k ≠ 16) : (CS.of c.k (valsC c c.n.toNat)).data = c.data ∧ c.ends = [] ∧ c.words = [] := by
  obtain ⟨ho, hm, hn, hmay⟩ := check_zero h
  obtain ⟨W, hW, hW1, hW8⟩ := width_pos ho h1
  unfold mayB at hmay
  rw [if_neg h1, if_neg h2, hW, Int.toNat_natCast] at hmay
  unfold mayFixed sizedB at hmay
  simp only [Bool.and_eq_true, beq_iff_eq, List.all_eq_true, List.isEmpty_iff] at hmay
  obtain ⟨⟨⟨⟨hs1, hs2⟩, hs3⟩, hs4⟩, hall⟩ := hmay
  have hN : c.n.toNat * W = c.data.length := by
    have : c.n.toNat = c.data.length / W := by rw [← hs2, Int.toNat_natCast]
    rw [this]
    exact Nat.div_mul_cancel (Nat.dvd_of_mod_eq_zero hs1)
  refine ⟨?_, hs3, hs4⟩
  rw [fixed_of h1 h2, hW, Int.toNat_natCast]
  show ((valsC c c.n.toNat).map (·.bits)).flatMap (fun x => lows x W) = c.data
  unfold valsC
  rw [List.map_map, List.flatMap_map]
  have := chop c.data W c.n.toNat
  rw [hN, List.take_length] at this
  rw [← this]
  refine flatMap_congr_range fun i hi => ?_
  have hle : i * W + W ≤ c.data.length := by rw [← hN, ← Nat.add_one_mul]; exact Nat.mul_le_mul_right _ hi
  have ha := hall i (List.mem_range.2 hi)
  simp only [Function.comp, valC]
  rw [← lows_word hc.data _ _ hle]
  split
  · rename_i hnl
    rw [if_pos hnl] at ha
    rw [beq_iff_eq.1 ha]
  · unfold valueC
    rw [if_neg h1, if_neg h2, hW, Int.toNat_natCast]
theorem running_facts2 {c : Col} (hc : COK c) (h : checkC c = 0) (h1 : c.k = 15) : (c.ends.length : Int) = c.n ∧ c.words = [] ∧ aheadI c.ends c.ends.length = (c.data.length : Int) ∧
    ∀ i, i < c.ends.length → aheadI c.ends i ≤ c.ends.getD i 0 ∧ c.ends.getD i 0 ≤ (c.data.length : Int) ∧ (nullB c.bits i = true → c.ends.getD i 0 = aheadI c.ends i) := by
  obtain ⟨ho, hm, hn, hmay⟩ := check_zero h
  unfold mayB at hmay
  rw [if_pos h1] at hmay
  unfold mayRunning at hmay
  simp only [Bool.and_eq_true, beq_iff_eq, List.all_eq_true, List.isEmpty_iff] at hmay
  obtain ⟨⟨⟨h2, h3⟩, h4⟩, h5⟩ := hmay
  refine ⟨h2, h3, h5, fun i hi => ?_⟩
  have := h4 i (List.mem_range.2 hi)
  simp only [Bool.not_eq_true', Bool.or_eq_false_iff, Bool.and_eq_false_iff, decide_eq_false_iff_not, bne_eq_false_iff_eq] at this
  refine ⟨by omega, by omega, fun hnl => ?_⟩
  rcases this.2 with h | h
  · rw [hnl] at h; cases h
  · exact h
theorem ahead_succ (ends : List Int) (i : Nat) : aheadI ends (i + 1) = ends.getD i 0 := by rw [aheadI, if_neg (by omega)]; rfl
theorem running_text {c : Col} (hc : COK c) (h : checkC c = 0) (h1 : c.k = 15) : ∀ i, i ≤ c.ends.length → 0 ≤ aheadI c.ends i ∧ (aheadI c.ends i).toNat ≤ c.data.length ∧ (valsC c i).flatMap (·.text) = c.data.take (aheadI c.ends i).toNat
  | 0, _ => by simp [aheadI, valsC]
  | i + 1, hi => by
    obtain ⟨g0, g1, g2⟩ := running_text hc h h1 i (by omega)
    obtain ⟨_, _, _, hf⟩ := running_facts2 hc h h1
    obtain ⟨f1, f2, f3⟩ := hf i (by omega)
    rw [ahead_succ]
    refine ⟨by omega, by omega, ?_⟩
    rw [valsC_snoc, List.flatMap_append, g2]
    simp only [List.flatMap_cons, List.flatMap_nil, List.append_nil, valC]
    split
    · rename_i hnl
      rw [f3 hnl]; simp
    · unfold valueC
      rw [if_pos h1]
      show c.data.take (aheadI c.ends i).toNat ++ (c.data.drop (aheadI c.ends i).toNat).take (c.ends.getD i 0 - aheadI c.ends i).toNat = _
      rw [← List.take_add]
      congr 1
      omega
theorem running_col {c : Col} (hc : COK c) (h : checkC c = 0) (h1 : c.k = 15) : (CS.of 15 (valsC c c.n.toNat)).data = c.data ∧ (CS.of 15 (valsC c c.n.toNat)).ends = c.ends ∧ c.words = [] := by
  obtain ⟨f1, f2, f3, f4⟩ := running_facts2 hc h h1
  have hN : c.n.toNat = c.ends.length := by omega
  rw [hN]
  obtain ⟨g0, g1, g2⟩ := running_text hc h h1 c.ends.length (Nat.le_refl _)
  refine ⟨?_, ?_, f2⟩
  · rw [(running_data _).1, g2, f3]; simp
  · obtain ⟨e1, e2⟩ := running_ends (valsC c c.ends.length)
    rw [valsC_len2] at e1 e2
    refine List.ext_getElem e1 fun i hi hi2 => ?_
    have e3 := e2 i hi2
    rw [valsC_take _ _ _ (by omega)] at e3
    obtain ⟨g3, g4, g5⟩ := running_text hc h h1 (i + 1) (by omega)
    rw [g5, List.length_take, Nat.min_eq_left g4, ahead_succ] at e3
    rw [List.getD_eq_getElem?_getD, List.getElem?_eq_getElem hi] at e3
    rw [ahead_succ] at g3
    rw [show (some (CS.of 15 (valsC c c.ends.length)).ends[i]).getD 0 = (CS.of 15 (valsC c c.ends.length)).ends[i] from rfl] at e3
    rw [e3, List.getD_eq_getElem?_getD, List.getElem?_eq_getElem hi2] at *
    simp only [Option.getD_some] at *
    omega
theorem nodup_take {ws : List (List Int)} (h : ws.Nodup) (i : Nat) (hi : i < ws.length) : (ws.take i).contains ws[i] = false := by
  rw [List.contains_eq_mem, decide_eq_false_iff_not]
  intro hm
  obtain ⟨j, hj, e⟩ := List.mem_iff_getElem.1 hm
  rw [List.length_take] at hj
  rw [List.getElem_take] at e
  exact (List.pairwise_iff_getElem.1 h) j i (by omega) hi (by omega) e
theorem coded_step {c : Col} (h : checkC c = 0) (h2 : c.k = 16) (i : Nat) (hi : i < c.n.toNat) : ∃ m next, codedRun c i = some m ∧ codedRun c (i + 1) = some next ∧
    (if (valC c i).null then 0 else codeOf (c.words.take m) (valC c i).text) = wordAt c.data (i * 4) 4 ∧ (if (valC c i).null then c.words.take m else addWord (c.words.take m) (valC c i).text) = c.words.take next := by
  obtain ⟨_, hr⟩ := coded_facts h h2
  have hnd : c.words.Nodup := by
    obtain ⟨_, _, _, h4⟩ := check_zero h
    unfold mayB at h4
    rw [if_neg (by omega), if_pos h2] at h4
    unfold mayCoded at h4
    simp only [Bool.and_eq_true, beq_iff_eq, decide_eq_true_eq] at h4
    exact h4.1.2
  obtain ⟨next, hx⟩ := codedRun_pre c.n.toNat (i + 1) (by omega) hr
  have hle := codedRun_le c.n.toNat (i + 1) (by omega) hx hr
  obtain ⟨m, hm⟩ := codedRun_pre (i + 1) i (by omega) hx
  refine ⟨m, next, hm, hx, ?_⟩
  rw [codedRun, hm, Option.bind_some] at hx
  unfold codedStep at hx
  dsimp only at hx
  cases hnl : nullB c.bits i with
  | true =>
    have hv : valC c i = ⟨true, 0, []⟩ := by rw [valC, if_pos hnl]
    rw [hv]
    rw [hnl] at hx
    simp only [Bool.true_and, Bool.not_true, Bool.false_and, Bool.false_eq_true, if_false] at hx
    split at hx
    · cases hx
    · rename_i hz
      cases hx
      simp only [Bool.or_eq_true, not_or, bne_iff_ne, ne_eq, Decidable.not_not] at hz
      exact ⟨by simpa using hz.1.symm, by simp⟩
  | false =>
    have hcode := check_code h h2 (i := i) (by omega) hnl
    have hv : valC c i = ⟨false, 0, c.words.getD (wordAt c.data (i * 4) 4) []⟩ := by
      rw [valC, if_neg (by rw [hnl]; decide), valueC, if_neg (by omega), if_pos h2]
    have ht : c.words.getD (wordAt c.data (i * 4) 4) [] = c.words[wordAt c.data (i * 4) 4] := by
      rw [List.getD_eq_getElem?_getD, List.getElem?_eq_getElem hcode]; rfl
    rw [hv, ht]
    rw [hnl] at hx
    simp only [Bool.false_and, Bool.false_or, Bool.not_false, Bool.true_and, decide_eq_true_eq] at hx
    simp only [Bool.false_eq_true, if_false]
    have hnt := nodup_take hnd _ hcode
    split at hx
    · cases hx
    · rename_i hz
      split at hx
      · rename_i he
        have he := beq_iff_eq.1 he
        cases hx
        rw [← he]
        rw [codeOf_new hnt, addWord_new hnt]
        exact ⟨by rw [List.length_take]; omega, by rw [List.take_succ_eq_append_getElem hcode]⟩
      · rename_i he
        have he : wordAt c.data (i * 4) 4 ≠ m := fun e => he (beq_iff_eq.2 e)
        cases hx
        have hl : wordAt c.data (i * 4) 4 < (c.words.take next).length := by rw [List.length_take]; omega
        obtain ⟨q1, q2⟩ := code_at (ws := c.words.take next) (t := c.words[wordAt c.data (i * 4) 4]) hl (by rw [List.take_take, Nat.min_eq_left (by omega)]; exact hnt) (by rw [List.getElem_take])
        exact ⟨q2, addWord_old q1⟩
theorem coded_words {c : Col} (h : checkC c = 0) (h2 : c.k = 16) : ∀ i, i ≤ c.n.toNat → ∀ m, codedRun c i = some m → wordsOf [] (valsC c i) = c.words.take m
  | 0, _, m, hm => by cases hm; simp [valsC, wordsOf]
  | i + 1, hi, m, hm => by
    obtain ⟨a, b, e1, e2, e3, e4⟩ := coded_step h h2 i hi
    rw [hm] at e2; cases e2
    rw [valsC_snoc, words_app, coded_words h h2 i (by omega) a e1]
    simp only [wordsOf]
    exact e4
theorem coded_col {c : Col} (hc : COK c) (h : checkC c = 0) (h2 : c.k = 16) : (CS.of 16 (valsC c c.n.toNat)).data = c.data ∧ c.ends = [] ∧ (CS.of 16 (valsC c c.n.toNat)).words = c.words := by
  obtain ⟨hs, hr⟩ := coded_facts h h2
  unfold sizedB at hs
  simp only [Bool.and_eq_true, beq_iff_eq, List.isEmpty_iff] at hs
  obtain ⟨⟨hs1, hs2⟩, hs3⟩ := hs
  have hN : c.n.toNat * 4 = c.data.length := by omega
  rw [coded_of]
  refine ⟨?_, hs3, ?_⟩
  · show (codesOf [] (valsC c c.n.toNat)).flatMap (fun x => lows x 4) = c.data
    have e : codesOf [] (valsC c c.n.toNat) = (List.range c.n.toNat).map fun i => wordAt c.data (i * 4) 4 := by
      refine List.ext_getElem (by rw [codes_len, valsC_len2]; simp) fun i hi hj => ?_
      have hi2 : i < c.n.toNat := by simpa using hj
      have g := codes_get (valsC c c.n.toNat) [] i (by rw [valsC_len2]; exact hi2)
      rw [List.getElem?_eq_getElem hi] at g
      have g := Option.some.inj g
      rw [g]
      have hg : (valsC c c.n.toNat)[i]'(by rw [valsC_len2]; exact hi2) = valC c i := by simp [valsC]
      rw [hg, valsC_take _ _ _ (by omega)]
      obtain ⟨a, b, e1, e2, e3, e4⟩ := coded_step h h2 i hi2
      rw [coded_words h h2 i (by omega) a e1, e3]
      simp
    rw [e, List.flatMap_map]
    have := chop c.data 4 c.n.toNat
    rw [hN, List.take_length] at this
    refine Eq.trans (flatMap_congr_range fun i hi => ?_) this
    exact lows_word hc.data _ _ (by omega)
  · show wordsOf [] (valsC c c.n.toNat) = c.words
    rw [coded_words h h2 c.n.toNat (Nat.le_refl _) _ hr, List.take_length]
end Go.Proofs.YtmhjjhaipcgbiaaGreat


namespace Go.Proofs.YtmhjjhaipcgbiaaGreat
open Go.RowKit
set_option linter.unusedVariables false
set_option linter.unusedSimpArgs false
set_option maxRecDepth 100000
set_option maxHeartbeats 1000000
theorem of_checked {c : Col} (hc : COK c) (h : checkC c = 0) : c = colOf c.k c.s (valsC c c.n.toNat) := by
  obtain ⟨ho, hm, hn, hmay⟩ := check_zero h
  have hm0 := ((maskOK_iff hc.bits).1 hm).1
  have hnl : (CS.of c.k (valsC c c.n.toNat)).nulls = bitsOf c.bits c.n.toNat := by rw [nulls_of, valsC_nulls]
  have hlen : ((CS.of c.k (valsC c c.n.toNat)).nulls.length : Int) = c.n := by rw [hnl, bitsOf_len]; omega
  have hbits : c.bits = mof (CS.of c.k (valsC c c.n.toNat)).nulls := by rw [hnl, ← hn]; exact mof_inv hc.bits hm
  have hrest : (CS.of c.k (valsC c c.n.toNat)).data = c.data ∧ (CS.of c.k (valsC c c.n.toNat)).ends = c.ends ∧ (CS.of c.k (valsC c c.n.toNat)).words = c.words := by
    by_cases h1 : c.k = 15
    · obtain ⟨a1, a2, a3⟩ := running_col hc h h1
      rw [h1]
      exact ⟨a1, a2, by rw [(running_data _).2, a3]⟩
    · by_cases h2 : c.k = 16
      · obtain ⟨a1, a2, a3⟩ := coded_col hc h h2
        rw [h2]
        exact ⟨a1, by rw [coded_of, a2], a3⟩
      · obtain ⟨a1, a2, a3⟩ := fixed_data hc h h1 h2
        obtain ⟨W, hW, hW1, hW8⟩ := width_pos ho h1
        obtain ⟨d1, d2, d3⟩ := fixed_len h1 h2 hW (valsC c c.n.toNat)
        exact ⟨a1, by rw [d2, a2], by rw [d3, a3]⟩
  obtain ⟨r1, r2, r3⟩ := hrest
  show (⟨c.k, c.s, c.n, c.m, c.bits, c.data, c.ends, c.words⟩ : Col) = ⟨c.k, c.s, _, _, _, _, _, _⟩
  rw [Col.mk.injEq]
  exact ⟨rfl, rfl, hlen.symm, by rw [hlen, hn], hbits, r1.symm, r2.symm, r3.symm⟩
theorem zero64 : (0 : Nat) < 18446744073709551616 := by decide
theorem getD_bytes {ws : List (List Int)} (h : ∀ t ∈ ws, IsBytes t ∧ t.length ≤ 100000000) (i : Nat) : IsBytes (ws.getD i []) := by
  rw [List.getD_eq_getElem?_getD]
  cases e : ws[i]? with
  | none => intro x hx; cases hx
  | some t => exact (h t (List.mem_of_getElem? e)).1
theorem piece_bytes {data : List Int} (h : IsBytes data) (a b : Nat) : IsBytes ((data.drop a).take b) := fun x hx => h x (List.mem_of_mem_drop (List.mem_of_mem_take hx))
theorem word_64 {data : List Int} (h : IsBytes data) (o : Nat) {k s : Int} (ho : okType k s = true) (h1 : k ≠ 15) : wordAt data o (widthOf k).toNat < 18446744073709551616 := by
  obtain ⟨W, hW, hW1, hW8⟩ := width_pos ho h1
  have hWn : (widthOf k).toNat = W := by rw [hW]; rfl
  rw [hWn]
  refine Nat.lt_of_lt_of_le (wordAt_lt h o W) ?_
  exact Nat.le_trans (Nat.pow_le_pow_right (by decide) hW8) (by decide)
theorem vals_ok {c : Col} (hc : COK c) (h : checkC c = 0) : ∀ v ∈ valsC c c.n.toNat, vOK c.k c.s v := by
  obtain ⟨ho, hm, hn, hmay⟩ := check_zero h
  intro v hv
  obtain ⟨i, hi, rfl⟩ := List.mem_map.1 hv
  have hi := List.mem_range.1 hi
  cases hnl : nullB c.bits i with
  | true =>
    rw [valC, if_pos hnl]
    exact ⟨fun x hx => (by cases hx), zero64, fun _ => ⟨rfl, rfl⟩, fun e => (by cases e)⟩
  | false =>
    rw [valC, if_neg (by rw [hnl]; decide), valueC]
    by_cases h1 : c.k = 15
    · rw [if_pos h1]
      exact ⟨piece_bytes hc.data _ _, zero64, fun e => (by cases e), fun _ => by simp [wordedB, h1]⟩
    rw [if_neg h1]
    by_cases h2 : c.k = 16
    · rw [if_pos h2]
      exact ⟨getD_bytes hc.words _, zero64, fun e => (by cases e), fun _ => by simp [wordedB, h2]⟩
    rw [if_neg h2]
    refine ⟨fun x hx => (by cases hx), word_64 hc.data _ ho h1, fun e => (by cases e), fun _ => ?_⟩
    have hw : wordedB c.k = false := by simp [wordedB, h1, h2]
    rw [hw, if_neg (by decide)]
    refine ⟨?_, rfl⟩
    unfold mayB at hmay
    rw [if_neg h1, if_neg h2] at hmay
    unfold mayFixed at hmay
    simp only [Bool.and_eq_true, List.all_eq_true] at hmay
    have := hmay.2 i (List.mem_range.2 hi)
    rwa [if_neg (by rw [hnl]; decide)] at this
theorem step_ok {c : Col} (hc : COK c) (ho : okType c.k c.s = true) {i p : Nat} {v : V} {q : Nat} (h : rdStep c i p = some (v, q)) : vOK c.k c.s (nrm v) := by
  have hnull : ∀ b t, vOK c.k c.s (nrm ⟨true, b, t⟩) := fun b t => ⟨fun x hx => (by cases hx), zero64, fun _ => ⟨rfl, rfl⟩, fun e => (by cases e)⟩
  unfold rdStep at h
  by_cases h1 : c.k = 15
  · rw [if_pos h1] at h
    split at h
    · cases h
      cases hnl : nullB c.bits i with
      | true => exact hnull _ _
      | false => exact ⟨piece_bytes hc.data _ _, zero64, fun e => (by cases e), fun _ => by simp [wordedB, h1, nrm]⟩
    · cases h
  rw [if_neg h1] at h
  split at h
  · split at h
    · cases h; exact hnull _ _
    · split at h
      · rename_i h2
        split at h
        · cases h
          exact ⟨getD_bytes hc.words _, zero64, fun e => (by cases e), fun _ => by simp [wordedB, h2, nrm]⟩
        · cases h
      · rename_i h2
        split at h
        · rename_i hf
          cases h
          have hw : wordedB c.k = false := by simp [wordedB, h1, h2]
          refine ⟨fun x hx => (by cases hx), word_64 hc.data _ ho h1, fun e => (by cases e), fun _ => ?_⟩
          rw [hw, if_neg (by decide)]
          exact ⟨hf, rfl⟩
        · cases h
  · cases h
theorem run_ok {c : Col} (hc : COK c) (ho : okType c.k c.s = true) : ∀ {i : Nat} {l : List V} {p : Nat}, rdRun c i = some (l, p) → ∀ v ∈ l.map nrm, vOK c.k c.s v
  | 0, l, p, h => by simp [rdRun] at h; rw [h.1]; intro v hv; cases hv
  | i + 1, l, p, h => by
    rw [rdRun] at h
    obtain ⟨x, h1, h2⟩ := Option.bind_eq_some_iff.1 h
    obtain ⟨y, h3, h4⟩ := Option.map_eq_some_iff.1 h2
    cases h4
    rw [List.map_append]
    intro v hv
    rcases List.mem_append.1 hv with hv | hv
    · exact run_ok hc ho (l := x.1) (p := x.2) h1 v hv
    · obtain rfl : v = nrm y.1 := by simpa using hv
      exact step_ok hc ho (v := y.1) (q := y.2) h3
theorem of_read {c : Col} (hc : COK c) {l : List V} (h : readC c = some l) : okType c.k c.s = true ∧ c = colOf c.k c.s (l.map nrm) ∧ (∀ v ∈ l.map nrm, vOK c.k c.s v) ∧ l.length = c.n.toNat := by
  unfold readC at h
  split at h
  · rename_i hg
    unfold readRows at h
    obtain ⟨x, h1, h2⟩ := Option.bind_eq_some_iff.1 h
    split at h2
    · rename_i he
      cases h2
      refine ⟨hg.1, ?_, run_ok hc hg.1 (p := x.2) h1, rdRun_len (p := x.2) h1⟩
      unfold equalC at he
      have he := of_decide_eq_true he
      obtain ⟨e1, e2, e3, e4, e5, e6, e7, e8⟩ := he
      show (⟨c.k, c.s, c.n, c.m, c.bits, c.data, c.ends, c.words⟩ : Col) = ⟨(colOf c.k c.s (x.1.map nrm)).k, (colOf c.k c.s (x.1.map nrm)).s, _, _, _, _, _, _⟩
      rw [Col.mk.injEq]
      exact ⟨rfl, rfl, e3.symm, e4.symm, e5.symm, e6.symm, e7.symm, e8.symm⟩
    · cases h2
  · cases h
theorem read_checked {c : Col} (hc : COK c) (hm : c.m = c.n → c.n ≤ 100000000) (h : checkC c = 0) : readC c = some (valsC c c.n.toNat) := by
  have e := of_checked hc h
  have := read_built (check_zero h).1 (valsC c c.n.toNat) (vals_ok hc h) (by have := hm (check_zero h).2.2.1; rw [valsC_len2]; omega)
  rwa [← e] at this
theorem check_read {c : Col} (hc : COK c) (hm : c.m = c.n → c.n ≤ 100000000) {l : List V} (h : readC c = some l) : checkC c = 0 ∧ l = valsC c c.n.toNat := by
  obtain ⟨ho, e, hv, hl⟩ := of_read hc h
  have hm' : c.n ≤ 100000000 := hm (by unfold readC at h; split at h; · rename_i hg; exact hg.2.2
                                       · cases h)
  have hz : checkC c = 0 := by
    have := built_ok ho (l.map nrm) hv (by rw [List.length_map]; omega)
    rw [show (CS.of c.k (l.map nrm)).col c.k c.s = c from e.symm] at this
    exact this
  refine ⟨hz, ?_⟩
  have := read_checked hc hm hz
  rw [h] at this
  exact Option.some.inj this
theorem readE_check {c : Col} (hc : COK c) (hm : c.m = c.n → c.n ≤ 100000000) : readE c = checkC c := by
  unfold readE
  cases ho : okType c.k c.s with
  | false => rw [if_pos rfl]; exact checkC_type ho
  | true =>
    rw [if_neg (by decide)]
    by_cases hz : checkC c = 0
    · rw [read_checked hc hm hz, hz]; rfl
    · cases hr : readC c with
      | some l => exact absurd (check_read hc hm hr).1 hz
      | none =>
        unfold checkC at hz ⊢
        rw [if_neg (by simp [ho])] at hz ⊢
        split at hz
        · exact absurd rfl hz
        · rename_i hf; rw [if_neg hf, if_neg (by simp [ho])]
end Go.Proofs.YtmhjjhaipcgbiaaGreat


namespace Go.Proofs.YtmhjjhaipcgbiaaGreat
open Go.RowKit
set_option linter.unusedVariables false
set_option linter.unusedSimpArgs false
set_option maxRecDepth 100000
set_option maxHeartbeats 4000000
def getE (c : Col) (i : Int) : Int := if checkC c ≠ 0 then checkC c else if i < 0 ∨ c.n ≤ i then 173 else 0
def getV (c : Col) (i : Int) : V := if getE c i = 0 then valC c i.toNat else ⟨false, 0, []⟩
def RGetP (c : Col) (i : Int) (B D E X : SL) (vals : List Value) (w : World) (e : Ending) (w' : World) : Prop :=
  Below w.heap.size w w' ∧ ∃ ta tc, e = .returned (.tuple #[.agg #[.bool (getV c i).null, .int .u64 ((getV c i).bits : Int), .slice ta (getV c i).text.length tc], .int .i64 (getE c i)]) ∧
    ∀ W, RdC W c B D E X vals → Rd W 1 (.slice ta (getV c i).text.length tc) (getV c i).text.length ((getV c i).text.map (.int .u8))
theorem kept3 (w : World) (b : Nat) (x y z : Value) : Kept (fun k => k = b) w (((w.setCell ⟨b, 0, none⟩ x).setCell ⟨b, 1, none⟩ y).setCell ⟨b, 2, none⟩ z) :=
  Kept.trans (Kept.trans (Kept.trans (Kept.refl _ w) (Kept.setCell _ _ _) (fun b e _ => e)) (Kept.setCell _ _ _) (fun b e _ => e)) (Kept.setCell _ _ _) (fun b e _ => e)
theorem set3_below {w w3 : World} (h : Below w.heap.size w w3) {b : Nat} (hb : w.heap.size ≤ b) (x y z : Value) : Below w.heap.size w (((w3.setCell ⟨b, 0, none⟩ x).setCell ⟨b, 1, none⟩ y).setCell ⟨b, 2, none⟩ z) :=
  h.trans ((kept3 w3 b x y z).to_below h.size (fun k e => by omega))
theorem rget_any (c : Col) (hc : COK c) (hs : Small18 c) (B D E X : SL) (vals : List Value) (i : Int) (w : World) (h : RdC w c B D E X vals) : Calls Tryz.prog 108 #[colV c B D E X, .int .i64 i] w (RGetP c i B D E X vals w) := by
  have HRD := Aside.mk (fun W (hb : Below w.heap.size w W) => read18_any c hc hs B D E X vals W (h.below hb))
  clear h
  dsimp only [colV] at HRD ⊢
  go_enter Tryz.func108, Tryz.ntmps108
  go_upto_region 1 with fail
  have hg : ∀ W', ((w.alloc (colB c B D E X)).alloc (.cells #[.bool false, .int .u64 0, .slice none 0 0] 50 (0, 0))) = W' → Below w.heap.size w W' ∧ W'.heap.size = w.heap.size + 2 ∧ W'.heap[w.heap.size]? = some (colB c B D E X) ∧ W'.heap[w.heap.size + 1]? = some (.cells #[.bool false, .int .u64 0, .slice none 0 0] 50 (0, 0)) := fun W' e => by rw [← e]; exact below_two w _ _
  generalize ((w.alloc (.cells #[.int .i64 c.k, .int .i64 c.s, .int .i64 c.n, .int .i64 c.m, .slice B.a c.bits.length B.c, .slice D.a c.data.length D.c, .slice E.a c.ends.length E.c, .slice X.a c.words.length X.c] 63)).alloc (.cells #[.bool false, .int .u64 0, .slice none 0 0] 50)) = w2 at *
  obtain ⟨t1, t2, t3, t4⟩ := hg w2 rfl
  have B2 := Aside.mk t1
  have HZ := Aside.mk t4
  have HS2 := Aside.mk t2
  obtain ⟨c0, c1, c2, c3, c4, c5, c6, c7⟩ := box8 t3
  clear hg t1 t2 t3 t4
  go_wp2_with fail
  refine (HRD.out _ B2.out).mono ?_
  rintro e w3 ⟨hb3, hread⟩
  have B3 := Aside.mk (below_chain B2.out hb3)
  replace HZ := Aside.mk ((hb3.block _ (lt_of_blk HZ.out)).trans HZ.out)
  clear hb3 c0 c1 c2 c3 c4 c5 c6 c7 HRD
  have z0 : w3.cell? ⟨w.heap.size + 1, 0, none⟩ = some (.bool false) := by rw [cell_blk HZ.out]; rfl
  have z1 : w3.cell? ⟨w.heap.size + 1, 1, none⟩ = some (.int .u64 0) := by rw [cell_blk HZ.out]; rfl
  have z2 : w3.cell? ⟨w.heap.size + 1, 2, none⟩ = some (.slice none 0 0) := by rw [cell_blk HZ.out]; rfl
  have f0 := frozen_blk (k := 0) HZ.out
  have f1 := frozen_blk (k := 1) HZ.out
  have f2 := frozen_blk (k := 2) HZ.out
  cases hrc : readC c with
  | none =>
    rw [hrc] at hread
    replace hread : e = Ending.returned (.tuple #[.slice none 0 0, .int .i64 (readE c)]) := hread
    subst hread
    have hre := readE_check hc (fun e => by have := hs.1 e; omega)
    have hne : readE c ≠ 0 := by unfold readE; rw [hrc]; split <;> decide
    have ege : getE c i = readE c := by unfold getE; rw [if_pos (by rw [← hre]; exact hne), hre]
    have egv : getV c i = ⟨false, 0, []⟩ := by unfold getV; rw [if_neg (by rw [ege]; exact hne)]
    have HF : Aside (∀ w', Below w.heap.size w w' → RGetP c i B D E X vals w (.returned (.tuple #[.agg #[.bool false, .int .u64 0, .slice none 0 0], .int .i64 (readE c)])) w') := ⟨fun w' hb => ⟨hb, none, 0, by rw [egv, ege]; rfl, fun W _ => by rw [egv]; exact Rd.nil _ _⟩⟩
    generalize readE c = x at *
    clear ege egv hre hrc
    go_wp2_with fail
    refine bodyPost_ret (v := .tuple #[.agg #[.bool false, .int .u64 0, .slice none 0 0], .int .i64 x]) (by simp [results, Tryz.results108, go_sem, z0, z1, z2]) rfl ?_
    exact HF.out _ (set3_below B3.out (by omega) _ _ _)
  | some l =>
    rw [hrc] at hread
    obtain ⟨A, xs, rfl, hrdo⟩ := hread
    obtain ⟨hz, hl⟩ := check_read hc (fun e => by have := hs.1 e; omega) hrc
    have hn0 : 0 ≤ c.n := by obtain ⟨_, hm, hn, _⟩ := check_zero hz; have := ((maskOK_iff hc.bits).1 hm).1; omega
    have hll : (l.length : Int) = c.n := by rw [hl, valsC_len2]; omega
    have HF : Aside (∀ w', Below w.heap.size w w' → (i < 0 ∨ c.n ≤ i) → RGetP c i B D E X vals w (.returned (.tuple #[.agg #[.bool false, .int .u64 0, .slice none 0 0], .int .i64 173])) w') := ⟨fun w' hb hi => by
      have ege : getE c i = 173 := by unfold getE; rw [if_neg (by rw [hz]; decide), if_pos hi]
      have egv : getV c i = ⟨false, 0, []⟩ := by unfold getV; rw [if_neg (by rw [ege]; decide)]
      exact ⟨hb, none, 0, by rw [egv, ege]; rfl, fun W _ => by rw [egv]; exact Rd.nil _ _⟩⟩
    by_cases hi0 : i < 0
    · have HI := Aside.mk (fun w' hb => HF.out w' hb (.inl hi0))
      generalize l.length = nl at *
      clear hrc hz hn0 hll hl hrdo HF
      go_wp2_with fail
      refine bodyPost_ret (v := .tuple #[.agg #[.bool false, .int .u64 0, .slice none 0 0], .int .i64 173]) (by simp [results, Tryz.results108, go_sem, z0, z1, z2]) rfl ?_
      exact HI.out _ (set3_below B3.out (by omega) _ _ _)
    by_cases hi1 : c.n ≤ i
    · have HI := Aside.mk (fun w' hb => HF.out w' hb (.inr hi1))
      rw [← hll] at hi1
      generalize l.length = nl at *
      clear hrc hz hn0 hll hl hrdo HF
      go_wp2_with fail
      refine bodyPost_ret (v := .tuple #[.agg #[.bool false, .int .u64 0, .slice none 0 0], .int .i64 173]) (by simp [results, Tryz.results108, go_sem, z0, z1, z2]) rfl ?_
      exact HI.out _ (set3_below B3.out (by omega) _ _ _)
    · obtain ⟨j, rfl⟩ := Int.eq_ofNat_of_zero_le (show 0 ≤ i by omega)
      have hj : j < l.length := by omega
      obtain ⟨ta, tc, q0, q1, q2, q3⟩ := hrdo.each j l[j] (List.getElem?_eq_getElem hj)
      obtain ⟨g, off, cap, ea, m1, m2, m3, m4, hcell, m5⟩ := hrdo.row.some_ (by omega)
      simp only [Value.slice.injEq, true_and] at ea
      have e0 := hcell (j * 3) _ q0
      have e1 := hcell (j * 3 + 1) _ q1
      have e2 := hcell (j * 3 + 2) _ q2
      have ege : getE c (j : Int) = 0 := by unfold getE; rw [if_neg (by rw [hz]; decide), if_neg (by omega)]
      have egv : getV c (j : Int) = l[j] := by
        unfold getV
        rw [if_pos ege, Int.toNat_natCast]
        have : l[j]? = some (valC c j) := by rw [hl]; exact valsC_get _ _ _ (by omega)
        rw [List.getElem?_eq_getElem hj] at this
        exact (Option.some.inj this).symm
      have HG : Aside (∀ w', Below w.heap.size w w' → RGetP c (j : Int) B D E X vals w (.returned (.tuple #[.agg #[.bool l[j].null, .int .u64 (l[j].bits : Int), .slice ta l[j].text.length tc], .int .i64 0])) w') := ⟨fun w' hb => ⟨hb, ta, tc, by rw [egv, ege], fun W hW => by rw [egv]; exact q3 W hW⟩⟩
      rw [ea.1]
      have hbits := l[j].bits
      generalize l[j].null = x0 at *
      generalize l[j].bits = x1 at *
      generalize l[j].text.length = x2 at *
      rw [← Nat.add_assoc] at e1 e2
      have hmx := m4
      rw [ea.2]
      have hgne : g ≠ w.heap.size + 1 := by have := HS2.out; omega
      have hjn := hj
      clear hrc hz hn0 hl hrdo HF ege egv q0 q1 q2 q3 hcell hi1
      generalize l.length = nl at hj m3 hjn hll ⊢
      go_wp2_with fail
      refine bodyPost_ret (v := .tuple #[.agg #[.bool x0, .int .u64 (x1 : Int), .slice ta x2 tc], .int .i64 0]) (by simp [results, Tryz.results108, go_sem, z0, z1, z2]) rfl ?_
      exact HG.out _ (set3_below B3.out (by omega) _ _ _)
end Go.Proofs.YtmhjjhaipcgbiaaGreat


namespace Go.Proofs.YtmhjjhaipcgbiaaGreat
open Go.RowKit
set_option linter.unusedVariables false
set_option linter.unusedSimpArgs false
set_option maxRecDepth 100000
set_option maxHeartbeats 4000000
def zeroC : Col := ⟨0, 0, 0, 0, [], [], [], []⟩
def cutE (c : Col) (f t : Int) : Int := if checkC c ≠ 0 then checkC c else if f < 0 ∨ t < f ∨ c.n < t then 173 else 0
def cutC (c : Col) (f t : Int) : Col := if cutE c f t = 0 then colOf c.k c.s ((valsC c t.toNat).drop f.toNat) else zeroC
def ColRP (c : Col) (x : Int) (w : World) (e : Ending) (w' : World) : Prop := ∃ B D E W vals, e = .returned (.tuple #[colV c B D E W, .int .i64 x]) ∧ OwnC w' w.heap.size c B D E W vals ∧ Below w.heap.size w w'
theorem ownC_zero (w : World) (base : Nat) : OwnC w base zeroC ⟨none, 0⟩ ⟨none, 0⟩ ⟨none, 0⟩ ⟨none, 0⟩ [] :=
  ⟨Own.nil _ _ _ _, Own.nil _ _ _ _, Own.nil _ _ _ _, Own.nil _ _ _ _, rfl, fun j t hj => absurd hj (Nat.not_lt_zero _), ⟨fun b e => (by cases e), fun v hv => (by cases hv), fun j j' v v' h1 h2 => absurd h2 (Nat.not_lt_zero _)⟩⟩
theorem set8_below {w w3 : World} (h : Below w.heap.size w w3) {b : Nat} (hb : w.heap.size ≤ b) (y0 y1 y2 y3 y4 y5 y6 y7 : Value) : Below w.heap.size w ((((((((w3.setCell ⟨b, 0, none⟩ y0).setCell ⟨b, 1, none⟩ y1).setCell ⟨b, 2, none⟩ y2).setCell ⟨b, 3, none⟩ y3).setCell ⟨b, 4, none⟩ y4).setCell ⟨b, 5, none⟩ y5).setCell ⟨b, 6, none⟩ y6).setCell ⟨b, 7, none⟩ y7) :=
  h.trans ((kept8 w3 b y0 y1 y2 y3 y4 y5 y6 y7).to_below h.size (fun k e => by omega))
theorem zero_ret {w W : World} {x : Int} (hb : Below w.heap.size w W) : ColRP zeroC x w (.returned (.tuple #[.agg #[.int .i64 0, .int .i64 0, .int .i64 0, .int .i64 0, .slice none 0 0, .slice none 0 0, .slice none 0 0, .slice none 0 0], .int .i64 x])) W :=
  ⟨⟨none, 0⟩, ⟨none, 0⟩, ⟨none, 0⟩, ⟨none, 0⟩, [], rfl, ownC_zero _ _, hb⟩
theorem valC_small {c : Col} (hs : Small18 c) (i : Nat) : (valC c i).text.length ≤ 4900 := by
  unfold valC valueC
  obtain ⟨_, h1, h2⟩ := hs
  split
  · exact Nat.zero_le _
  split
  · show ((c.data.drop _).take _).length ≤ 4900
    rw [List.length_take, List.length_drop]; omega
  split
  · show (c.words.getD _ []).length ≤ 4900
    rw [List.getD_eq_getElem?_getD]
    cases e : c.words[wordAt c.data (i * 4) 4]? with
    | none => exact Nat.zero_le _
    | some t => exact h2 t (List.mem_of_getElem? e)
  · exact Nat.zero_le _
theorem vals_few {c : Col} (hs : Small18 c) (n : Nat) (hn : n ≤ 20000) : Few (valsC c n) := ⟨by rw [valsC_len2]; exact hn, fun v hv => by obtain ⟨i, _, rfl⟩ := List.mem_map.1 hv; exact valC_small hs i⟩
theorem RdO.piece {Q : World → Prop} {w : World} {base : Nat} {A : SL} {l : List V} {xs : List Value} (h : RdO Q w base A l xs) (hq : Q w) {f t : Nat} (hft : f ≤ t) (ht : t ≤ l.length) : RdVs w ⟨cutA A.a A.c f 3, A.c - f⟩ ((l.take t).drop f) := by
  have hl : ((l.take t).drop f).length = t - f := by rw [List.length_drop, List.length_take]; omega
  refine ⟨(xs.drop (f * 3)).take ((t - f) * 3), by rw [hl]; exact h.row.rd.mid hft ht, fun i v hi => ?_⟩
  have hi2 := (List.getElem?_eq_some_iff.1 hi).1
  rw [hl] at hi2
  rw [List.getElem?_drop, List.getElem?_take, if_pos (by omega)] at hi
  obtain ⟨ta, tc, q0, q1, q2, q3⟩ := h.each (f + i) v hi
  have e : ∀ k, k < 3 → ((xs.drop (f * 3)).take ((t - f) * 3))[i * 3 + k]? = xs[(f + i) * 3 + k]? := fun k hk => by
    rw [List.getElem?_take, if_pos (by omega), List.getElem?_drop]
    congr 1; omega
  refine ⟨ta, tc, ?_, ?_, ?_, q3 w hq⟩
  · have := e 0 (by decide); rw [Nat.add_zero, Nat.add_zero] at this; rw [this]; exact q0
  · rw [e 1 (by decide)]; exact q1
  · rw [e 2 (by decide)]; exact q2
theorem rcut_any (c : Col) (hc : COK c) (hs : Small18 c) (B D E X : SL) (vals : List Value) (f t : Int) (w : World) (h : RdC w c B D E X vals) : Calls Tryz.prog 110 #[colV c B D E X, .int .i64 f, .int .i64 t] w (ColRP (cutC c f t) (cutE c f t) w) := by
  have HRD := Aside.mk (fun W (hb : Below w.heap.size w W) => read18_any c hc hs B D E X vals W (h.below hb))
  have HR := Aside.mk h
  clear h
  dsimp only [colV] at HRD ⊢
  go_enter Tryz.func110, Tryz.ntmps110
  go_upto_region 1 with fail
  have hg : ∀ W', ((w.alloc (colB c B D E X)).alloc (.cells #[.int .i64 0, .int .i64 0, .int .i64 0, .int .i64 0, .slice none 0 0, .slice none 0 0, .slice none 0 0, .slice none 0 0] 63 (0, 0))) = W' → Below w.heap.size w W' ∧ W'.heap.size = w.heap.size + 2 ∧ W'.heap[w.heap.size]? = some (colB c B D E X) ∧ W'.heap[w.heap.size + 1]? = some (.cells #[.int .i64 0, .int .i64 0, .int .i64 0, .int .i64 0, .slice none 0 0, .slice none 0 0, .slice none 0 0, .slice none 0 0] 63 (0, 0)) := fun W' e => by rw [← e]; exact below_two w _ _
  generalize ((w.alloc (.cells #[.int .i64 c.k, .int .i64 c.s, .int .i64 c.n, .int .i64 c.m, .slice B.a c.bits.length B.c, .slice D.a c.data.length D.c, .slice E.a c.ends.length E.c, .slice X.a c.words.length X.c] 63)).alloc (.cells #[.int .i64 0, .int .i64 0, .int .i64 0, .int .i64 0, .slice none 0 0, .slice none 0 0, .slice none 0 0, .slice none 0 0] 63)) = w2 at *
  obtain ⟨t1, t2, t3, t4⟩ := hg w2 rfl
  have B2 := Aside.mk t1
  have HX := Aside.mk t3
  have HZ := Aside.mk t4
  have HS2 := Aside.mk t2
  obtain ⟨c0, c1, c2, c3, c4, c5, c6, c7⟩ := box8 t3
  clear hg t1 t2 t3 t4
  go_wp2_with fail
  refine (HRD.out _ B2.out).mono ?_
  rintro e w3 ⟨hb3, hread⟩
  have B3 := Aside.mk (below_chain B2.out hb3)
  have HB3 := Aside.mk hb3
  replace HX := Aside.mk ((hb3.block _ (lt_of_blk HX.out)).trans HX.out)
  replace HZ := Aside.mk ((hb3.block _ (lt_of_blk HZ.out)).trans HZ.out)
  clear hb3 c0 c1 c2 c3 c4 c5 c6 c7 HRD
  cases hrc : readC c with
  | none =>
    obtain ⟨z0, z1, z2, z3, z4, z5, z6, z7⟩ := box8 HZ.out
    have f0 := frozen_blk (k := 0) HZ.out
    have f1 := frozen_blk (k := 1) HZ.out
    have f2 := frozen_blk (k := 2) HZ.out
    have f3 := frozen_blk (k := 3) HZ.out
    have f4 := frozen_blk (k := 4) HZ.out
    have f5 := frozen_blk (k := 5) HZ.out
    have f6 := frozen_blk (k := 6) HZ.out
    have f7 := frozen_blk (k := 7) HZ.out
    rw [hrc] at hread
    replace hread : e = Ending.returned (.tuple #[.slice none 0 0, .int .i64 (readE c)]) := hread
    subst hread
    have hre := readE_check hc (fun e => by have := hs.1 e; omega)
    have hne : readE c ≠ 0 := by unfold readE; rw [hrc]; split <;> decide
    have ege : cutE c f t = readE c := by unfold cutE; rw [if_pos (by rw [← hre]; exact hne), hre]
    have egv : cutC c f t = zeroC := by unfold cutC; rw [if_neg (by rw [ege]; exact hne)]
    have HF : Aside (∀ W, Below w.heap.size w W → ColRP (cutC c f t) (cutE c f t) w (.returned (.tuple #[.agg #[.int .i64 0, .int .i64 0, .int .i64 0, .int .i64 0, .slice none 0 0, .slice none 0 0, .slice none 0 0, .slice none 0 0], .int .i64 (readE c)])) W) := ⟨fun W hb => by rw [ege, egv]; exact zero_ret hb⟩
    generalize readE c = x at *
    clear ege egv hre hrc
    go_wp2_with fail
    refine bodyPost_ret (v := .tuple #[.agg #[.int .i64 0, .int .i64 0, .int .i64 0, .int .i64 0, .slice none 0 0, .slice none 0 0, .slice none 0 0, .slice none 0 0], .int .i64 x]) (by simp [results, Tryz.results110, go_sem, z0, z1, z2, z3, z4, z5, z6, z7]) rfl ?_
    exact HF.out _ (set8_below B3.out (Nat.le_succ _) _ _ _ _ _ _ _ _)
  | some l =>
    rw [hrc] at hread
    obtain ⟨A, xs, rfl, hrdo⟩ := hread
    obtain ⟨hz, hl⟩ := check_read hc (fun e => by have := hs.1 e; omega) hrc
    have hn0 : 0 ≤ c.n := by obtain ⟨_, hm, hn, _⟩ := check_zero hz; have := ((maskOK_iff hc.bits).1 hm).1; omega
    have hll : (l.length : Int) = c.n := by rw [hl, valsC_len2]; omega
    by_cases hbad : f < 0 ∨ t < f ∨ c.n < t
    · have ege : cutE c f t = 173 := by unfold cutE; rw [if_neg (by rw [hz]; decide), if_pos hbad]
      have egv : cutC c f t = zeroC := by unfold cutC; rw [if_neg (by rw [ege]; decide)]
      have HF : Aside (∀ W, Below w.heap.size w W → ColRP (cutC c f t) (cutE c f t) w (.returned (.tuple #[.agg #[.int .i64 0, .int .i64 0, .int .i64 0, .int .i64 0, .slice none 0 0, .slice none 0 0, .slice none 0 0, .slice none 0 0], .int .i64 173])) W) := ⟨fun W hb => by rw [ege, egv]; exact zero_ret hb⟩
      rw [← hll] at hbad
      generalize l.length = nl at *
      clear hrc hz hn0 hll hl hrdo ege egv
      obtain ⟨z0, z1, z2, z3, z4, z5, z6, z7⟩ := box8 HZ.out
      have f0 := frozen_blk (k := 0) HZ.out
      have f1 := frozen_blk (k := 1) HZ.out
      have f2 := frozen_blk (k := 2) HZ.out
      have f3 := frozen_blk (k := 3) HZ.out
      have f4 := frozen_blk (k := 4) HZ.out
      have f5 := frozen_blk (k := 5) HZ.out
      have f6 := frozen_blk (k := 6) HZ.out
      have f7 := frozen_blk (k := 7) HZ.out
      have HBAD := Aside.mk hbad
      clear hbad
      go_wp2_with fail
      all_goals first
        | (exfalso; have := HBAD.out; omega)
        | (refine bodyPost_ret (v := .tuple #[.agg #[.int .i64 0, .int .i64 0, .int .i64 0, .int .i64 0, .slice none 0 0, .slice none 0 0, .slice none 0 0, .slice none 0 0], .int .i64 173]) (by simp [results, Tryz.results110, go_sem, z0, z1, z2, z3, z4, z5, z6, z7]) rfl ?_
           exact HF.out _ (set8_below B3.out (Nat.le_succ _) _ _ _ _ _ _ _ _))
    · obtain ⟨f', rfl⟩ := Int.eq_ofNat_of_zero_le (show 0 ≤ f by omega)
      obtain ⟨t', rfl⟩ := Int.eq_ofNat_of_zero_le (show 0 ≤ t by omega)
      have hft : f' ≤ t' := by omega
      have htl : t' ≤ l.length := by omega
      have ege : cutE c f' t' = 0 := by unfold cutE; rw [if_neg (by rw [hz]; decide), if_neg hbad]
      have egv : cutC c f' t' = colOf c.k c.s ((l.take t').drop f') := by
        unfold cutC
        rw [if_pos ege, Int.toNat_natCast, Int.toNat_natCast, hl, valsC_take _ _ _ (by omega)]
      have HF : Aside (∀ e W, ColRP (colOf c.k c.s ((l.take t').drop f')) 0 w e W → ColRP (cutC c f' t') (cutE c f' t') w e W) := ⟨fun e W h => by rw [ege, egv]; exact h⟩
      have hsl := fun W => run_slice_mid (P := Tryz.prog) Tryz.underlying33 (sz := 3) (by kernel_rfl) A.a l.length A.c f' t' hft (Nat.le_trans htl (rd_cap hrdo.row.rd)) W
      have hfw : Few l := by rw [hl]; exact vals_few hs _ (by have := hs.1 (check_zero hz).2.2.1; omega)
      have hvo : ∀ v ∈ l, vOK c.k c.s v := by rw [hl]; exact vals_ok hc hz
      have hpl : ((l.take t').drop f').length = t' - f' := by rw [List.length_drop, List.length_take]; omega
      have HLAY := Aside.mk (fun W (hb : Below w.heap.size w W) (hb3 : Below w3.heap.size w3 W) => lay_any c.k c.s ((l.take t').drop f') (check_zero hz).1 ⟨by rw [hpl]; have := hfw.1; omega, fun v hv => hfw.2 v (List.mem_of_mem_take (List.mem_of_mem_drop hv))⟩ (fun v hv => hvo v (List.mem_of_mem_take (List.mem_of_mem_drop hv))) _ W ((hrdo.below hb3).piece (HR.out.below hb) hft htl))
      rw [hpl] at HLAY
      generalize (l.take t').drop f' = l' at *
      have hnl := hll
      clear hrc hz hn0 hl hrdo ege egv hfw hvo hpl hbad
      obtain ⟨c0, c1, c2, c3, c4, c5, c6, c7⟩ := box8 HX.out
      generalize l.length = nl at *
      go_wp2_with fail
      go_region_law ((refine step_call (P := Tryz.prog) w3.drew (by rfl) 25 [.tmp 34, .tmp 38] _ (by rfl) [.agg #[.int .i64 c.k, .int .i64 c.s], .slice (cutA A.a A.c f' 3) (t' - f') (A.c - f')] (by rfl) (fun _ _ => rfl) (HLAY.out w3.drew (B3.out.trans (below_drewN w3 _ 1)) (below_drewN w3 _ 1)) ?_; rintro e w4 ⟨B', D', E', X', vals', rfl, hoc, hb4⟩; have HOC := Aside.mk hoc; have HB4 := Aside.mk hb4; have hr4 := (hb4.block _ (lt_of_blk (show w3.drew.heap[w.heap.size + 1]? = _ from HZ.out))).trans (show w3.drew.heap[w.heap.size + 1]? = _ from HZ.out); obtain ⟨r0, r1, r2, r3, r4, r5, r6, r7⟩ := box8 hr4; have f0 := frozen_blk (k := 0) hr4; have f1 := frozen_blk (k := 1) hr4; have f2 := frozen_blk (k := 2) hr4; have f3 := frozen_blk (k := 3) hr4; have f4 := frozen_blk (k := 4) hr4; have f5 := frozen_blk (k := 5) hr4; have f6 := frozen_blk (k := 6) hr4; have f7 := frozen_blk (k := 7) hr4; have HR4 := Aside.mk hr4; clear hoc hb4 hr4; dsimp only [colV, CS.col]; refine ⟨_, rfl, ?_⟩))
      all_goals
        go_wp2_with fail
        refine bodyPost_ret (v := .tuple #[.agg #[.int .i64 c.k, .int .i64 c.s, .int .i64 ((CS.of c.k l').nulls.length : Int), .int .i64 ((CS.of c.k l').nulls.length : Int), .slice B'.a (mof (CS.of c.k l').nulls).length B'.c, .slice D'.a (CS.of c.k l').data.length D'.c, .slice E'.a (CS.of c.k l').ends.length E'.c, .slice X'.a (CS.of c.k l').words.length X'.c], .int .i64 0]) (by simp [results, Tryz.results110, go_sem, r0, r1, r2, r3, r4, r5, r6, r7]) rfl ?_
        have K8 : Kept (fun b => b = w.heap.size + 1) w4 _ := kept8 w4 (w.heap.size + 1) (.int .i64 c.k) (.int .i64 c.s) (.int .i64 ((CS.of c.k l').nulls.length : Int)) (.int .i64 ((CS.of c.k l').nulls.length : Int)) (.slice B'.a (mof (CS.of c.k l').nulls).length B'.c) (.slice D'.a (CS.of c.k l').data.length D'.c) (.slice E'.a (CS.of c.k l').ends.length E'.c) (.slice X'.a (CS.of c.k l').words.length X'.c)
        have h3 : w.heap.size + 2 ≤ w3.drew.heap.size := Nat.le_trans (Nat.le_of_eq HS2.out.symm) HB3.out.size
        exact HF.out _ _ ⟨B', D', E', X', vals', rfl, (HOC.out.kept K8 (fun b h => by omega)).mono (by omega), set8_below (below_chain B3.out (undrew HB4.out)) (Nat.le_succ _) _ _ _ _ _ _ _ _⟩
end Go.Proofs.YtmhjjhaipcgbiaaGreat


namespace Go.Proofs.YtmhjjhaipcgbiaaGreat
open Go.RowKit
set_option linter.unusedVariables false
set_option linter.unusedSimpArgs false
set_option maxRecDepth 100000
set_option maxHeartbeats 4000000
def joinE (a b : Col) : Int := if checkC a ≠ 0 then checkC a else if checkC b ≠ 0 then checkC b else if a.k = b.k ∧ a.s = b.s then 0 else 174
def joinC (a b : Col) : Col := if joinE a b = 0 then colOf a.k a.s (valsC a a.n.toNat ++ valsC b b.n.toNat) else zeroC
theorem RdO.one {Q : World → Prop} {w : World} {base : Nat} {A : SL} {l : List V} {xs : List Value} (h : RdO Q w base A l xs) : ∀ u ∈ xs, u.oneCell' = true := by
  intro u hu
  obtain ⟨j, hj, rfl⟩ := List.mem_iff_getElem.1 hu
  have hl : xs.length = l.length * 3 := h.row.1
  have hi : j / 3 < l.length := by omega
  obtain ⟨ta, tc, q0, q1, q2, q3⟩ := h.each (j / 3) _ (List.getElem?_eq_getElem hi)
  have e := List.getElem?_eq_getElem hj
  obtain h3 | h3 | h3 : j = j / 3 * 3 ∨ j = j / 3 * 3 + 1 ∨ j = j / 3 * 3 + 2 := by omega
  · rw [← h3, e] at q0; rw [Option.some.inj q0]; rfl
  · rw [← h3, e] at q1; rw [Option.some.inj q1]; rfl
  · rw [← h3, e] at q2; rw [Option.some.inj q2]; rfl
theorem rdvs_app {Q Q2 : World → Prop} {w w2 W : World} {base base2 base3 : Nat} {A A2 : SL} {l r : List V} {xs xs2 : List Value} {a7 : Option Addr} {c7 : Nat} (h : RdO Q w base A l xs) (h2 : RdO Q2 w2 base2 A2 r xs2) (hq : Q W) (hq2 : Q2 W) (ho : Own W base3 50 3 (.slice a7 (l.length + r.length) c7) (l.length + r.length) (xs ++ xs2)) : RdVs W ⟨a7, c7⟩ (l ++ r) := by
  have hx : xs.length = l.length * 3 := h.row.1
  refine ⟨xs ++ xs2, by rw [List.length_append]; exact ho.rd, fun i v hi => ?_⟩
  rcases Nat.lt_or_ge i l.length with hlt | hge
  · rw [List.getElem?_append_left hlt] at hi
    obtain ⟨ta, tc, q0, q1, q2, q3⟩ := h.each i v hi
    refine ⟨ta, tc, ?_, ?_, ?_, q3 W hq⟩
    · rw [List.getElem?_append_left (by omega)]; exact q0
    · rw [List.getElem?_append_left (by omega)]; exact q1
    · rw [List.getElem?_append_left (by omega)]; exact q2
  · rw [List.getElem?_append_right hge] at hi
    obtain ⟨ta, tc, q0, q1, q2, q3⟩ := h2.each _ v hi
    refine ⟨ta, tc, ?_, ?_, ?_, q3 W hq2⟩
    · rw [List.getElem?_append_right (by omega), show i * 3 - xs.length = (i - l.length) * 3 by omega]; exact q0
    · rw [List.getElem?_append_right (by omega), show i * 3 + 1 - xs.length = (i - l.length) * 3 + 1 by omega]; exact q1
    · rw [List.getElem?_append_right (by omega), show i * 3 + 2 - xs.length = (i - l.length) * 3 + 2 by omega]; exact q2
theorem rjoin_any (a b : Col) (ha : COK a) (hsa : Small18 a) (hb : COK b) (hsb : Small18 b) (hab : a.m = a.n → b.m = b.n → a.n + b.n ≤ 20000) (B D E X B2 D2 E2 X2 : SL) (va vb : List Value) (w : World) (h : RdC w a B D E X va) (h2 : RdC w b B2 D2 E2 X2 vb) : Calls Tryz.prog 111 #[colV a B D E X, colV b B2 D2 E2 X2] w (ColRP (joinC a b) (joinE a b) w) := by
  have HRA := Aside.mk (fun W (hb : Below w.heap.size w W) => read18_any a ha hsa B D E X va W (h.below hb))
  have HRB := Aside.mk (fun W (hw : Below w.heap.size w W) => read18_any b hb hsb B2 D2 E2 X2 vb W (h2.below hw))
  have HAB := Aside.mk hab
  clear hab
  have HR := Aside.mk h
  have HR2 := Aside.mk h2
  clear h h2
  dsimp only [colV] at HRA HRB ⊢
  go_enter Tryz.func111, Tryz.ntmps111
  go_upto_region 1 with fail
  have hg : ∀ W', (((w.alloc (colB a B D E X)).alloc (colB b B2 D2 E2 X2)).alloc (.cells #[.int .i64 0, .int .i64 0, .int .i64 0, .int .i64 0, .slice none 0 0, .slice none 0 0, .slice none 0 0, .slice none 0 0] 63 (0, 0))) = W' → Below w.heap.size w W' ∧ W'.heap.size = w.heap.size + 3 ∧ W'.heap[w.heap.size]? = some (colB a B D E X) ∧ W'.heap[w.heap.size + 1]? = some (colB b B2 D2 E2 X2) ∧ W'.heap[w.heap.size + 2]? = some (.cells #[.int .i64 0, .int .i64 0, .int .i64 0, .int .i64 0, .slice none 0 0, .slice none 0 0, .slice none 0 0, .slice none 0 0] 63 (0, 0)) := fun W' e => by rw [← e]; exact below_three w _ _ _
  generalize (((w.alloc (.cells #[.int .i64 a.k, .int .i64 a.s, .int .i64 a.n, .int .i64 a.m, .slice B.a a.bits.length B.c, .slice D.a a.data.length D.c, .slice E.a a.ends.length E.c, .slice X.a a.words.length X.c] 63)).alloc (.cells #[.int .i64 b.k, .int .i64 b.s, .int .i64 b.n, .int .i64 b.m, .slice B2.a b.bits.length B2.c, .slice D2.a b.data.length D2.c, .slice E2.a b.ends.length E2.c, .slice X2.a b.words.length X2.c] 63)).alloc (.cells #[.int .i64 0, .int .i64 0, .int .i64 0, .int .i64 0, .slice none 0 0, .slice none 0 0, .slice none 0 0, .slice none 0 0] 63)) = w2 at *
  obtain ⟨t1, t2, t3, t4, t5⟩ := hg w2 rfl
  have B2' := Aside.mk t1
  have HXA := Aside.mk t3
  have HXB := Aside.mk t4
  have HZ := Aside.mk (show w2.heap[w.heap.size + 1 + 1]? = _ from t5)
  have HS2 := Aside.mk t2
  obtain ⟨c0, c1, c2, c3, c4, c5, c6, c7⟩ := box8 t3
  clear hg t1 t2 t3 t4 t5
  go_wp2_with fail
  refine (HRA.out _ B2'.out).mono ?_
  rintro e w3 ⟨hb3, hread⟩
  have B3 := Aside.mk (below_chain B2'.out hb3)
  have HB3 := Aside.mk hb3
  replace HXA := Aside.mk ((hb3.block _ (lt_of_blk HXA.out)).trans HXA.out)
  replace HXB := Aside.mk ((hb3.block _ (lt_of_blk HXB.out)).trans HXB.out)
  replace HZ := Aside.mk ((hb3.block _ (lt_of_blk HZ.out)).trans HZ.out)
  clear hb3 c0 c1 c2 c3 c4 c5 c6 c7 HRA
  cases hrca : readC a with
  | none =>
    rw [hrca] at hread
    replace hread : e = Ending.returned (.tuple #[.slice none 0 0, .int .i64 (readE a)]) := hread
    subst hread
    have hre := readE_check ha (fun e => by have := hsa.1 e; omega)
    have hne : readE a ≠ 0 := by unfold readE; rw [hrca]; split <;> decide
    have ege : joinE a b = readE a := by unfold joinE; rw [if_pos (by rw [← hre]; exact hne), hre]
    have egv : joinC a b = zeroC := by unfold joinC; rw [if_neg (by rw [ege]; exact hne)]
    have HF : Aside (∀ W, Below w.heap.size w W → ColRP (joinC a b) (joinE a b) w (.returned (.tuple #[.agg #[.int .i64 0, .int .i64 0, .int .i64 0, .int .i64 0, .slice none 0 0, .slice none 0 0, .slice none 0 0, .slice none 0 0], .int .i64 (readE a)])) W) := ⟨fun W hb => by rw [ege, egv]; exact zero_ret hb⟩
    generalize readE a = x at *
    clear ege egv hre hrca
    obtain ⟨z0, z1, z2, z3, z4, z5, z6, z7⟩ := box8 HZ.out
    have f0 := frozen_blk (k := 0) HZ.out
    have f1 := frozen_blk (k := 1) HZ.out
    have f2 := frozen_blk (k := 2) HZ.out
    have f3 := frozen_blk (k := 3) HZ.out
    have f4 := frozen_blk (k := 4) HZ.out
    have f5 := frozen_blk (k := 5) HZ.out
    have f6 := frozen_blk (k := 6) HZ.out
    have f7 := frozen_blk (k := 7) HZ.out
    go_wp2_with fail
    refine bodyPost_ret (v := .tuple #[.agg #[.int .i64 0, .int .i64 0, .int .i64 0, .int .i64 0, .slice none 0 0, .slice none 0 0, .slice none 0 0, .slice none 0 0], .int .i64 x]) (by simp [results, Tryz.results111, go_sem, z0, z1, z2, z3, z4, z5, z6, z7]) rfl ?_
    exact HF.out _ (set8_below B3.out (Nat.le_add_right _ 2) _ _ _ _ _ _ _ _)
  | some l =>
    rw [hrca] at hread
    obtain ⟨A, xs, rfl, hrdo⟩ := hread
    have HLA := Aside.mk (check_read ha (fun e => by have := hsa.1 e; omega) hrca)
    clear hrca
    have HRO := Aside.mk hrdo
    obtain ⟨d0, d1, d2, d3, d4, d5, d6, d7⟩ := box8 HXB.out
    clear hrdo
    go_wp2_with fail
    refine (HRB.out _ B3.out).mono ?_
    rintro e w4 ⟨hb4, hread⟩
    have B4 := Aside.mk (below_chain B3.out hb4)
    have HB4 := Aside.mk hb4
    replace HRO := Aside.mk (HRO.out.below hb4)
    replace HXA := Aside.mk ((hb4.block _ (lt_of_blk HXA.out)).trans HXA.out)
    replace HXB := Aside.mk ((hb4.block _ (lt_of_blk HXB.out)).trans HXB.out)
    replace HZ := Aside.mk ((hb4.block _ (lt_of_blk HZ.out)).trans HZ.out)
    clear hb4 d0 d1 d2 d3 d4 d5 d6 d7 HRB
    cases hrcb : readC b with
    | none =>
      rw [hrcb] at hread
      replace hread : e = Ending.returned (.tuple #[.slice none 0 0, .int .i64 (readE b)]) := hread
      subst hread
      have hre := readE_check hb (fun e => by have := hsb.1 e; omega)
      have hne : readE b ≠ 0 := by unfold readE; rw [hrcb]; split <;> decide
      have ege : joinE a b = readE b := by unfold joinE; rw [if_neg (by rw [HLA.out.1]; decide), if_pos (by rw [← hre]; exact hne), hre]
      have egv : joinC a b = zeroC := by unfold joinC; rw [if_neg (by rw [ege]; exact hne)]
      have HF : Aside (∀ W, Below w.heap.size w W → ColRP (joinC a b) (joinE a b) w (.returned (.tuple #[.agg #[.int .i64 0, .int .i64 0, .int .i64 0, .int .i64 0, .slice none 0 0, .slice none 0 0, .slice none 0 0, .slice none 0 0], .int .i64 (readE b)])) W) := ⟨fun W hb => by rw [ege, egv]; exact zero_ret hb⟩
      generalize readE b = x at *
      clear ege egv hre hrcb
      obtain ⟨z0, z1, z2, z3, z4, z5, z6, z7⟩ := box8 HZ.out
      have f0 := frozen_blk (k := 0) HZ.out
      have f1 := frozen_blk (k := 1) HZ.out
      have f2 := frozen_blk (k := 2) HZ.out
      have f3 := frozen_blk (k := 3) HZ.out
      have f4 := frozen_blk (k := 4) HZ.out
      have f5 := frozen_blk (k := 5) HZ.out
      have f6 := frozen_blk (k := 6) HZ.out
      have f7 := frozen_blk (k := 7) HZ.out
      go_wp2_with fail
      refine bodyPost_ret (v := .tuple #[.agg #[.int .i64 0, .int .i64 0, .int .i64 0, .int .i64 0, .slice none 0 0, .slice none 0 0, .slice none 0 0, .slice none 0 0], .int .i64 x]) (by simp [results, Tryz.results111, go_sem, z0, z1, z2, z3, z4, z5, z6, z7]) rfl ?_
      exact HF.out _ (set8_below B4.out (Nat.le_add_right _ 2) _ _ _ _ _ _ _ _)
    | some r =>
      rw [hrcb] at hread
      obtain ⟨A2, xs2, rfl, hrdo⟩ := hread
      obtain ⟨hzb, hlb⟩ := check_read hb (fun e => by have := hsb.1 e; omega) hrcb
      obtain ⟨hza, hla⟩ := HLA.out
      have hn0 : 0 ≤ a.n := by obtain ⟨_, hm, hn, _⟩ := check_zero hza; have := ((maskOK_iff ha.bits).1 hm).1; omega
      have hn1 : 0 ≤ b.n := by obtain ⟨_, hm, hn, _⟩ := check_zero hzb; have := ((maskOK_iff hb.bits).1 hm).1; omega
      have hab := HAB.out (check_zero hza).2.2.1 (check_zero hzb).2.2.1
      have HRO2 := Aside.mk hrdo
      clear hrdo
      obtain ⟨c0, c1, c2, c3, c4, c5, c6, c7'⟩ := box8 HXA.out
      obtain ⟨d0, d1, d2, d3, d4, d5, d6, d7⟩ := box8 HXB.out
      by_cases hty : a.k = b.k ∧ a.s = b.s
      · have hll : l.length = a.n.toNat := by rw [hla, valsC_len2]
        have hlr : r.length = b.n.toNat := by rw [hlb, valsC_len2]
        have ege : joinE a b = 0 := by unfold joinE; rw [if_neg (by rw [hza]; decide), if_neg (by rw [hzb]; decide), if_pos hty]
        have egv : joinC a b = colOf a.k a.s (l ++ r) := by unfold joinC; rw [if_pos ege, hla, hlb]
        have HF : Aside (∀ e W, ColRP (colOf a.k a.s (l ++ r)) 0 w e W → ColRP (joinC a b) (joinE a b) w e W) := ⟨fun e W h => by rw [ege, egv]; exact h⟩
        have hfa : Few l := by rw [hla]; exact vals_few hsa _ (by have := hsa.1 (check_zero hza).2.2.1; omega)
        have hfb : Few r := by rw [hlb]; exact vals_few hsb _ (by have := hsb.1 (check_zero hzb).2.2.1; omega)
        have hva : ∀ v ∈ l, vOK a.k a.s v := by rw [hla]; exact vals_ok ha hza
        have hvb : ∀ v ∈ r, vOK a.k a.s v := by rw [hlb, hty.1, hty.2]; exact vals_ok hb hzb
        rw [← hty.1] at d0
        rw [← hty.2] at d1
        have HROW := Aside.mk (show Own w4 w2.heap.size 50 3 (.slice A.a l.length A.c) l.length xs from HRO.out.row)
        have HSR := Aside.mk (show Src Tryz.prog 3 33 (.slice A2.a r.length A2.c) r.length xs2 w4.drew from (HRO2.out.row.rd.below (below_drewN w4 _ 1)).src Tryz.underlying33 HRO2.out.one)
        have HLAY := Aside.mk (fun (A3 : SL) W (hr : RdVs W A3 (l ++ r)) => lay_any a.k a.s (l ++ r) (check_zero hza).1 ⟨by rw [List.length_append]; omega, fun v hv => by rcases List.mem_append.1 hv with hv | hv; exact hfa.2 v hv; exact hfb.2 v hv⟩ (fun v hv => by rcases List.mem_append.1 hv with hv | hv; exact hva v hv; exact hvb v hv) A3 W hr)
        have HRV := Aside.mk (fun W (hq : RdC W a B D E X va) (hq2 : RdC W b B2 D2 E2 X2 vb) (a7 : Option Addr) (c7 : Nat) (ho : Own W w2.heap.size 50 3 (.slice a7 (l.length + r.length) c7) (l.length + r.length) (xs ++ xs2)) => rdvs_app HRO.out HRO2.out hq hq2 ho)
        have hsum : l.length + r.length ≤ 20000 := by omega
        have HLN := Aside.mk (show (l ++ r).length = l.length + r.length from List.length_append)
        rw [HLN.out] at HLAY
        clear ege egv hrcb hza hzb hty hfa hfb hva hvb hla hlb hll hlr hn0 hn1 HLA
        generalize l.length = nl at *
        generalize r.length = nr at *
        generalize l ++ r = lr at *
        go_wp2_with fail
        go_region_law (first
          | (refine step_app2 (P := Tryz.prog) w4.drew (.tmp 35) (.tmp 36) 33 33 (by rfl) (by rfl) w2.heap.size 50 (.agg #[.bool false, .int .u64 0, .slice none 0 0]) 3 40 Tryz.underlying33 valinfo (by rfl) (.slice A.a nl A.c) nl xs (by rfl) (HROW.out.drewN 1) (.slice A2.a nr A2.c) nr xs2 (by rfl) HSR.out (by unfold maxLen; omega) (by omega) (by exact Nat.le_trans HB3.out.size HB4.out.size) ?_; intro v7 w7 hA; obtain ⟨a7, c7, rfl⟩ := hA.own.form
             have K7 := Aside.mk (show Kept (fun b => (Value.slice A.a nl A.c).ownBlock = some b) w4 w7 from (Kept.of_below (below_drewN w4 _ 1)).trans ((Kept.of_grown hA.grown).mono (fun b e _ => e.symm)) (fun _ e _ => e))
             have hx7 := (K7.out.block _ (lt_of_blk HXA.out) (fun e => HROW.out.blk_ne HXA.out (by decide) e)).trans HXA.out
             have HZ7 := Aside.mk ((K7.out.block _ (lt_of_blk HZ.out) (fun e => HROW.out.blk_ne HZ.out (by decide) e)).trans HZ.out)
             have B7 := Aside.mk (B4.out.trans (K7.out.to_below B4.out.size (fun b e => Nat.le_trans B2'.out.size (HROW.out.lt b e).1)))
             have HS7 := Aside.mk (Nat.le_trans (Nat.le_trans HB3.out.size HB4.out.size) K7.out.size)
             have HL7 := Aside.mk (HLAY.out ⟨a7, c7⟩ w7 (HRV.out w7 (HR.out.below B7.out) (HR2.out.below B7.out) a7 c7 hA.own))
             clear c0 c1 c2 c3 c4 c5 c6 c7' d0 d1 d2 d3 d4 d5 d6 d7 hA
             obtain ⟨c0, c1, c2, c3, c4, c5, c6, c7'⟩ := box8 hx7
             clear hx7)
          | (refine step_call (P := Tryz.prog) w7 (by rfl) 25 [.tmp 34, .tmp 37] _ (by rfl) [.agg #[.int .i64 a.k, .int .i64 a.s], .slice a7 (nl + nr) c7] (by rfl) (fun _ _ => rfl) HL7.out ?_; rintro e w8 ⟨B', D', E', X', vals', rfl, hoc, hb8⟩
             have HOC := Aside.mk hoc
             have HB8 := Aside.mk hb8
             have hr8 := (hb8.block _ (lt_of_blk HZ7.out)).trans HZ7.out
             obtain ⟨r0, r1, r2, r3, r4, r5, r6, r7⟩ := box8 hr8
             have f0 := frozen_blk (k := 0) hr8
             have f1 := frozen_blk (k := 1) hr8
             have f2 := frozen_blk (k := 2) hr8
             have f3 := frozen_blk (k := 3) hr8
             have f4 := frozen_blk (k := 4) hr8
             have f5 := frozen_blk (k := 5) hr8
             have f6 := frozen_blk (k := 6) hr8
             have f7 := frozen_blk (k := 7) hr8
             clear hoc hb8 hr8
             dsimp only [colV, CS.col]
             refine ⟨_, rfl, ?_⟩))
        all_goals
          go_wp2_with fail
          refine bodyPost_ret (v := .tuple #[.agg #[.int .i64 a.k, .int .i64 a.s, .int .i64 ((CS.of a.k lr).nulls.length : Int), .int .i64 ((CS.of a.k lr).nulls.length : Int), .slice B'.a (mof (CS.of a.k lr).nulls).length B'.c, .slice D'.a (CS.of a.k lr).data.length D'.c, .slice E'.a (CS.of a.k lr).ends.length E'.c, .slice X'.a (CS.of a.k lr).words.length X'.c], .int .i64 0]) (by simp [results, Tryz.results111, go_sem, r0, r1, r2, r3, r4, r5, r6, r7]) rfl ?_
          have K8 : Kept (fun b => b = w.heap.size + 1 + 1) w8 _ := kept8 w8 (w.heap.size + 1 + 1) (.int .i64 a.k) (.int .i64 a.s) (.int .i64 ((CS.of a.k lr).nulls.length : Int)) (.int .i64 ((CS.of a.k lr).nulls.length : Int)) (.slice B'.a (mof (CS.of a.k lr).nulls).length B'.c) (.slice D'.a (CS.of a.k lr).data.length D'.c) (.slice E'.a (CS.of a.k lr).ends.length E'.c) (.slice X'.a (CS.of a.k lr).words.length X'.c)
          have h3 : w.heap.size + 3 ≤ w7.heap.size := Nat.le_trans (Nat.le_of_eq HS2.out.symm) HS7.out
          exact HF.out _ _ ⟨B', D', E', X', vals', rfl, (HOC.out.kept K8 (fun b h => by omega)).mono (by omega), set8_below (below_chain B7.out HB8.out) (Nat.le_add_right _ 2) _ _ _ _ _ _ _ _⟩
      · have ege : joinE a b = 174 := by unfold joinE; rw [if_neg (by rw [hza]; decide), if_neg (by rw [hzb]; decide), if_neg hty]
        have egv : joinC a b = zeroC := by unfold joinC; rw [if_neg (by rw [ege]; decide)]
        have HF : Aside (∀ W, Below w.heap.size w W → ColRP (joinC a b) (joinE a b) w (.returned (.tuple #[.agg #[.int .i64 0, .int .i64 0, .int .i64 0, .int .i64 0, .slice none 0 0, .slice none 0 0, .slice none 0 0, .slice none 0 0], .int .i64 174])) W) := ⟨fun W hb => by rw [ege, egv]; exact zero_ret hb⟩
        obtain ⟨z0, z1, z2, z3, z4, z5, z6, z7⟩ := box8 HZ.out
        have f0 := frozen_blk (k := 0) HZ.out
        have f1 := frozen_blk (k := 1) HZ.out
        have f2 := frozen_blk (k := 2) HZ.out
        have f3 := frozen_blk (k := 3) HZ.out
        have f4 := frozen_blk (k := 4) HZ.out
        have f5 := frozen_blk (k := 5) HZ.out
        have f6 := frozen_blk (k := 6) HZ.out
        have f7 := frozen_blk (k := 7) HZ.out
        have HTY := Aside.mk hty
        clear ege egv hrcb hza hzb hla hlb hty hn0 hn1
        go_wp2_with fail
        all_goals first
          | (exfalso; exact HTY.out ⟨by assumption, by assumption⟩)
          | (refine bodyPost_ret (v := .tuple #[.agg #[.int .i64 0, .int .i64 0, .int .i64 0, .int .i64 0, .slice none 0 0, .slice none 0 0, .slice none 0 0, .slice none 0 0], .int .i64 174]) (by simp [results, Tryz.results111, go_sem, z0, z1, z2, z3, z4, z5, z6, z7]) rfl ?_
             exact HF.out _ (set8_below B4.out (Nat.le_add_right _ 2) _ _ _ _ _ _ _ _))
end Go.Proofs.YtmhjjhaipcgbiaaGreat


namespace Go.Proofs.YtmhjjhaipcgbiaaGreat
open Go.RowKit Go.Maps
set_option linter.unusedVariables false
set_option linter.unusedSimpArgs false
set_option maxRecDepth 100000
set_option maxHeartbeats 1000000
def CX (D : DataW Unit) (ws : List (List Int)) (n j : Nat) : Prop :=
  (∀ t, IsBytes t → Maps.has D (wordKey t) = (ws.take n ++ ws.drop (n + j)).contains t) ∧ ∀ (i : Nat) t, i < n → ws[i]? = some t → D.atKey (wordKey t) (.lit (.int .i64 0)) = .lit (.int .i64 (i : Int))
theorem CX.start {D : DataW Unit} {ws : List (List Int)} (h : codesOK D ws) (n : Nat) : CX D ws n 0 := by
  refine ⟨fun t ht => ?_, fun i t _ hi => h.2 i t hi⟩
  rw [Nat.add_zero, List.take_append_drop]; exact h.1 t ht
theorem CX.done {D : DataW Unit} {ws : List (List Int)} {n j : Nat} (h : CX D ws n j) (hj : ws.length ≤ n + j) : codesOK D (ws.take n) := by
  refine ⟨fun t ht => ?_, fun i t hi => ?_⟩
  · have := h.1 t ht
    rwa [List.drop_eq_nil_of_le hj, List.append_nil] at this
  · rw [List.getElem?_take] at hi
    split at hi
    · exact h.2 i t (by omega) hi
    · cases hi
theorem CX.step {D : DataW Unit} {ws : List (List Int)} {n j : Nat} (h : CX D ws n j) (hn : ws.Nodup) (hb : ∀ t ∈ ws, IsBytes t) (hj : n + j < ws.length) : CX (D.del (wordKey ws[n + j])) ws n (j + 1) ∧ Maps.has D (wordKey ws[n + j]) = true := by
  have hd : ws.drop (n + j) = ws[n + j] :: ws.drop (n + (j + 1)) := by rw [List.drop_eq_getElem_cons hj]; rfl
  have hbt := hb _ (List.getElem_mem hj)
  have hu : (ws.take n ++ ws[n + j] :: ws.drop (n + (j + 1))).Nodup := by
    have h1 : (ws.take n ++ ws.drop (n + j)).Sublist ws := by
      have : ws.take n ++ ws.drop (n + j) = ws.take n ++ (ws.drop n).drop j := by rw [List.drop_drop]
      rw [this]
      conv => rhs; rw [← List.take_append_drop n ws]
      exact List.Sublist.append (List.Sublist.refl _) (List.drop_sublist _ _)
    rw [hd] at h1
    exact h1.nodup hn
  refine ⟨⟨fun t ht => ?_, fun i t hi he => ?_⟩, ?_⟩
  · by_cases e : t = ws[n + j]
    · subst e
      rw [has_del_same]
      rw [List.nodup_append] at hu
      obtain ⟨_, h2, h3⟩ := hu
      rw [List.nodup_cons] at h2
      symm
      rw [Bool.eq_false_iff]
      intro hc
      rw [List.contains_iff_mem] at hc
      rcases List.mem_append.1 hc with h4 | h4
      · exact h3 _ h4 _ (List.mem_cons_self ..) rfl
      · exact h2.1 h4
    · rw [has_del_other (fun e' => e (wordKey_inj ht hbt e')), h.1 t ht, hd]
      rw [Bool.eq_iff_iff, List.contains_iff_mem, List.contains_iff_mem, List.mem_append, List.mem_append, List.mem_cons]
      simp [e]
  · have hne : t ≠ ws[n + j] := by
      rintro rfl
      have h1 := List.getElem?_eq_some_iff.1 he
      obtain ⟨h3, h4⟩ := h1
      have := (List.getElem_inj hn).1 h4
      omega
    rw [atKey_del_other (fun e' => hne (wordKey_inj (hb t (List.mem_of_getElem? he)) hbt e'))]
    exact h.2 i t hi he
  · rw [h.1 _ hbt, hd]
    simp
theorem size_own {w : World} {b n : Nat} {D : DataW Unit} (h : w.ownsMap Tryz.prog 9 (plainElem Tryz.prog 3) b n D) : w.ownsMap Tryz.prog 9 (plainElem Tryz.prog 3) b (Maps.size D) D ∧ Maps.size D ≤ n := by
  obtain ⟨es, clock, hb, F, hs, rfl⟩ := h
  have e : Maps.size (DataW.map ((es.toList.map (Go.WideElems.rg Tryz.prog 9 (plainElem (H := Unit) Tryz.prog 3))).foldr DataW.insert [])) = es.size := by
    rw [size_eq, length_sorted]; simp
  exact ⟨⟨es, clock, hb, F, Nat.le_of_eq e.symm, rfl⟩, by rw [e]; exact hs⟩
structure DBI (ws : List (List Int)) (mb n j : Nat) (w wr : World) : Prop where
  map : ∃ D : DataW Unit, wr.ownsMap Tryz.prog 9 (plainElem Tryz.prog 3) mb (Maps.size D) D ∧ CX D ws n j ∧ Maps.size D + j ≤ ws.length
  kept : Kept (fun b => b = mb) w wr
theorem DBI.step {ws : List (List Int)} {mb n j : Nat} {w wr : World} (h : DBI ws mb n j w wr) (hn : ws.Nodup) (hb : ∀ t ∈ ws, IsBytes t) (hj : n + j < ws.length) (hl : ws[n + j].length ≤ 100000000) :
    ∃ w1, (∀ ty, (Builtin.delete_ #[210, 9] ty #[.map (some mb), .string (strOfNums ws[n + j])]).run Tryz.prog wr.drew = .ok (.tuple #[]) w1) ∧ DBI ws mb n (j + 1) w w1 := by
  obtain ⟨⟨D, h1, h2, h3⟩, hk⟩ := h
  have hk1 := wordKey_key ws[n + j] (by unfold maxLen; omega)
  obtain ⟨h4, h5⟩ := h2.step hn hb hj
  have hT := h1.tidy string_law
  have hsz := size_del (k := wordKey ws[n + j]) hT
  rw [h5, if_pos rfl] at hsz
  obtain ⟨w1, hr, ho, ht⟩ := h1.drew.drop string_law Tryz.underlying210 hk1 0
  refine ⟨w1, fun ty => ?_, ⟨⟨_, (size_own ho).1, h4, by omega⟩, ?_⟩⟩
  · exact hr
  · exact (hk.trans (Kept.of_below (S := fun b => b = mb) (below_drewN _ _ 1)) (fun _ e _ => e)).trans ((Kept.of_grown ht.grown).mono (fun b e _ => by simpa using e)) (fun _ e _ => e)
def DBackP (T : Nat → Prop) (lw : Nat) (ws : List (List Int)) (w : World) (e : Ending) (w' : World) : Prop := e = .returned (.int .i64 0) ∧ WL w' T lw ws ∧ Kept T w w'
theorem own_len (a : Option Addr) (n m c : Nat) : (Value.slice a n c).ownBlock = (Value.slice a m c).ownBlock := by cases a <;> rfl
theorem Own.front {w : World} {base : Nat} {E : TypeId} {sz n c : Nat} {a : Option Addr} {xs : List Value} (h : Own w base E sz (.slice a n c) n xs) {m : Nat} (hm : m ≤ n) : Own w base E sz (.slice a m c) m (xs.take (m * sz)) := by
  rcases h.2 with ⟨e, rfl⟩ | ⟨g, off, cap, cur, e, _⟩
  · cases e
    obtain rfl : m = 0 := by omega
    have : xs = [] := List.eq_nil_of_length_eq_zero (by simpa using h.1)
    subst this
    simpa using Own.nil w base E sz
  · cases e
    have := h.cut (i := 0) (j := m) (Nat.zero_le _) hm
    simpa using this
theorem dback_done {T : Nat → Prop} {lw n mb wc : Nat} {ws : List (List Int)} {wa : Option Addr} {vals : List Value} {D : DataW Unit} {w wr : World} (hn : n ≤ ws.length) (H : WLx w T lw ws (.slice wa ws.length wc) mb vals D) (hI : DBI ws mb n (ws.length - n) w wr) :
    WL (wr.setCell ⟨lw, 0, none⟩ (.slice wa n wc)) T lw (ws.take n) ∧ Kept T w (wr.setCell ⟨lw, 0, none⟩ (.slice wa n wc)) := by
  obtain ⟨⟨D', m1, m2, m3⟩, hk⟩ := hI
  obtain ⟨n0, hm0, _⟩ := H.map
  obtain ⟨es, clk, hmb, _⟩ := hm0
  have hne : mb ≠ lw := map_ne_cells hmb H.blk
  have hb := (hk.block lw (lt_of_blk H.blk) (fun e => hne e.symm)).trans H.blk
  have K2 : Kept (fun b => b = mb ∨ b = lw) w (wr.setCell ⟨lw, 0, none⟩ (.slice wa n wc)) := (hk.mono (fun b e _ => .inl e)).trans (Kept.setCell _ _ _) (fun b e _ => .inr e)
  have hrow : Own wr 0 43 1 (.slice wa ws.length wc) ws.length vals := H.row.kept hk (fun b e h => by
    subst h
    obtain ⟨cur, hg⟩ := own_blk H.row e
    exact map_ne_cells hmb hg rfl)
  have hlen : (ws.take n).length = n := by rw [List.length_take]; omega
  have hvl : vals.length = ws.length := H.words.1
  refine ⟨⟨.slice wa n wc, mb, vals.take n, D', ⟨?_, ⟨Maps.size D', ?_, by rw [hlen]; omega⟩, m2.done (by omega), ?_, ⟨by rw [List.length_take, List.length_take, hvl], ?_⟩, H.tl, H.tm, fun b e => H.tw b (own_len wa n ws.length wc ▸ e), ?_, fun t ht => H.bytes t (List.mem_of_mem_take ht)⟩⟩, K2.mono (fun b e _ => e.elim (fun e => e ▸ H.tm) (fun e => e ▸ H.tl))⟩
  · have := heap_setCell_at (k := 0) hb (.slice wa n wc)
    simpa using this
  · obtain ⟨es', clk', hb', r⟩ := m1
    exact ⟨es', clk', (Below.heap_setCell wr _ _ _ hne).trans hb', r⟩
  · rw [hlen]
    have h1 := hrow.front hn
    rw [Nat.mul_one] at h1
    exact h1.set_other (h1.blk_ne hb (by decide)) _
  · intro i t hi
    rw [List.getElem?_take] at hi
    split at hi
    · obtain ⟨v, h1, h2, h3⟩ := H.words.2 i t hi
      refine ⟨v, by rw [List.getElem?_take, if_pos (by assumption)]; exact h1, h2.kept K2 (fun b e h => ?_), h3⟩
      obtain ⟨cur, hg⟩ := own_blk h2 e
      rcases h with h | h
      · exact map_ne_cells hmb hg h.symm
      · exact blk_ne H.blk hg (by decide) h.symm
    · cases hi
  · exact (List.take_sublist _ _).nodup H.nodup
theorem dback_some (T : Nat → Prop) (lw : Nat) (ws : List (List Int)) (n : Nat) (hn : n ≤ ws.length) (hw : ws.length ≤ 100000000) (hl : ∀ t ∈ ws, t.length ≤ 100000000) (g off wc mb : Nat) (vals : List Value) (D : DataW Unit) (w : World) (h : WLx w T lw ws (.slice (some ⟨g, off, none⟩) ws.length wc) mb vals D) :
    Calls Tryz.prog 89 #[.pointer (some ⟨lw, 0, none⟩), .int .i64 (n : Int)] w (DBackP T lw (ws.take n) w) := by
  have hc0 := cell_blk (k := 0) h.blk
  have hc1 := cell_blk (k := 1) h.blk
  simp at hc0 hc1
  have hcap : ws.length ≤ wc := by
    rcases h.row.2 with ⟨e, _⟩ | ⟨g', off', cap, cur, e, _, _, h5, _⟩
    · cases e
    · cases e; exact h5
  have hmax : wc ≤ 9223372036854775807 := by
    rcases h.row.2 with ⟨e, _⟩ | ⟨g', off', cap, cur, e, _, _, _, h5, _⟩
    · cases e
    · cases e; unfold maxLen at h5; omega
  obtain ⟨n0, hm0, hn0⟩ := h.map
  obtain ⟨hm1, hm2⟩ := size_own hm0
  have HS := Aside.mk (show DBI ws mb n 0 w w from ⟨⟨D, hm1, CX.start h.codes n, by omega⟩, Kept.refl _ _⟩)
  have HNE := Aside.mk (show mb ≠ lw by obtain ⟨es, clk, hmb, _⟩ := hm0; exact map_ne_cells hmb h.blk)
  have HGM := Aside.mk (show g ≠ mb by
    obtain ⟨es, clk, hmb, _⟩ := hm0
    obtain ⟨cur, hg⟩ := own_blk h.row (b := g) rfl
    exact fun e => map_ne_cells hmb hg e.symm)
  have H := Aside.mk h
  have HL := Aside.mk hl
  clear h hm0 hm1 hm2 hl
  by_cases hnc : n < wc
  · go_enter Tryz.func89, Tryz.ntmps89
    go_wp2_with fail
    go_loopw [25] (fun iv wr => ∃ j : Nat, j ≤ ws.length - n ∧ iv = .int .i64 (j : Int) ∧ Aside (DBI ws mb n j w wr)) (fun iv _ => (ws.length - n) - (intOf iv).toNat)
    case atStart => exact ⟨0, by omega, rfl, HS⟩
    case round =>
      obtain ⟨j, hj, rfl, hp⟩ := hrel
      have d0 := hp.out.kept.cell hc0 (fun e => HNE.out e.symm)
      have d1 := hp.out.kept.cell hc1 (fun e => HNE.out e.symm)
      have hf0 := frozen_blk (k := 0) ((hp.out.kept.block lw (lt_of_blk H.out.blk) (fun e => HNE.out e.symm)).trans H.out.blk)
      clear hc0 hc1
      by_cases hlt : j < ws.length - n
      · obtain ⟨v, v1, v2, v3⟩ := H.out.words.2 (n + j) _ (List.getElem?_eq_getElem (by omega))
        obtain ⟨ta, tc, rfl⟩ := v2.form
        obtain ⟨g', o', k', e1, _, _, _, _, hcc, _⟩ := H.out.row.some_ (by omega)
        simp only [Value.slice.injEq, Option.some.injEq, Addr.mk.injEq, and_true, true_and] at e1
        obtain ⟨⟨rfl, rfl⟩, rfl⟩ := e1
        have hx := hp.out.kept.cell (hcc (n + j) _ v1) HGM.out
        rw [← Nat.add_assoc] at hx
        have hxd : wr.cell? ⟨g, off + n + j, none⟩ = some (.slice ta (ws[n + j]'(by omega)).length tc) := hx
        obtain ⟨es, clk, hmb, _⟩ := H.out.map.choose_spec.1
        have hconv := conv_any ta _ tc (ws[n + j]'(by omega)) rfl wr.drew (((v2.rd).kept hp.out.kept (fun b e h => by
          obtain ⟨cur, hg⟩ := own_blk v2 e
          exact map_ne_cells hmb hg h.symm)).below (below_drewN _ _ 1))
        obtain ⟨w1, hdel, hI1⟩ := hp.out.step H.out.nodup H.out.bytes (by omega) (HL.out _ (List.getElem_mem _))
        have HI1 := Aside.mk hI1
        clear hmb hI1 hx hcc v1 v2 v3
        generalize ws[n + j]'(by omega) = tx at *
        generalize strOfNums tx = sx at *
        go_wp2_with fail
        go_region
        go_wp2_with fail
        exact ⟨⟨j + 1, by omega, by simp, HI1⟩, by simp [intOf]; omega⟩
      · obtain rfl : j = ws.length - n := by omega
        obtain ⟨r1, r2⟩ := dback_done hn H.out hp.out
        have HR := Aside.mk (And.intro r1 r2)
        clear r1 r2
        go_wp2_with fail
        go_ret
        exact ⟨rfl, HR.out.1, HR.out.2⟩
  · have hnl : ws.length = n := by omega
    have HNL := Aside.mk hnl
    have HWC := Aside.mk (show n = wc by omega)
    obtain ⟨r1, r2⟩ := dback_done hn H.out (show DBI ws mb n (ws.length - n) w w by rw [hnl, Nat.sub_self]; exact HS.out)
    have HR := Aside.mk (And.intro r1 r2)
    have hf0 := frozen_blk (k := 0) H.out.blk
    clear r1 r2
    have hz : (ws.length : Int) - (n : Int) = 0 := by omega
    obtain rfl : n = wc := by omega
    rw [hnl] at hc0
    have HN2 := hnl
    clear hnl hz HNL
    go_enter Tryz.func89, Tryz.ntmps89
    go_wp2_with fail
    go_loopw [25] (fun iv wr => iv = .int .i64 0 ∧ wr = w) (fun iv _ => 0)
    case atStart => exact ⟨rfl, rfl⟩
    case round =>
      obtain ⟨rfl, rfl⟩ := hrel
      go_wp2_with fail
      go_ret
      exact ⟨rfl, HR.out.1, HR.out.2⟩
theorem dback_any (T : Nat → Prop) (lw : Nat) (ws : List (List Int)) (n : Nat) (hn : n ≤ ws.length) (hw : ws.length ≤ 100000000) (hl : ∀ t ∈ ws, t.length ≤ 100000000) (w : World) (h : WL w T lw ws) :
    Calls Tryz.prog 89 #[.pointer (some ⟨lw, 0, none⟩), .int .i64 (n : Int)] w (DBackP T lw (ws.take n) w) := by
  obtain ⟨wv, mb, vals, D, h⟩ := h
  obtain ⟨a, c, rfl⟩ := h.row.form
  rcases h.row.2 with ⟨e, hz⟩ | ⟨g, off, cap, cur, e, _⟩
  · simp only [Value.slice.injEq] at e
    obtain ⟨rfl, _, rfl⟩ := e
    have hws : ws = [] := List.eq_nil_of_length_eq_zero hz
    subst hws
    obtain rfl : n = 0 := by simpa using hn
    have hc0 := cell_blk (k := 0) h.blk
    have hc1 := cell_blk (k := 1) h.blk
    have hf0 := frozen_blk (k := 0) h.blk
    simp at hc0 hc1
    obtain ⟨n0, hm0, hn0⟩ := h.map
    obtain ⟨hm1, hm2⟩ := size_own hm0
    obtain ⟨r1, r2⟩ := dback_done (n := 0) (Nat.zero_le _) h (wr := w) ⟨⟨D, hm1, CX.start h.codes 0, by simp at hn0 ⊢; omega⟩, Kept.refl _ _⟩
    have HR := Aside.mk (And.intro r1 r2)
    clear r1 r2 h hm0 hm1 hm2 hn0
    go_enter Tryz.func89, Tryz.ntmps89
    go_wp2_with fail
    go_loopw [25] (fun iv wr => iv = .int .i64 0 ∧ wr = w) (fun iv _ => 0)
    case atStart => exact ⟨rfl, rfl⟩
    case round =>
      obtain ⟨rfl, rfl⟩ := hrel
      go_wp2_with fail
      go_ret
      exact ⟨rfl, HR.out.1, HR.out.2⟩
  · cases e
    exact dback_some T lw ws n hn hw hl g off c mb vals D w h
end Go.Proofs.YtmhjjhaipcgbiaaGreat


namespace Go.Proofs.YtmhjjhaipcgbiaaGreat
open Go.RowKit
set_option linter.unusedVariables false
set_option linter.unusedSimpArgs false
set_option maxRecDepth 100000
set_option maxHeartbeats 1000000
theorem assert_fixed3 (v : Value) (w : World) : (Instr.typeAssert (.iface 167 v) 159 165 true).run Tryz.prog w = .ok (.tuple #[.agg #[.int .i64 0], .bool false]) w := by kernel_rfl
theorem own_cap {w : World} {base : Nat} {E : TypeId} {sz n c : Nat} {a : Option Addr} {xs : List Value} (h : Own w base E sz (.slice a n c) n xs) : n ≤ c := by
  rcases h.2 with ⟨e, hn⟩ | ⟨g, off, cap, cur, e, _, _, h5, _⟩
  · cases e; omega
  · cases e; exact h5
theorem own_slice_to {w : World} {base : Nat} {E : TypeId} {sz n c : Nat} {a : Option Addr} {xs : List Value} (h : Own w base E sz (.slice a n c) n xs) {P : Program} {T e : TypeId} (hT : P.underlying T = some (.slice e)) {q : Nat} (hs : (P.info? e).map (·.size) = some q) {m : Nat} (hm : m ≤ n) (W : World) :
    (Instr.slice T (.slice a n c) none (some (.int .i64 (m : Int))) none).run P W = .ok (.slice a m c) W := by
  have := run_slice_to (n := n) hT hs a c m (Nat.le_trans hm (own_cap h)) W
  rw [this]
  have : cutA a c 0 q = a := by
    unfold cutA
    split
    · rfl
    · rcases own_addr h with rfl | ⟨g, off, rfl⟩ <;> simp [addr_add]
  rw [this]; rfl
theorem box6 {w : World} {b : Nat} {x0 x1 x2 x3 x4 x5 : Value} {T : TypeId} (h : w.heap[b]? = some (.cells #[x0, x1, x2, x3, x4, x5] T (0, 0))) : w.cell? ⟨b, 0, none⟩ = some x0 ∧ w.cell? ⟨b, 1, none⟩ = some x1 ∧ w.cell? ⟨b, 2, none⟩ = some x2 ∧ w.cell? ⟨b, 3, none⟩ = some x3 ∧ w.cell? ⟨b, 4, none⟩ = some x4 ∧ w.cell? ⟨b, 5, none⟩ = some x5 := by
  refine ⟨?_, ?_, ?_, ?_, ?_, ?_⟩ <;> (rw [cell_blk h]; rfl)
theorem IsB.turn_nulls {w : World} {bl lw base : Nat} {k s : Int} {nulls nulls' : List Bool} {data ends : List Int} {nv nv' dv ev : Value} (h : IsB w bl lw base k s nulls data ends nv dv ev) (hown : Own w base 4 1 nv' nulls'.length (nulls'.map .bool)) :
    IsB (w.setCell ⟨bl, 2, none⟩ nv') bl lw base k s nulls' data ends nv' dv ev ∧ Kept (fun b => b = bl) w (w.setCell ⟨bl, 2, none⟩ nv') := by
  obtain ⟨mv, hl⟩ := h.lst
  have hne : bl ≠ lw := blk_ne h.blk hl (by decide)
  refine ⟨⟨by simpa using heap_setCell_at (k := 2) h.blk nv', ⟨mv, by rw [Below.heap_setCell _ _ _ _ (fun e => hne e.symm)]; exact hl⟩, h.bbl, h.blw, hown.set_other (hown.blk_ne h.blk (by decide)) _, h.data.set_other (h.data.blk_ne h.blk (by decide)) _, h.ends.set_other (h.ends.blk_ne h.blk (by decide)) _⟩, Kept.setCell w ⟨bl, 2, none⟩ nv'⟩
theorem IsB.turn_data {w : World} {bl lw base : Nat} {k s : Int} {nulls : List Bool} {data data' ends : List Int} {nv dv dv' ev : Value} (h : IsB w bl lw base k s nulls data ends nv dv ev) (hown : Own w base 5 1 dv' data'.length (data'.map (.int .u8))) :
    IsB (w.setCell ⟨bl, 3, none⟩ dv') bl lw base k s nulls data' ends nv dv' ev ∧ Kept (fun b => b = bl) w (w.setCell ⟨bl, 3, none⟩ dv') := by
  obtain ⟨mv, hl⟩ := h.lst
  have hne : bl ≠ lw := blk_ne h.blk hl (by decide)
  refine ⟨⟨by simpa using heap_setCell_at (k := 3) h.blk dv', ⟨mv, by rw [Below.heap_setCell _ _ _ _ (fun e => hne e.symm)]; exact hl⟩, h.bbl, h.blw, h.nulls.set_other (h.nulls.blk_ne h.blk (by decide)) _, hown.set_other (hown.blk_ne h.blk (by decide)) _, h.ends.set_other (h.ends.blk_ne h.blk (by decide)) _⟩, Kept.setCell w ⟨bl, 3, none⟩ dv'⟩
theorem IsB.turn_ends {w : World} {bl lw base : Nat} {k s : Int} {nulls : List Bool} {data ends ends' : List Int} {nv dv ev ev' : Value} (h : IsB w bl lw base k s nulls data ends nv dv ev) (hown : Own w base 3 1 ev' ends'.length (ends'.map (.int .i64))) :
    IsB (w.setCell ⟨bl, 4, none⟩ ev') bl lw base k s nulls data ends' nv dv ev' ∧ Kept (fun b => b = bl) w (w.setCell ⟨bl, 4, none⟩ ev') := by
  obtain ⟨mv, hl⟩ := h.lst
  have hne : bl ≠ lw := blk_ne h.blk hl (by decide)
  refine ⟨⟨by simpa using heap_setCell_at (k := 4) h.blk ev', ⟨mv, by rw [Below.heap_setCell _ _ _ _ (fun e => hne e.symm)]; exact hl⟩, h.bbl, h.blw, h.nulls.set_other (h.nulls.blk_ne h.blk (by decide)) _, h.data.set_other (h.data.blk_ne h.blk (by decide)) _, hown.set_other (hown.blk_ne h.blk (by decide)) _⟩, Kept.setCell w ⟨bl, 4, none⟩ ev'⟩
theorem own_front {w : World} {base : Nat} {E : TypeId} {n c : Nat} {a : Option Addr} {α : Type} {l : List α} {f : α → Value} (h : Own w base E 1 (.slice a n c) n (l.map f)) {m : Nat} (hm : m ≤ n) : Own w base E 1 (.slice a m c) (l.take m).length ((l.take m).map f) := by
  have hl : l.length = n := by have := h.1; simpa using this
  have := h.front hm
  rw [Nat.mul_one] at this
  rw [List.length_take, Nat.min_eq_left (by omega), List.map_take]
  exact this
def BackP (bl lw : Nat) (k s : Int) (nulls : List Bool) (data ends : List Int) (nv dv ev : Value) (w : World) (e : Ending) (w' : World) : Prop :=
  e = .returned (.int .i64 0) ∧ IsB w' bl lw 0 k s nulls data ends nv dv ev ∧ Kept (fun b => b = bl) w w'
theorem back_fixed (bl lw : Nat) (k s : Int) (h1 : (k == 15) = false) (h2 : (k == 16) = false) (W : Nat) (hW : widthOf k = (W : Int)) (hW8 : W ≤ 8) (nulls : List Bool) (data ends : List Int) (na da ea : Option Addr) (nn nc dn dc en ec : Nat) (hnn : nulls.length = nn) (hdn : data.length = dn) (n : Nat) (hn : n ≤ nn) (hd : n * W ≤ dn) (hl : dn ≤ 100000000) (hl2 : nn ≤ 100000000) (w : World)
    (h : IsB w bl lw 0 k s nulls data ends (.slice na nn nc) (.slice da dn dc) (.slice ea en ec)) :
    Calls Tryz.prog 31 #[.pointer (some ⟨bl, 0, none⟩), .int .i64 (n : Int)] w (BackP bl lw k s (nulls.take n) (data.take (n * W)) ends (.slice na n nc) (.slice da (n * W) dc) (.slice ea en ec) w) := by
  subst hnn
  subst hdn
  have hs1 := fun W' => own_slice_to h.nulls Tryz.underlying140 (q := 1) (by kernel_rfl) hn W'
  have hs2 := fun W' => own_slice_to h.data Tryz.underlying43 (q := 1) (by kernel_rfl) hd W'
  obtain ⟨T1, T2⟩ := h.turn_nulls (own_front h.nulls hn)
  obtain ⟨a0, a1, a2, a3, a4, a5⟩ := box6 h.blk
  have hbl := lt_of_blk h.blk
  have hf0 := fun k => frozen_blk (k := k) h.blk
  have H0 := Aside.mk h
  have H1 := Aside.mk T1
  have K1 := Aside.mk T2
  clear h T1 T2
  have ta1 := assert_running
  have ta2 := assert_fixed
  generalize hnn : nulls.length = nn at *
  generalize hdn : data.length = dn at *
  have HNN := Aside.mk hnn
  have HDN := Aside.mk hdn
  clear hnn hdn
  have hmul : IntKind.i64.wrap ((n : Int) * (W : Int)) = ((n * W : Nat) : Int) := by
    have e : (n : Int) * (W : Int) = ((n * W : Nat) : Int) := by simp
    rw [e]
    exact IntWalk.i64_in _ (by omega)
  generalize n * W = m at *
  go_enter Tryz.func31, Tryz.ntmps31
  go_wp2_with (first | (go_at_call 86; refine (of_fixed k s h1 h2 _).mono ?_; rintro e w1 ⟨rfl, rfl⟩; rw [hW]))
  have B3 := Aside.mk (show Below (w.setCell ⟨bl, 2, none⟩ (.slice na n nc)).heap.size (w.setCell ⟨bl, 2, none⟩ (.slice na n nc)) (((w.setCell ⟨bl, 2, none⟩ (.slice na n nc)).alloc (.cells #[.int .i64 k, .int .i64 s] 23)).alloc (.cells #[.int .i64 (W : Int)] 165)) from ((Below.refl _ _).alloc (Nat.le_refl _) _).alloc (by simp) _)
  have hx3 := Aside.mk (show (((w.setCell ⟨bl, 2, none⟩ (.slice na n nc)).alloc (.cells #[.int .i64 k, .int .i64 s] 23)).alloc (.cells #[.int .i64 (W : Int)] 165)).heap[w.heap.size + 1]? = some (.cells #[.int .i64 (W : Int)] 165 (0, 0)) from by
    simpa using heap_alloc_new ((w.setCell ⟨bl, 2, none⟩ (.slice na n nc)).alloc (.cells #[.int .i64 k, .int .i64 s] 23)) (.cells #[.int .i64 (W : Int)] 165))
  generalize (((w.setCell ⟨bl, 2, none⟩ (.slice na n nc)).alloc (.cells #[.int .i64 k, .int .i64 s] 23)).alloc (.cells #[.int .i64 (W : Int)] 165)) = w3 at *
  have H3 := Aside.mk (H1.out.below B3.out)
  have K3 := Aside.mk (K1.out.trans (Kept.of_below (S := fun b => b = bl) B3.out) (fun _ e _ => e))
  have hf3 := fun k => frozen_blk (k := k) H3.out.blk
  clear a0 a1 a2 a3 a4 a5 hf0
  obtain ⟨a0, a1, a2, a3, a4, a5⟩ := box6 H3.out.blk
  have hx := cell_blk (k := 0) hx3.out
  simp at hx
  have HF := Aside.mk (H3.out.turn_data (dv' := .slice da m dc) (data' := data.take m) (own_front (n := dn) (by have := H3.out.data; rw [HDN.out] at this; exact this) hd))
  go_region
  go_wp2
  go_ret
  refine ⟨rfl, (HF.out.1).drewN 1, ?_⟩
  exact K3.out.trans (HF.out.2.trans (Kept.of_below (S := fun b => b = bl) (below_drewN _ _ 1)) (fun _ e _ => e)) (fun _ e _ => e)
theorem back_running (bl lw : Nat) (s : Int) (nulls : List Bool) (data ends : List Int) (na da ea : Option Addr) (nn nc dn dc en ec : Nat) (hnn : nulls.length = nn) (hdn : data.length = dn) (hen : ends.length = en) (n m : Nat) (hn : n ≤ nn) (hne : n ≤ en) (hd : m ≤ dn) (ha : aheadI (ends.take n) n = (m : Int)) (hl : dn ≤ 100000000) (hl2 : nn ≤ 100000000) (hl3 : en ≤ 100000000) (w : World)
    (h : IsB w bl lw 0 15 s nulls data ends (.slice na nn nc) (.slice da dn dc) (.slice ea en ec)) :
    Calls Tryz.prog 31 #[.pointer (some ⟨bl, 0, none⟩), .int .i64 (n : Int)] w (BackP bl lw 15 s (nulls.take n) (data.take m) (ends.take n) (.slice na n nc) (.slice da m dc) (.slice ea n ec) w) := by
  subst hnn
  subst hdn
  subst hen
  have hs1 := fun W' => own_slice_to h.nulls Tryz.underlying140 (q := 1) (by kernel_rfl) hn W'
  have hs2 := fun W' => own_slice_to h.data Tryz.underlying43 (q := 1) (by kernel_rfl) hd W'
  have hs3 := fun W' => own_slice_to h.ends Tryz.underlying61 (q := 1) (by kernel_rfl) hne W'
  obtain ⟨T1, T2⟩ := h.turn_nulls (own_front h.nulls hn)
  obtain ⟨a0, a1, a2, a3, a4, a5⟩ := box6 h.blk
  have hf0 := fun k => frozen_blk (k := k) h.blk
  have H1 := Aside.mk T1
  have K1 := Aside.mk T2
  clear h T1 T2
  have ta1 := assert_running2
  generalize hnn : nulls.length = nn at *
  generalize hdn : data.length = dn at *
  generalize hen : ends.length = en at *
  have HNN := Aside.mk hnn
  have HDN := Aside.mk hdn
  have HEN := Aside.mk hen
  have HA := Aside.mk ha
  clear hnn hdn hen ha
  go_enter Tryz.func31, Tryz.ntmps31
  go_wp2_with (go_at_call 86; refine (of_running s _).mono ?_; rintro e w1 ⟨rfl, rfl⟩; clear hf0 a0 a1 a2 a3 a4 a5; have B3 := Aside.mk (below_new (w.setCell ⟨bl, 2, none⟩ (.slice na n nc)) (.cells #[.int .i64 15, .int .i64 s] 23)); generalize ((w.setCell ⟨bl, 2, none⟩ (.slice na n nc)).alloc (.cells #[.int .i64 15, .int .i64 s] 23)) = w3 at *; have H3 := Aside.mk (H1.out.below B3.out); have K3 := Aside.mk (K1.out.trans (Kept.of_below (S := fun b => b = bl) B3.out) (fun _ e _ => e)); have hf3 := fun k => frozen_blk (k := k) H3.out.blk; have hbl3 := lt_of_blk H3.out.blk; obtain ⟨a0, a1, a2, a3, a4, a5⟩ := box6 H3.out.blk)
  obtain ⟨T3, T4⟩ := H3.out.turn_ends (ev' := .slice ea n ec) (ends' := ends.take n) (own_front (n := en) (by have := H3.out.ends; rw [HEN.out] at this; exact this) hne)
  have B4 := Aside.mk (below_new (w3.setCell ⟨bl, 4, none⟩ (.slice ea n ec)) (.cells #[] 162))
  have K4 := Aside.mk (K3.out.trans T4 (fun _ e _ => e))
  have H4 := Aside.mk (T3.below B4.out)
  clear T3 T4 a0 a1 a2 a3 a4 a5 hbl3
  generalize ((w3.setCell ⟨bl, 4, none⟩ (.slice ea n ec)).alloc (.cells #[] 162)) = w4 at *
  replace K4 := Aside.mk (K4.out.trans (Kept.of_below (S := fun b => b = bl) B4.out) (fun _ e _ => e))
  obtain ⟨a0, a1, a2, a3, a4, a5⟩ := box6 H4.out.blk
  have hlt : (ends.take n).length = n := by have := HEN.out; rw [List.length_take]; omega
  have HC := Aside.mk (show Calls Tryz.prog 87 #[.agg #[.int .i64 0, .int .i64 0, .int .i64 0, .int .i64 0, .slice none 0 0, .slice none 0 0, .slice ea n ec, .slice none 0 0], .int .i64 (n : Int)] w4.drew (IntP (m : Int) w4.drew) from by
    have := cahead_any ⟨0, 0, 0, 0, [], [], ends.take n, []⟩ ⟨none, 0⟩ ⟨none, 0⟩ ⟨ea, ec⟩ ⟨none, 0⟩ n (by show n ≤ (ends.take n).length; omega) (by show (ends.take n).length ≤ _; omega) w4.drew (by
      have := (H4.out.ends.rd).below (below_drewN w4 _ 1)
      rw [hlt] at this
      show Rd w4.drew 1 (.slice ea (ends.take n).length ec) (ends.take n).length _
      rw [hlt]; exact this)
    dsimp only [colV] at this
    rw [hlt, HA.out] at this
    exact this)
  clear hlt
  go_region_law ((refine step_call (P := Tryz.prog) w4.drew (by rfl) 87 [.tmp 57, .tmp 58] _ (by rfl) [.agg #[.int .i64 0, .int .i64 0, .int .i64 0, .int .i64 0, .slice none 0 0, .slice none 0 0, .slice ea n ec, .slice none 0 0], .int .i64 (n : Int)] (by rfl) (fun _ _ => rfl) HC.out ?_; rintro e wc ⟨rfl, hbc⟩; have HBC := Aside.mk (show Below w4.heap.size w4 wc from (below_drewN w4 _ 1).trans hbc); have HX := Aside.mk (H4.out.below HBC.out); obtain ⟨d0, d1, d2, d3, d4, d5⟩ := box6 HX.out.blk; have hf5 := fun k => frozen_blk (k := k) HX.out.blk; clear hbc; refine ⟨_, rfl, ?_⟩))
  all_goals
    obtain ⟨T5, T6⟩ := HX.out.turn_data (dv' := .slice da m dc) (data' := data.take m) (own_front (n := dn) (by have := HX.out.data; rw [HDN.out] at this; exact this) hd)
    have HF := Aside.mk (And.intro T5 T6)
    clear T5 T6
    go_wp2
    go_ret
    refine ⟨rfl, HF.out.1, ?_⟩
    exact (K4.out.trans (Kept.of_below (S := fun b => b = bl) HBC.out) (fun _ e _ => e)).trans HF.out.2 (fun _ e _ => e)
def BackCP (T : Nat → Prop) (bl lw : Nat) (s : Int) (nulls : List Bool) (data ends : List Int) (ws : List (List Int)) (nv dv ev : Value) (w : World) (e : Ending) (w' : World) : Prop :=
  e = .returned (.int .i64 0) ∧ IsB w' bl lw 0 16 s nulls data ends nv dv ev ∧ WL w' T lw ws ∧ Kept (fun b => b = bl ∨ T b) w w'
theorem back_coded (T : Nat → Prop) (ws : List (List Int)) (q : Nat → Nat) (bl lw : Nat) (s : Int) (nulls : List Bool) (data ends : List Int) (na da ea : Option Addr) (nn nc dn dc en ec : Nat) (hnn : nulls.length = nn) (hdn : data.length = dn) (n : Nat) (hn : n ≤ nn) (hd : n * 4 ≤ dn) (hl : dn ≤ 100000000) (hl2 : nn ≤ 100000000) (hb : IsBytes data) (hq0 : q 0 = 0) (hq1 : ∀ i, i < n → nulls[i]? = some true → q (i + 1) = q i) (hq2 : ∀ i, i < n → nulls[i]? = some false → q (i + 1) = max (q i) (wordAt (data.take (n * 4)) (i * 4) 4 + 1) ∧ wordAt (data.take (n * 4)) (i * 4) 4 ≤ 100000000) (hq3 : ∀ i, i ≤ n → q i ≤ ws.length) (hws : ws.length ≤ 100000000) (hwl : ∀ t ∈ ws, t.length ≤ 100000000) (w : World)
    (h : IsB w bl lw 0 16 s nulls data ends (.slice na nn nc) (.slice da dn dc) (.slice ea en ec)) (hL : WL w T lw ws) (hT : ∀ b, T b → b ≠ bl ∧ (Value.slice na 0 0).ownBlock ≠ some b ∧ (Value.slice da 0 0).ownBlock ≠ some b ∧ (Value.slice ea 0 0).ownBlock ≠ some b) :
    Calls Tryz.prog 31 #[.pointer (some ⟨bl, 0, none⟩), .int .i64 (n : Int)] w (BackCP T bl lw s (nulls.take n) (data.take (n * 4)) ends (ws.take (q n)) (.slice na n nc) (.slice da (n * 4) dc) (.slice ea en ec) w) := by
  subst hnn
  subst hdn
  have hs1 := fun W' => own_slice_to h.nulls Tryz.underlying140 (q := 1) (by kernel_rfl) hn W'
  have hs2 := fun W' => own_slice_to h.data Tryz.underlying43 (q := 1) (by kernel_rfl) hd W'
  obtain ⟨T1, T2⟩ := h.turn_nulls (own_front h.nulls hn)
  obtain ⟨a0, a1, a2, a3, a4, a5⟩ := box6 h.blk
  have hbl := lt_of_blk h.blk
  have hf0 := fun k => frozen_blk (k := k) h.blk
  have H0 := Aside.mk h
  have H1 := Aside.mk T1
  have K1 := Aside.mk T2
  clear h T1 T2
  have HQ1 := Aside.mk hq1
  have HQ2 := Aside.mk hq2
  have HQ3 := Aside.mk hq3
  have HL := Aside.mk hL
  have HT := Aside.mk hT
  have HB := Aside.mk hb
  have HWL := Aside.mk hwl
  clear hq1 hq2 hq3 hL hT hb hwl
  have ta1 := assert_running3
  have ta2 := assert_fixed3
  have ta3 := assert_coded3
  generalize hnn : nulls.length = nn at *
  generalize hdn : data.length = dn at *
  have HNN := Aside.mk hnn
  have HDN := Aside.mk hdn
  clear hnn hdn
  have hmul : IntKind.i64.wrap ((n : Int) * 4) = ((n * 4 : Nat) : Int) := by
    have e : (n : Int) * 4 = ((n * 4 : Nat) : Int) := by simp
    rw [e]
    exact IntWalk.i64_in _ (by omega)
  have hmul0 : (n : Int) * 4 = ((n * 4 : Nat) : Int) := by simp
  generalize hm4 : n * 4 = m at *
  have HM := Aside.mk hm4
  clear hm4
  go_enter Tryz.func31, Tryz.ntmps31
  go_wp2_with (first | (go_at_call 86; refine (of_coded s _).mono ?_; rintro e w1 ⟨rfl, rfl⟩))
  have B3 := Aside.mk (show Below (w.setCell ⟨bl, 2, none⟩ (.slice na n nc)).heap.size (w.setCell ⟨bl, 2, none⟩ (.slice na n nc)) (((w.setCell ⟨bl, 2, none⟩ (.slice na n nc)).alloc (.cells #[  .int .i64 16, .int .i64 s] 23)).alloc (.cells #[.int .i64 4] 167)) from ((Below.refl _ _).alloc (Nat.le_refl _) _).alloc (by simp) _)
  have hx3 := Aside.mk (show (((w.setCell ⟨bl, 2, none⟩ (.slice na n nc)).alloc (.cells #[  .int .i64 16, .int .i64 s] 23)).alloc (.cells #[.int .i64 4] 167)).heap[w.heap.size + 1]? = some (.cells #[.int .i64 4] 167 (0, 0)) from by
    simpa using heap_alloc_new ((w.setCell ⟨bl, 2, none⟩ (.slice na n nc)).alloc (.cells #[  .int .i64 16, .int .i64 s] 23)) (.cells #[.int .i64 4] 167))
  generalize (((w.setCell ⟨bl, 2, none⟩ (.slice na n nc)).alloc (.cells #[  .int .i64 16, .int .i64 s] 23)).alloc (.cells #[.int .i64 4] 167)) = w3 at *
  have H3 := Aside.mk (H1.out.below B3.out)
  have K3 := Aside.mk (K1.out.trans (Kept.of_below (S := fun b => b = bl) B3.out) (fun _ e _ => e))
  have hf3 := fun k => frozen_blk (k := k) H3.out.blk
  clear a0 a1 a2 a3 a4 a5 hf0
  obtain ⟨a0, a1, a2, a3, a4, a5⟩ := box6 H3.out.blk
  have hx := cell_blk (k := 0) hx3.out
  simp at hx
  have HF := Aside.mk (H3.out.turn_data (dv' := .slice da m dc) (data' := data.take m) (own_front (n := dn) (by have := H3.out.data; rw [HDN.out] at this; exact this) hd))
  go_region
  have H5 := Aside.mk ((HF.out.1).drewN 1)
  have K5 := Aside.mk (K3.out.trans (HF.out.2.trans (Kept.of_below (S := fun b => b = bl) (below_drewN _ _ 1)) (fun _ e _ => e)) (fun _ e _ => e))
  have hx5 := Aside.mk (show ((w3.setCell ⟨bl, 3, none⟩ (.slice da m dc)).drew).heap[w.heap.size + 1]? = some (.cells #[.int .i64 4] 167 (0, 0)) from by
    show (w3.setCell ⟨bl, 3, none⟩ (.slice da m dc)).heap[w.heap.size + 1]? = _
    rw [Below.heap_setCell _ _ _ _ (by simp; omega)]
    exact hx3.out)
  have e1 : ∀ W : World, W.drewN 1 = W.drew := fun _ => rfl
  rw [e1] at H5 K5
  clear HF H3 K3 hx3 B3 hf3 a0 a1 a2 a3 a4 a5 hx e1
  generalize (w3.setCell ⟨bl, 3, none⟩ (.slice da m dc)).drew = w5 at *
  obtain ⟨a0, a1, a2, a3, a4, a5⟩ := box6 H5.out.blk
  go_wp2_with fail
  have hm8 : m ≤ 100000000 := by omega
  clear a0 a1 a2 a3 a4 a5 hs1 hs2 ta1 ta2 ta3 hmul hmul0
  go_loopw [8, 99] (fun qv iv wr => ∃ i : Nat, i ≤ n ∧ iv = .int .i64 (i : Int) ∧ qv = .int .i64 (q i : Int) ∧ Aside (Below w5.heap.size w5 wr)) (fun _ iv _ => n - (intOf iv).toNat)
  case atStart => exact ⟨0, by omega, rfl, by rw [hq0]; rfl, ⟨Below.refl _ _⟩⟩
  case round =>
    obtain ⟨i, hi, rfl, rfl, hp⟩ := hrel
    have HR := Aside.mk (H5.out.below hp.out)
    obtain ⟨a0, a1, a2, a3, a4, a5⟩ := box6 HR.out.blk
    by_cases hlt : i < n
    · have hnl : (nulls.take n).length = n := by have := HNN.out; rw [List.length_take]; omega
      have hrn := HR.out.nulls.rd
      rw [hnl] at hrn
      obtain ⟨g, off, cap, e, hl1, hl2', hcc⟩ := hrn.some_ (by rw [List.length_map]; omega)
      simp only [Value.slice.injEq, true_and] at e
      obtain ⟨e1, e2⟩ := e
      subst e1 e2
      have hil : i < nulls.length := by have := HNN.out; omega
      have hci : wr.cell? ⟨g, off + i, none⟩ = some (.bool nulls[i]) := hcc i _ (by rw [List.getElem?_map, List.getElem?_take, if_pos hlt, List.getElem?_eq_getElem hil]; rfl)
      have hgi : nulls[i]? = some nulls[i] := List.getElem?_eq_getElem hil
      clear hcc hrn
      generalize nulls[i] = bv at *
      cases bv with
      | true =>
        have HE := Aside.mk (HQ1.out i hlt hgi)
        clear hgi
        go_wp2_with fail
        exact ⟨⟨i + 1, by omega, by simp, by rw [HE.out], hp⟩, by simp [intOf]; omega⟩
      | false =>
        obtain ⟨he1, he2⟩ := HQ2.out i hlt hgi
        have HE := Aside.mk he1
        have hxb := (hp.out.block _ (lt_of_blk hx5.out)).trans hx5.out
        have hx0 := cell_blk (k := 0) hxb
        simp at hx0
        have hdl : (data.take m).length = m := by have := HDN.out; rw [List.length_take]; omega
        have HC := Aside.mk (show Calls Tryz.prog 88 #[.agg #[.int .i64 4], .agg #[.int .i64 0, .int .i64 0, .int .i64 0, .int .i64 0, .slice none 0 0, .slice da m dc, .slice none 0 0, .slice none 0 0], .int .i64 (i : Int)] wr.drew (U64P (wordAt (data.take m) (i * 4) 4) wr.drew) from by
          have := fword_any 4 (.inr (.inr (.inl rfl))) ⟨0, 0, 0, 0, [], data.take m, [], []⟩ ⟨none, 0⟩ ⟨da, dc⟩ ⟨none, 0⟩ ⟨none, 0⟩ i (by show i * 4 + 4 ≤ (data.take m).length; have := HM.out; omega) (fun x hx => HB.out x (List.mem_of_mem_take hx)) (by show (data.take m).length ≤ _; omega) wr.drew (by
            have := (HR.out.data.rd).below (below_drewN wr _ 1)
            rw [hdl] at this
            show Rd wr.drew 1 (.slice da (data.take m).length dc) (data.take m).length _
            rw [hdl]; exact this)
          dsimp only [colV] at this
          rw [hdl] at this
          exact this)
        generalize wordAt (data.take m) (i * 4) 4 = y at *
        have hwr : IntKind.i64.wrap (y : Int) = (y : Int) := IntWalk.i64_in _ (by omega)
        have hws2 : IntKind.i64.wrap ((y : Int) + 1) = (y : Int) + 1 := IntWalk.i64_in _ (by omega)
        have hq8 := HQ3.out i hi
        clear he1 hgi hdl hnl
        go_wp2_with fail
        go_region_law ((refine step_call (P := Tryz.prog) wr.drew (by rfl) 88 [.tmp 108, .tmp 113, .tmp 114] _ (by rfl) [.agg #[.int .i64 4], .agg #[.int .i64 0, .int .i64 0, .int .i64 0, .int .i64 0, .slice none 0 0, .slice da m dc, .slice none 0 0, .slice none 0 0], .int .i64 (i : Int)] (by rfl) (fun _ _ => rfl) HC.out ?_; rintro e wc ⟨rfl, hbc⟩; have HBC := Aside.mk (show Below w5.heap.size w5 wc from below_chain (hp.out.trans (below_drewN wr _ 1)) hbc); clear hbc; refine ⟨_, rfl, ?_⟩))
        all_goals
          go_wp2_with fail
          refine ⟨⟨i + 1, by omega, by simp, ?_, HBC⟩, by simp [intOf]; omega⟩
          rw [HE.out]
          congr 1
          split <;> omega
    · have hin : n = i := by omega
      subst hin
      have HDB := Aside.mk (dback_any T lw ws (q n) (HQ3.out n (Nat.le_refl _)) hws HWL.out wr ((HL.out.kept K5.out (fun b hb _ => (HT.out b hb).1)).below hp.out))
      go_wp2_with (go_at_call 89; refine HDB.out.mono ?_; rintro e w7 ⟨rfl, hl7, hk7⟩; have H7 := Aside.mk (And.intro hl7 hk7); clear hl7 hk7)
      go_ret
      have ho : ∀ (a : Option Addr) (x y : Nat), (Value.slice a x y).ownBlock = (Value.slice a 0 0).ownBlock := fun a _ _ => by cases a <;> rfl
      refine ⟨rfl, HR.out.kept H7.out.2 (fun h => (HT.out _ h).1 rfl) (fun b hb h => ?_) H7.out.1.lst, H7.out.1, ?_⟩
      · obtain ⟨_, h2, h3, h4⟩ := HT.out _ h
        rw [ho na, ho da, ho ea] at hb
        rcases hb with e | e | e
        · exact h2 e
        · exact h3 e
        · exact h4 e
      · exact ((K5.out.trans (Kept.of_below (S := fun b => b = bl) hp.out) (fun _ e _ => e)).mono (fun b e _ => .inl e)).trans H7.out.2 (fun b e _ => .inr e)
theorem own_len0 (a : Option Addr) (x y : Nat) : (Value.slice a x y).ownBlock = (Value.slice a 0 0).ownBlock := by cases a <;> rfl
theorem back_BS (S : Nat → Prop) (bl : Nat) (k s : Int) (l : List V) (ho : okType k s = true) (hf : Few l) (hl : ∀ v ∈ l, vOK k s v) (n : Nat) (hn : n ≤ l.length) (w : World) (h : BS w S bl k s (CS.of k l)) :
    Calls Tryz.prog 31 #[.pointer (some ⟨bl, 0, none⟩), .int .i64 (n : Int)] w (StepP S bl k s (CS.of k (l.take n)) (.int .i64 0) w) := by
  obtain ⟨lw, nv, dv, ev, T, h⟩ := h
  obtain ⟨na, nc, rfl⟩ := h.b.nulls.form
  obtain ⟨da, dc, rfl⟩ := h.b.data.form
  obtain ⟨ea, ec, rfl⟩ := h.b.ends.form
  obtain ⟨s1, s2, s3, s4⟩ := of_sizes k l hf.2
  have hwl := of_words k l hf.2
  obtain ⟨f1, f2, f3, f4⟩ := of_front k l n
  have hll : (l.take n).length = n := by rw [List.length_take]; omega
  have h20 := hf.1
  rw [nulls_len, hll] at f1
  have fin : ∀ (m q : Nat) (e : Ending) (w' : World), (CS.of k l).data.take m = (CS.of k (l.take n)).data → e = .returned (.int .i64 0) → (∃ x, IsB w' bl lw 0 k s ((CS.of k l).nulls.take n) ((CS.of k l).data.take m) (CS.of k (l.take n)).ends (.slice na n nc) (.slice da m dc) (.slice ea x ec)) → WL w' T lw (CS.of k (l.take n)).words → Kept (fun b => b = bl ∨ T b) w w' → StepP S bl k s (CS.of k (l.take n)) (.int .i64 0) w e w' := by
    rintro m q e w' hd rfl ⟨x, hb⟩ hL hk
    rw [hd, ← f1] at hb
    refine ⟨rfl, ⟨lw, _, _, _, T, hb, hL, fun y hy => ?_, .inl h.sb, fun y hy => .inl (h.sn y ?_)⟩, hk.mono (fun b e _ => e.elim (fun e => e ▸ h.sb) (fun e => (h.ts b e).1))⟩
    · obtain ⟨a0, a1, a2, a3, a4, a5⟩ := h.ts y hy
      rw [own_len0] at a3 a4 a5
      exact ⟨.inl a0, Nat.lt_of_lt_of_le a1 hk.size, a2, by rw [own_len0]; exact a3, by rw [own_len0]; exact a4, by rw [own_len0]; exact a5⟩
    · rw [own_len0 na, own_len0 da, own_len0 ea] at hy ⊢
      exact hy
  by_cases h15 : k = 15
  · subst h15
    obtain ⟨r1, r2, r3, r4⟩ := running_len l n hn
    have e1 : (CS.of 15 l).ends.length = l.length := (running_ends l).1
    rw [r1] at f3
    refine (back_running bl lw s (CS.of 15 l).nulls (CS.of 15 l).data (CS.of 15 l).ends na da ea _ nc _ dc _ ec rfl rfl rfl n (CS.of 15 (l.take n)).data.length (by omega) (by omega) (by rw [f2, List.length_take]; omega) (by rw [← f3]; exact r2) (by omega) (by omega) (by omega) w h.b).mono ?_
    rintro e w' ⟨rfl, hb, hk⟩
    refine fin _ 0 _ w' f2.symm rfl ⟨n, by rw [f3]; exact hb⟩ ?_ (hk.mono (fun b e _ => .inl e))
    rw [r3, ← r4]
    exact h.l.kept hk (fun b hb _ e => (h.ts b hb).2.2.1 e)
  by_cases h16 : k = 16
  · subst h16
    obtain ⟨r1, r2, r3⟩ := coded_len (l.take n)
    obtain ⟨t1, t2, t3⟩ := coded_len l
    rw [hll] at r1
    rw [r1] at f2
    refine (back_coded T (CS.of 16 l).words (fun i => (wordsOf [] (l.take i)).length) bl lw s (CS.of 16 l).nulls (CS.of 16 l).data (CS.of 16 l).ends na da ea _ nc _ dc _ ec rfl rfl n (by omega) (by omega) (by omega) (by omega) ?_ rfl ?_ ?_ ?_ (by omega) (fun t ht => Nat.le_trans (hwl t ht) (by decide)) w h.b h.l ?_).mono ?_
    · rw [coded_of]; intro x hx
      obtain ⟨y, _, hx⟩ := List.mem_flatMap.1 hx
      exact lows_bytes _ _ x hx
    · intro i hi hb
      rw [nulls_of, List.getElem?_map, List.getElem?_eq_getElem (by omega)] at hb
      rw [need_step l i (by omega), if_pos (by simpa using hb)]
    · intro i hi hb
      rw [nulls_of, List.getElem?_map, List.getElem?_eq_getElem (by omega)] at hb
      have hb : l[i].null = false := by simpa using hb
      rw [need_step l i (by omega), need_word l n i (by omega) hi hn, hb]
      refine ⟨rfl, ?_⟩
      have := codeOf_le (wordsOf [] (l.take i)) l[i].text
      have h2 := words_len (l.take i) []
      rw [List.length_take] at h2
      simp at h2 ⊢
      omega
    · intro i hi
      rw [t3]
      have := words_pre (l.drop i) (wordsOf [] (l.take i))
      rw [← words_app, List.take_append_drop] at this
      exact this.length_le
    · intro b hb
      obtain ⟨a0, a1, a2, a3, a4, a5⟩ := h.ts b hb
      rw [own_len0] at a3 a4 a5
      exact ⟨a2, a3, a4, a5⟩
    · rintro e w' ⟨rfl, hb, hL, hk⟩
      refine fin _ 0 _ w' f2.symm rfl ⟨_, by rw [r2, ← t2]; exact hb⟩ ?_ hk
      rw [f4, r3]; exact hL
  · obtain ⟨W, hW, _, hW8⟩ := width_pos ho h15
    obtain ⟨r1, r2, r3⟩ := fixed_len h15 h16 hW (l.take n)
    obtain ⟨t1, t2, t3⟩ := fixed_len h15 h16 hW l
    rw [hll] at r1
    rw [r1] at f2
    refine (back_fixed bl lw k s (by simpa using h15) (by simpa using h16) W hW hW8 (CS.of k l).nulls (CS.of k l).data (CS.of k l).ends na da ea _ nc _ dc _ ec rfl rfl n (by omega) (by rw [t1]; exact Nat.mul_le_mul_right _ hn) (by omega) (by omega) w h.b).mono ?_
    rintro e w' ⟨rfl, hb, hk⟩
    refine fin _ 0 _ w' f2.symm rfl ⟨_, by rw [r2, ← t2]; exact hb⟩ ?_ (hk.mono (fun b e _ => .inl e))
    rw [r3, ← t3]
    exact h.l.kept hk (fun b hb _ e => (h.ts b hb).2.2.1 e)
end Go.Proofs.YtmhjjhaipcgbiaaGreat


namespace Go.Proofs.YtmhjjhaipcgbiaaGreat
open Go.RowKit
set_option linter.unusedVariables false
set_option linter.unusedSimpArgs false
set_option maxRecDepth 100000
set_option maxHeartbeats 1000000
theorem left_plain {P : Program} {fn : Func} {tmps : Array Value} {R : Ending → World → Prop} {W : World} {v : Value} (hr : (results fn tmps).run P W = .ok v W) (h : R (.returned v) W) :
    LeavesInM Fence.wide 9 P fn tmps R [] .returning W := ⟨v, hr, h⟩
theorem BS.cells {w : World} {S : Nat → Prop} {bl : Nat} {k s : Int} {c : CS} (h : BS w S bl k s c) : w.cell? ⟨bl, 0, none⟩ = some (.int .i64 k) ∧ w.cell? ⟨bl, 1, none⟩ = some (.int .i64 s) ∧ ∃ na nc, w.cell? ⟨bl, 2, none⟩ = some (.slice na c.nulls.length nc) := by
  obtain ⟨lw, nv, dv, ev, T, h⟩ := h
  obtain ⟨na, nc, e⟩ := h.b.nulls.form
  refine ⟨?_, ?_, na, nc, ?_⟩
  · rw [cell_blk h.b.blk]; rfl
  · rw [cell_blk h.b.blk]; rfl
  · rw [cell_blk h.b.blk, e]; rfl
def NewNP (w : World) (e : Ending) (w' : World) : Prop := e = .returned (.tuple #[.pointer none, .int .i64 170]) ∧ Below w.heap.size w w'
theorem new_no (k s : Int) (w : World) (h : okType k s = false) : Calls Tryz.prog 11 #[.agg #[.int .i64 k, .int .i64 s]] w (NewNP w) := by
  have HC := Aside.mk (fun W => show Calls Tryz.prog 70 #[.agg #[.int .i64 k, .int .i64 s]] W fun e w' => e = .returned (.int .i64 170) ∧ Below W.heap.size W w' from by have := checkType_any k s W; rwa [h] at this)
  clear h
  go_enter Tryz.func11, Tryz.ntmps11
  go_wp2_with (go_at_call 70; refine (HC.out _).mono ?_; rintro e w1 ⟨rfl, hb1⟩; have HB1 := Aside.mk hb1; clear hb1)
  go_ret2
  exact ⟨rfl, (below_new w _).trans (HB1.out.mono (by simp))⟩
theorem put_word (S : Nat → Prop) (bl : Nat) (k s : Int) (c : CS) (X : Nat) (hk : wordedB k = true) (w : World) (h : BS w S bl k s c) :
    Calls Tryz.prog 17 #[.pointer (some ⟨bl, 0, none⟩), .int .u64 (X : Int)] w (IntP 170 w) := by
  have HT := Aside.mk (texts_BS S bl k s c w h)
  rw [hk] at HT
  clear h hk
  go_enter Tryz.func17, Tryz.ntmps17
  go_wp2_with (go_at_call 73; refine HT.out.mono ?_; rintro e w1 ⟨rfl, rfl⟩)
  go_ret
  exact ⟨rfl, Below.refl _ _⟩
theorem put_bad (S : Nat → Prop) (bl : Nat) (k s : Int) (c : CS) (X : Nat) (hX : X < 18446744073709551616) (hk : wordedB k = false) (hf : fitsB k s X = false) (w : World) (h : BS w S bl k s c) :
    Calls Tryz.prog 17 #[.pointer (some ⟨bl, 0, none⟩), .int .u64 (X : Int)] w (IntP 172 w) := by
  have HT := Aside.mk (texts_BS S bl k s c w h)
  rw [hk] at HT
  obtain ⟨hc0, hc1, _⟩ := h.cells
  have HF := Aside.mk (fun W => show Calls Tryz.prog 74 #[.agg #[.int .i64 k, .int .i64 s], .int .u64 (X : Int)] W (FitsP false W) from by have := fits_any k s X (by omega) (by omega) W; rwa [hf] at this)
  clear h hk hf
  go_enter Tryz.func17, Tryz.ntmps17
  go_wp2_with (first | (go_at_call 73; refine HT.out.mono ?_; rintro e w1 ⟨rfl, rfl⟩) | (go_at_call 74; refine (HF.out _).mono ?_; rintro e w2 ⟨rfl, hb2⟩; have B2 := Aside.mk hb2; clear hb2))
  go_ret
  exact ⟨rfl, B2.out⟩
theorem text_no (S : Nat → Prop) (bl : Nat) (k s : Int) (c : CS) (v : Value) (hk : wordedB k = false) (w : World) (h : BS w S bl k s c) :
    Calls Tryz.prog 21 #[.pointer (some ⟨bl, 0, none⟩), v] w (IntP 170 w) := by
  have HT := Aside.mk (texts_BS S bl k s c w h)
  rw [hk] at HT
  clear h hk
  go_enter Tryz.func21, Tryz.ntmps21
  go_wp2_with (go_at_call 73; refine HT.out.mono ?_; rintro e w1 ⟨rfl, rfl⟩)
  go_ret
  exact ⟨rfl, Below.refl _ _⟩
theorem back_no (S : Nat → Prop) (bl : Nat) (k s : Int) (c : CS) (n : Int) (hm : c.nulls.length ≤ 100000000) (hn : n < 0 ∨ (c.nulls.length : Int) < n) (w : World) (h : BS w S bl k s c) :
    Calls Tryz.prog 31 #[.pointer (some ⟨bl, 0, none⟩), .int .i64 n] w (IntP 173 w) := by
  obtain ⟨hc0, hc1, na, nc, hc2⟩ := h.cells
  clear h
  by_cases h0 : n < 0
  · clear hn
    go_enter Tryz.func31, Tryz.ntmps31
    go_wp2
    go_ret
    exact ⟨rfl, Below.refl _ _⟩
  · have h1 : (c.nulls.length : Int) < n := by omega
    clear hn
    go_enter Tryz.func31, Tryz.ntmps31
    go_wp2
    go_ret
    exact ⟨rfl, Below.refl _ _⟩
theorem len_BS (S : Nat → Prop) (bl : Nat) (k s : Int) (c : CS) (w : World) (h : BS w S bl k s c) :
    Calls Tryz.prog 33 #[.pointer (some ⟨bl, 0, none⟩)] w fun e w' => e = .returned (.int .i64 (c.nulls.length : Int)) ∧ w = w' := by
  obtain ⟨hc0, hc1, na, nc, hc2⟩ := h.cells
  clear h
  go_enter Tryz.func33, Tryz.ntmps33
  go_wp2
  go_ret
  exact ⟨rfl, rfl⟩
theorem append_no (S : Nat → Prop) (bl : Nat) (k s : Int) (cs : CS) (c : Col) (hc : COK c) (B D E X : SL) (vals : List Value) (hr : checkC c = 0) (ht : ¬ (c.k = k ∧ c.s = s)) (w : World) (h : BS w S bl k s cs) (hcol : RdC w c B D E X vals) :
    Calls Tryz.prog 28 #[.pointer (some ⟨bl, 0, none⟩), colV c B D E X] w (IntP 174 w) := by
  have hck := Aside.mk (fun (w2 : World) (hb : Below w.heap.size w w2) => check_any c hc B D E X vals w2 (hcol.below hb))
  rw [hr] at hck
  have HBC := Aside.mk (fun (w2 : World) (hb : Below w.heap.size w w2) => (h.below hb).cells)
  have hlt := World.block_lt_of_cell? _ _ h.cells.1
  have HT := Aside.mk ht
  clear h hcol hr hc ht
  dsimp only [colV] at hck ⊢
  refine calls_of_marks Tryz.func28 rfl ?_; simp only [Tryz.ntmps28, List.size_toArray, List.length_cons, List.length_nil, Nat.reduceAdd, Nat.reduceSub, Array.replicate_succ, Array.replicate_zero, List.push_toArray, List.append_toArray, List.nil_append, List.cons_append]
  go_wp2_with fail
  obtain ⟨t1, t2, t3, t4⟩ := below_two w (.cells #[.pointer (some ⟨bl, 0, none⟩)] 25 (0, 0)) (.cells #[.int .i64 c.k, .int .i64 c.s, .int .i64 c.n, .int .i64 c.m, .slice B.a c.bits.length B.c, .slice D.a c.data.length D.c, .slice E.a c.ends.length E.c, .slice X.a c.words.length X.c] 63 (0, 0))
  have hg : ∀ W', ((w.alloc (.cells #[.pointer (some ⟨bl, 0, none⟩)] 25)).alloc (.cells #[.int .i64 c.k, .int .i64 c.s, .int .i64 c.n, .int .i64 c.m, .slice B.a c.bits.length B.c, .slice D.a c.data.length D.c, .slice E.a c.ends.length E.c, .slice X.a c.words.length X.c] 63)) = W' → Below w.heap.size w W' ∧ W'.heap.size = w.heap.size + 2 ∧ W'.heap[w.heap.size]? = some (.cells #[.pointer (some ⟨bl, 0, none⟩)] 25 (0, 0)) ∧ W'.heap[w.heap.size + 1]? = some (.cells #[.int .i64 c.k, .int .i64 c.s, .int .i64 c.n, .int .i64 c.m, .slice B.a c.bits.length B.c, .slice D.a c.data.length D.c, .slice E.a c.ends.length E.c, .slice X.a c.words.length X.c] 63 (0, 0)) := fun W' e => e ▸ ⟨t1, t2, t3, t4⟩
  clear t1 t2 t3 t4
  generalize ((w.alloc (.cells #[.pointer (some ⟨bl, 0, none⟩)] 25)).alloc (.cells #[.int .i64 c.k, .int .i64 c.s, .int .i64 c.n, .int .i64 c.m, .slice B.a c.bits.length B.c, .slice D.a c.data.length D.c, .slice E.a c.ends.length E.c, .slice X.a c.words.length X.c] 63)) = w2 at *
  obtain ⟨t1, t2, t3, t4⟩ := hg w2 rfl
  have B2 := Aside.mk t1
  have H3 := Aside.mk t3
  have H4 := Aside.mk t4
  clear t1 t2 t3 t4 hg
  refine (hck.out _ B2.out).mono ?_
  rintro e w3 ⟨rfl, hb3⟩
  have B3 := Aside.mk (below_chain B2.out hb3)
  replace H3 := Aside.mk ((hb3.block _ (lt_of_blk H3.out)).trans H3.out)
  replace H4 := Aside.mk ((hb3.block _ (lt_of_blk H4.out)).trans H4.out)
  clear hb3
  obtain ⟨c0, c1, c2, c3, c4, c5, c6, c7⟩ := box8 H4.out
  have d0 : w3.cell? ⟨w.heap.size, 0, none⟩ = some (.pointer (some ⟨bl, 0, none⟩)) := by rw [cell_blk H3.out]; rfl
  obtain ⟨e0, e1, _⟩ := HBC.out w3 B3.out
  by_cases hk : c.k = k
  · have d1 : (c.k == k) = true := by simpa using hk
    have d2 : (c.s == s) = false := by have := HT.out; simp; intro e; exact this ⟨hk, e⟩
    clear hk
    go_wp2_with fail
    go_quiet (fail)
    go_wp2_with fail
    refine left_plain (v := .int .i64 174) (by simp [results, Tryz.results28, go_sem]) ⟨rfl, B3.out.trans (below_drewN _ _ _)⟩
  · have d1 : (c.k == k) = false := by simpa using hk
    clear hk
    go_wp2_with fail
    go_quiet (fail)
    go_wp2_with fail
    refine left_plain (v := .int .i64 174) (by simp [results, Tryz.results28, go_sem]) ⟨rfl, B3.out.trans (below_drewN _ _ _)⟩
end Go.Proofs.YtmhjjhaipcgbiaaGreat
