/- Texts of this claim, one behind the other: KeepC, RB, Read18, Read18W, One, RApp, Close0, Close1, Close2. -/
import Derived.Test.YtmhjjhaipcgbiaaGreatBuiP7
import Derived.Test.YtmhjjhaipcgbiaaGreatBuiP5
import Derived.Test.YtmhjjhaipcgbiaaGreatBuiP6
import Derived.Test.YtmhjjhaipcgbiaaGreatBuiP2
import Derived.BigQuiet
import Derived.Deep.QuietTactic
import Derived.OrdersHeld
import Derived.Deep.RegionHeld3

/- mintagelaw18.keep: a column's rows are kept in a book. -/
namespace Go.Proofs.YtmhjjhaipcgbiaaGreat
open Go.RowKit
set_option linter.unusedVariables false
set_option linter.unusedSimpArgs false
set_option maxRecDepth 100000
set_option maxHeartbeats 1000000

/-- Where the book lies, with the rows l. -/
def KS (T : Nat → Prop) (l : List Value) (n b : Nat) : Prop := T b ∨ (∃ v ∈ l, v.ownBlock = some b) ∨ n ≤ b
theorem ks_next {T : Nat → Prop} {l : List Value} {bk : Nat} {v : Value} {w1 wr w' : World} {e : Ending} (h : BookP (KS T l w1.heap.size) bk v wr e w') (hk : Kept (KS T l w1.heap.size) w1 wr) : e = .returned (.tuple #[]) ∧ BK w' (KS T (l ++ [v]) w1.heap.size) bk ∧ Kept (KS T (l ++ [v]) w1.heap.size) w1 w' := by
  have hm : ∀ b, KS T l w1.heap.size b → KS T (l ++ [v]) w1.heap.size b := fun b h => h.imp id (fun h => h.imp (fun ⟨u, hu, e⟩ => ⟨u, List.mem_append_left _ hu, e⟩) id)
  refine ⟨h.1, h.2.1.mono (fun b e _ => ?_), (hk.trans h.2.2 (fun b e _ => e)).mono (fun b e _ => hm b e)⟩
  rcases e with h | h | h
  · exact hm b h
  · exact .inr (.inl ⟨v, by simp, h⟩)
  · exact .inr (.inr (Nat.le_trans hk.size h))
/-- A row that is none of them. -/
theorem ks_row {T : Nat → Prop} {l : List Value} {base n : Nat} {E : TypeId} {v : Value} {xs : List Value} {w1 wr : World} (ho : Own w1 base E 1 v n xs) (hT : ∀ b, T b → b < base) (hl : ∀ u ∈ l, ∀ b, v.ownBlock = some b → u.ownBlock ≠ some b) (hk : Kept (KS T l w1.heap.size) w1 wr) :
    Own wr 0 E 1 v n xs ∧ ∀ b, v.ownBlock = some b → ¬ KS T l w1.heap.size b := by
  have h : ∀ b, v.ownBlock = some b → ¬ KS T l w1.heap.size b := fun b e h => by
    rcases h with h | ⟨u, hu, h⟩ | h
    · have := hT b h; have := (ho.lt b e).1; omega
    · exact hl u hu b e h
    · have := (ho.lt b e).2; omega
  exact ⟨(ho.kept hk h).mono (Nat.zero_le _), h⟩
theorem own_types {w : World} {b1 b2 n1 n2 : Nat} {E1 E2 : TypeId} {v1 v2 : Value} {xs1 xs2 : List Value} (h1 : Own w b1 E1 1 v1 n1 xs1) (h2 : Own w b2 E2 1 v2 n2 xs2) (hne : E1 ≠ E2) (b : Nat) (e : v1.ownBlock = some b) : v2.ownBlock ≠ some b := by
  obtain ⟨cur, q⟩ := own_blk h1 e
  exact h2.blk_ne q hne
theorem own_same0 {a : Option Addr} {x y b : Nat} (e : (Value.slice a x y).ownBlock = some b) : (Value.slice a 0 0).ownBlock = some b := by cases a <;> exact e

/-- The rows ahead of the words. -/
def front3 (c : Col) (B D E : SL) : List Value := [.slice D.a c.data.length D.c, .slice B.a c.bits.length B.c, .slice E.a c.ends.length E.c]
theorem keep_rows {T : Nat → Prop} {c : Col} {B D E X : SL} {vals : List Value} {base : Nat} {w1 : World} (hT : ∀ b, T b → b < base) (hc : OwnC w1 base c B D E X vals) :
    (∀ wr, Kept (KS T [] w1.heap.size) w1 wr → Own wr 0 5 1 (.slice D.a c.data.length D.c) c.data.length (c.data.map (.int .u8)) ∧ ∀ b, (Value.slice D.a c.data.length D.c).ownBlock = some b → ¬ KS T [] w1.heap.size b) ∧
    (∀ wr, Kept (KS T [.slice D.a c.data.length D.c] w1.heap.size) w1 wr → Own wr 0 5 1 (.slice B.a c.bits.length B.c) c.bits.length (c.bits.map (.int .u8)) ∧ ∀ b, (Value.slice B.a c.bits.length B.c).ownBlock = some b → ¬ KS T [.slice D.a c.data.length D.c] w1.heap.size b) ∧
    (∀ wr, Kept (KS T [.slice D.a c.data.length D.c, .slice B.a c.bits.length B.c] w1.heap.size) w1 wr → Own wr 0 3 1 (.slice E.a c.ends.length E.c) c.ends.length (c.ends.map (.int .i64)) ∧ ∀ b, (Value.slice E.a c.ends.length E.c).ownBlock = some b → ¬ KS T [.slice D.a c.data.length D.c, .slice B.a c.bits.length B.c] w1.heap.size b) ∧
    (∀ wr i, Kept (KS T (front3 c B D E ++ vals.take i) w1.heap.size) w1 wr → Own wr 0 43 1 (.slice X.a c.words.length X.c) c.words.length vals) ∧
    (∀ wr i t, c.words[i]? = some t → Kept (KS T (front3 c B D E ++ vals.take i) w1.heap.size) w1 wr → ∃ a cp, vals[i]? = some (.slice a t.length cp) ∧ Own wr 0 5 1 (.slice a t.length cp) t.length (t.map (.int .u8)) ∧ ∀ b, (Value.slice a t.length cp).ownBlock = some b → ¬ KS T (front3 c B D E ++ vals.take i) w1.heap.size b) := by
  have hv : ∀ v ∈ vals, ∃ n xs, Own w1 base 5 1 v n xs := fun v hv => by
    obtain ⟨j, hj, rfl⟩ := List.mem_iff_getElem.1 hv
    have hj2 : j < c.words.length := by have := hc.len; omega
    obtain ⟨a, cp, q1, q2⟩ := hc.each j _ hj2 (List.getElem?_eq_getElem hj2)
    rw [List.getElem?_eq_getElem hj] at q1
    rw [Option.some.inj q1]
    exact ⟨_, _, q2⟩
  refine ⟨fun wr hk => ks_row hc.data hT (by simp) hk, fun wr hk => ks_row hc.bits hT (fun u hu b e => ?_) hk, fun wr hk => ks_row hc.ends hT (fun u hu b e => ?_) hk, fun wr i hk => (ks_row hc.words hT (fun u hu b e => ?_) hk).1, fun wr i t ht hk => ?_⟩
  · simp at hu; subst hu
    exact fun e2 => hc.sep.bd b (own_same0 e) (own_same0 e2)
  · simp at hu
    rcases hu with rfl | rfl
    · exact own_types hc.ends hc.data (by decide) b e
    · exact own_types hc.ends hc.bits (by decide) b e
  · rcases List.mem_append.1 hu with hu | hu
    · simp [front3] at hu
      rcases hu with rfl | rfl | rfl
      · exact own_types hc.words hc.data (by decide) b e
      · exact own_types hc.words hc.bits (by decide) b e
      · exact own_types hc.words hc.ends (by decide) b e
    · obtain ⟨n, xs, q⟩ := hv u (List.mem_of_mem_take hu)
      exact own_types hc.words q (by decide) b e
  · have hi := (List.getElem?_eq_some_iff.1 ht).1
    obtain ⟨a, cp, q1, q2⟩ := hc.each i t hi ht
    have hm : Value.slice a t.length cp ∈ vals := List.mem_of_getElem? q1
    have h := ks_row (l := front3 c B D E ++ vals.take i) q2 hT (fun u hu b e => ?_) hk
    · exact ⟨a, cp, q1, h.1, h.2⟩
    · rcases List.mem_append.1 hu with hu | hu
      · simp [front3] at hu
        rcases hu with rfl | rfl | rfl
        · exact fun e2 => (hc.sep.bw _ hm b e).2 (own_same0 e2)
        · exact fun e2 => (hc.sep.bw _ hm b e).1 (own_same0 e2)
        · exact own_types q2 hc.ends (by decide) b e
      · obtain ⟨j, hj, rfl⟩ := List.mem_iff_getElem.1 hu
        simp at hj
        rw [List.getElem_take]
        exact fun e2 => hc.sep.ww j i _ _ (by omega) (by have := hc.len; omega) (List.getElem?_eq_getElem (by omega)) q1 b e2 e

theorem keep_col (T : Nat → Prop) (bk : Nat) (c : Col) (B D E X : SL) (vals : List Value) (base : Nat) (hT : ∀ b, T b → b < base) (hd : IsBytes c.data) (hb : IsBytes c.bits) (hw : ∀ t ∈ c.words, IsBytes t) (hdl : c.data.length ≤ 100000000) (hbl : c.bits.length ≤ 100000000) (hel : c.ends.length ≤ 100000000) (hwl : ∀ t ∈ c.words, t.length ≤ 100000000) (hwn : c.words.length ≤ 100000000)
    (w : World) (hbase : base ≤ w.heap.size) (h : BK w T bk) (hc : OwnC w base c B D E X vals) :
    Calls Tryz.prog 35 #[.pointer (some ⟨bk, 0, none⟩), colV c B D E X] w (fun e w' => e = .returned (.tuple #[]) ∧ BK w' (fun b => T b ∨ base ≤ b) bk ∧ Kept (fun b => T b ∨ base ≤ b) w w') := by
  obtain ⟨xa, xc⟩ := X
  obtain ⟨w1, ew1⟩ : ∃ x, x = w.alloc (.cells #[.int .i64 c.k, .int .i64 c.s, .int .i64 c.n, .int .i64 c.m, .slice B.a c.bits.length B.c, .slice D.a c.data.length D.c, .slice E.a c.ends.length E.c, .slice xa c.words.length xc] 63) := ⟨_, rfl⟩
  have hsz : w1.heap.size = w.heap.size + 1 := by rw [ew1]; simp
  have hc1 : OwnC w1 base c B D E ⟨xa, xc⟩ vals := by rw [ew1]; exact hc.below (below_new w _)
  have hbk1 : w1.heap[w.heap.size]? = some (.cells #[.int .i64 c.k, .int .i64 c.s, .int .i64 c.n, .int .i64 c.m, .slice B.a c.bits.length B.c, .slice D.a c.data.length D.c, .slice E.a c.ends.length E.c, .slice xa c.words.length xc] 63 (0, 0)) := by rw [ew1]; exact heap_alloc_new w _
  have hb1 : Below w.heap.size w w1 := by rw [ew1]; exact below_new w _
  obtain ⟨r1, r2, r3, r4, r5⟩ := keep_rows hT hc1
  have hvl : ∀ v ∈ front3 c B D E ++ vals, ∀ b, v.ownBlock = some b → base ≤ b ∧ b < w.heap.size := fun v hv b e => by
    rcases List.mem_append.1 hv with hv | hv
    · simp [front3] at hv
      rcases hv with rfl | rfl | rfl
      · exact hc.data.lt b e
      · exact hc.bits.lt b e
      · exact hc.ends.lt b e
    · obtain ⟨j, hj, rfl⟩ := List.mem_iff_getElem.1 hv
      have hj2 : j < c.words.length := by have := hc.len; omega
      obtain ⟨a, cp, q1, q2⟩ := hc.each j _ hj2 (List.getElem?_eq_getElem hj2)
      rw [List.getElem?_eq_getElem hj] at q1
      rw [Option.some.inj q1] at e
      exact q2.lt b e
  have HBX := Aside.mk (show ∀ {l : List Value} {wr : World}, (∀ v ∈ l, v ∈ front3 c B D E ++ vals) → Kept (KS T l w1.heap.size) w1 wr → wr.heap[w.heap.size]? = some (.cells #[.int .i64 c.k, .int .i64 c.s, .int .i64 c.n, .int .i64 c.m, .slice B.a c.bits.length B.c, .slice D.a c.data.length D.c, .slice E.a c.ends.length E.c, .slice xa c.words.length xc] 63 (0, 0)) from fun {l wr} hl hk => (hk.block _ (by omega) (fun h => by
    rcases h with h | ⟨u, hu, h⟩ | h
    · have := hT _ h; omega
    · have := (hvl u (hl u hu) _ h).2; omega
    · omega)).trans hbk1)
  have HEND := Aside.mk (show ∀ {wr : World}, BK wr (KS T (front3 c B D E ++ vals.take c.words.length) w1.heap.size) bk ∧ Kept (KS T (front3 c B D E ++ vals.take c.words.length) w1.heap.size) w1 wr → BK wr (fun b => T b ∨ base ≤ b) bk ∧ Kept (fun b => T b ∨ base ≤ b) w wr from fun {wr} h => by
    have hm : ∀ b, KS T (front3 c B D E ++ vals.take c.words.length) w1.heap.size b → T b ∨ base ≤ b := fun b h => by
      rcases h with h | ⟨u, hu, h⟩ | h
      · exact .inl h
      · refine .inr (hvl u ?_ b h).1
        rcases List.mem_append.1 hu with hu | hu
        · exact List.mem_append_left _ hu
        · exact List.mem_append_right _ (List.mem_of_mem_take hu)
      · exact .inr (by omega)
    exact ⟨h.1.mono (fun b e _ => hm b e), (Kept.of_below hb1).trans h.2 (fun b e _ => hm b e)⟩)
  have HK0 := Aside.mk (And.intro (show BK w1 (KS T [] w1.heap.size) bk from by rw [ew1]; exact (h.below (below_new w _)).mono (fun b e _ => .inl e)) (Kept.refl (S := KS T [] w1.heap.size) w1))
  have R1 := Aside.mk r1
  have R2 := Aside.mk r2
  have R3 := Aside.mk r3
  have R4 := Aside.mk r4
  have R5 := Aside.mk r5
  have HLEN := Aside.mk hc.len
  obtain ⟨d0, d1, d2, d3, d4, d5, d6, d7⟩ := box8 hbk1
  have HBK1 := Aside.mk hbk1
  clear r1 r2 r3 r4 r5 hvl h hc hc1 hT hbk1 hb1
  dsimp only [colV]
  go_enter Tryz.func35, Tryz.ntmps35
  go_wp2_with fail
  rw [← ew1]
  refine (book_bytes (KS T [] w1.heap.size) bk D.a D.c c.data hd hdl w1 HK0.out.1 (R1.out w1 HK0.out.2).1 (R1.out w1 HK0.out.2).2).mono ?_
  intro e w2 hp
  obtain ⟨rfl, hp2⟩ := ks_next hp HK0.out.2
  have HK2 := Aside.mk hp2
  clear d0 d1 d2 d3 d4 d5 d6 d7 hp hp2
  obtain ⟨d0, d1, d2, d3, d4, d5, d6, d7⟩ := box8 (HBX.out (l := [.slice D.a c.data.length D.c]) (by simp [front3]) HK2.out.2)
  go_wp2_with fail
  refine (book_bytes (KS T [.slice D.a c.data.length D.c] w1.heap.size) bk B.a B.c c.bits hb hbl w2 HK2.out.1 (R2.out w2 HK2.out.2).1 (R2.out w2 HK2.out.2).2).mono ?_
  intro e w3 hp
  obtain ⟨rfl, hp2⟩ := ks_next hp HK2.out.2
  have HK3 := Aside.mk hp2
  clear d0 d1 d2 d3 d4 d5 d6 d7 hp hp2
  obtain ⟨d0, d1, d2, d3, d4, d5, d6, d7⟩ := box8 (HBX.out (l := [.slice D.a c.data.length D.c, .slice B.a c.bits.length B.c]) (by simp [front3]) HK3.out.2)
  go_wp2_with fail
  refine (book_ints (KS T [.slice D.a c.data.length D.c, .slice B.a c.bits.length B.c] w1.heap.size) bk E.a E.c c.ends hel w3 HK3.out.1 (R3.out w3 HK3.out.2).1 (R3.out w3 HK3.out.2).2).mono ?_
  intro e w4 hp
  obtain ⟨rfl, hp2⟩ := ks_next hp HK3.out.2
  have HK4 := Aside.mk hp2
  clear d0 d1 d2 d3 d4 d5 d6 d7 hp hp2
  go_wp2_with fail
  go_loopw [4] (fun i0 wr => ∃ i : Nat, i ≤ c.words.length ∧ i0 = .int .i64 (i : Int) ∧ Aside (BK wr (KS T (front3 c B D E ++ vals.take i) w1.heap.size) bk ∧ Kept (KS T (front3 c B D E ++ vals.take i) w1.heap.size) w1 wr)) (fun i0 _ => c.words.length - (intOf i0).toNat)
  case atStart => exact ⟨0, by omega, rfl, ⟨by simpa [front3] using HK4.out⟩⟩
  case round =>
    obtain ⟨i, hi, rfl, HP⟩ := hrel
    obtain ⟨d0, d1, d2, d3, d4, d5, d6, d7⟩ := box8 (HBX.out (l := front3 c B D E ++ vals.take i) (fun v hv => by
      rcases List.mem_append.1 hv with hv | hv
      · exact List.mem_append_left _ hv
      · exact List.mem_append_right _ (List.mem_of_mem_take hv)) HP.out.2)
    by_cases hlt : i < c.words.length
    · obtain ⟨a, cp, q1, q2, q3⟩ := R5.out wr i _ (List.getElem?_eq_getElem hlt) HP.out.2
      have hbw := hw _ (List.getElem_mem hlt)
      have hbl := hwl _ (List.getElem_mem hlt)
      have HV := Aside.mk q1
      obtain ⟨g, o, cap, e2, hx1, hx2, hx3, hx4, q4, _⟩ := (R4.out wr i HP.out.2).some_ (by omega)
      have d8 := q4 i _ q1
      simp only [Value.slice.injEq, true_and] at e2
      obtain ⟨rfl, rfl⟩ := e2
      have HQ := Aside.mk (And.intro hbw (And.intro hbl (And.intro q2 q3)))
      clear q1 q2 q3 q4 hbw hbl
      generalize c.words[i] = t at *
      obtain ⟨n, hn⟩ : ∃ n, n = t.length := ⟨_, rfl⟩
      have HN := Aside.mk hn
      rw [← hn] at d8
      clear hn
      go_wp2_with fail
      rw [HN.out]
      refine (book_bytes (KS T (front3 c B D E ++ vals.take i) w1.heap.size) bk a cp t HQ.out.1 HQ.out.2.1 wr HP.out.1 HQ.out.2.2.1 HQ.out.2.2.2).mono ?_
      intro e w5 hp
      obtain ⟨rfl, hp2⟩ := ks_next hp HP.out.2
      have HP5 := Aside.mk hp2
      clear hp hp2
      go_wp2_with fail
      refine ⟨⟨i + 1, by omega, by simp, ⟨?_⟩⟩, by simp [intOf]; omega⟩
      have h5 := HP5.out
      rw [List.append_assoc] at h5
      rw [List.take_add_one, HV.out]
      exact h5
    · obtain rfl : i = c.words.length := by omega
      go_wp2_with fail
      refine bodyPost_end (v := .tuple #[]) (by simp [results, Tryz.results35, go_sem]) rfl ?_
      exact ⟨rfl, HEND.out HP.out⟩
end Go.Proofs.YtmhjjhaipcgbiaaGreat


/- The document's builder: its blocks are among R; Put, Text, Back. -/
namespace Go.Proofs.YtmhjjhaipcgbiaaGreat
open Go.RowKit
set_option linter.unusedVariables false
set_option linter.unusedSimpArgs false
set_option maxRecDepth 100000
set_option maxHeartbeats 1000000

structure RBx (w : World) (R : Nat → Prop) (rb : Nat) (k s : Int) (l : List V) (A : SL) (xs : List Value) : Prop where
  blk : w.heap[rb]? = some (.cells #[.int .i64 k, .int .i64 s, .slice A.a l.length A.c] 35 (0, 0))
  sb : R rb
  row : Own w 0 50 3 (.slice A.a l.length A.c) l.length xs
  sr : ∀ b, (Value.slice A.a l.length A.c).ownBlock = some b → R b
  each : ∀ (i : Nat) v, l[i]? = some v → ∃ ta tc, xs[i * 3]? = some (.bool v.null) ∧ xs[i * 3 + 1]? = some (.int .u64 (v.bits : Int)) ∧ xs[i * 3 + 2]? = some (.slice ta v.text.length tc) ∧
    Own w 0 5 1 (.slice ta v.text.length tc) v.text.length (v.text.map (.int .u8)) ∧ ∀ b, (Value.slice ta v.text.length tc).ownBlock = some b → R b
/-- The document's builder at block rb, of the values l: its blocks are among R. -/
def RB (w : World) (R : Nat → Prop) (rb : Nat) (k s : Int) (l : List V) : Prop := ∃ A xs, RBx w R rb k s l A xs

theorem RBx.kept {w w' : World} {R Q : Nat → Prop} {rb : Nat} {k s : Int} {l : List V} {A : SL} {xs : List Value} (h : RBx w R rb k s l A xs) (hk : Kept Q w w') (hR : ∀ b, R b → b < w.heap.size → ¬ Q b) : RBx w' R rb k s l A xs := by
  refine ⟨(hk.block _ (lt_of_blk h.blk) (hR rb h.sb (lt_of_blk h.blk))).trans h.blk, h.sb, h.row.kept hk (fun b e => hR b (h.sr b e) (h.row.lt b e).2), h.sr, fun i v hi => ?_⟩
  obtain ⟨ta, tc, q0, q1, q2, q3, q4⟩ := h.each i v hi
  exact ⟨ta, tc, q0, q1, q2, q3.kept hk (fun b e => hR b (q4 b e) (q3.lt b e).2), q4⟩
theorem RB.kept {w w' : World} {R Q : Nat → Prop} {rb : Nat} {k s : Int} {l : List V} (h : RB w R rb k s l) (hk : Kept Q w w') (hR : ∀ b, R b → b < w.heap.size → ¬ Q b) : RB w' R rb k s l := by
  obtain ⟨A, xs, h⟩ := h
  exact ⟨A, xs, h.kept hk hR⟩
theorem RBx.below {w w' : World} {R : Nat → Prop} {rb : Nat} {k s : Int} {l : List V} {A : SL} {xs : List Value} (h : RBx w R rb k s l A xs) (hb : Below w.heap.size w w') : RBx w' R rb k s l A xs :=
  h.kept (Kept.of_below (S := fun _ => False) hb) (fun _ _ _ e => e)
theorem RB.below {w w' : World} {R : Nat → Prop} {rb : Nat} {k s : Int} {l : List V} (h : RB w R rb k s l) (hb : Below w.heap.size w w') : RB w' R rb k s l :=
  h.kept (Kept.of_below (S := fun _ => False) hb) (fun _ _ _ e => e)
theorem RB.mono {w : World} {R R' : Nat → Prop} {rb : Nat} {k s : Int} {l : List V} (h : RB w R rb k s l) (hR : ∀ b, R b → b < w.heap.size → R' b) : RB w R' rb k s l := by
  obtain ⟨A, xs, h⟩ := h
  refine ⟨A, xs, h.blk, hR rb h.sb (lt_of_blk h.blk), h.row, fun b e => hR b (h.sr b e) (h.row.lt b e).2, fun i v hi => ?_⟩
  obtain ⟨ta, tc, q0, q1, q2, q3, q4⟩ := h.each i v hi
  exact ⟨ta, tc, q0, q1, q2, q3, fun b e => hR b (q4 b e) (q3.lt b e).2⟩
theorem RBx.vals {w : World} {R : Nat → Prop} {rb : Nat} {k s : Int} {l : List V} {A : SL} {xs : List Value} (h : RBx w R rb k s l A xs) : RdVs w A l :=
  ⟨xs, h.row.rd, fun i v hi => by obtain ⟨ta, tc, q0, q1, q2, q3, _⟩ := h.each i v hi; exact ⟨ta, tc, q0, q1, q2, q3.rd⟩⟩

/-- What a step leaves. -/
def RStep (R : Nat → Prop) (rb : Nat) (k s : Int) (l : List V) (r : Value) (w : World) (e : Ending) (w' : World) : Prop :=
  e = .returned r ∧ RB w' (fun b => R b ∨ w.heap.size ≤ b) rb k s l ∧ Kept R w w'

theorem RBx.push {w w2 w5 : World} {R : Nat → Prop} {rb : Nat} {k s : Int} {l : List V} {A : SL} {xs : List Value} (h : RBx w R rb k s l A xs) (hb : Below w.heap.size w w2) {v : V} {ta : Option Addr} {tc : Nat}
    (hv : Own w2 w.heap.size 5 1 (.slice ta v.text.length tc) v.text.length (v.text.map (.int .u8))) {o : Obj} {v5 : Value}
    (hA : AppP (w2.alloc o) 0 50 3 (.slice A.a l.length A.c) l.length xs 1 [.bool v.null, .int .u64 (v.bits : Int), .slice ta v.text.length tc] v5 w5) :
    RB (w5.setCell ⟨rb, 2, none⟩ v5) (fun b => R b ∨ w.heap.size ≤ b) rb k s (l ++ [v]) ∧ Kept R w (w5.setCell ⟨rb, 2, none⟩ v5) := by
  have hz2 := hb.size
  have K2 : Kept (fun b => (Value.slice A.a l.length A.c).ownBlock = some b) (w2.alloc o) w5 := (Kept.of_grown hA.grown).mono (fun b e _ => e.symm)
  have K : Kept (fun b => (Value.slice A.a l.length A.c).ownBlock = some b) w w5 := (Kept.of_below (hb.trans ((below_new w2 o).mono hz2))).trans K2 (fun _ e _ => e)
  have nrb : (Value.slice A.a l.length A.c).ownBlock ≠ some rb := h.row.blk_ne h.blk (by decide)
  have g := (K.block rb (lt_of_blk h.blk) nrb).trans h.blk
  have g2 := heap_setCell_at (k := 2) g v5
  obtain ⟨a5, c5, rfl⟩ := hA.own.form
  have hxl : xs.length = l.length * 3 := h.row.1
  refine ⟨⟨⟨a5, c5⟩, xs ++ [.bool v.null, .int .u64 (v.bits : Int), .slice ta v.text.length tc], by simpa using g2, .inl h.sb, ?_, fun b e => ?_, fun i u hi => ?_⟩, (K.mono (fun b e _ => h.sr b e)).trans (Kept.setCell w5 _ _) (fun b e _ => by rw [e]; exact h.sb)⟩
  · have := hA.own.set_other (a := ⟨rb, 2, none⟩) (hA.own.blk_ne g (by decide)) (.slice a5 (l.length + 1) c5)
    rw [List.length_append]
    exact this
  · replace e : (Value.slice a5 (l ++ [v]).length c5).ownBlock = some b := e
    rw [List.length_append] at e
    replace e : (Value.slice a5 (l.length + 1) c5).ownBlock = some b := e
    rcases hA.blk with h1 | ⟨b', h1, h2⟩
    · exact .inl (h.sr b (by rw [← h1]; exact e))
    · rw [h1] at e; cases e
      exact .inr (by simp at h2; omega)
  · rcases Nat.lt_or_ge i l.length with hl | hl
    · rw [List.getElem?_append_left hl] at hi
      obtain ⟨ua, uc, q0, q1, q2, q3, q4⟩ := h.each i u hi
      refine ⟨ua, uc, ?_, ?_, ?_, ?_, fun b e => .inl (q4 b e)⟩
      · rw [List.getElem?_append_left (by omega)]; exact q0
      · rw [List.getElem?_append_left (by omega)]; exact q1
      · rw [List.getElem?_append_left (by omega)]; exact q2
      · have q5 := q3.kept K (fun b e => own_ne_own q3 h.row (by decide) b e)
        exact q5.set_other (a := ⟨rb, 2, none⟩) (q5.blk_ne g (by decide)) _
    · rw [List.getElem?_append_right hl] at hi
      have hi0 : i - l.length = 0 := by have := (List.getElem?_eq_some_iff.1 hi).1; simp at this; omega
      rw [hi0] at hi
      simp at hi
      subst hi
      have hie : i = l.length := by omega
      subst hie
      refine ⟨ta, tc, ?_, ?_, ?_, ?_, fun b e => .inr (hv.lt b e).1⟩
      · rw [List.getElem?_append_right (by omega), hxl, Nat.sub_self]; rfl
      · rw [List.getElem?_append_right (by omega), hxl, Nat.add_sub_cancel_left]; rfl
      · rw [List.getElem?_append_right (by omega), hxl, Nat.add_sub_cancel_left]; rfl
      · have q5 := (hv.alloc o).kept K2 (fun b e e2 => by have := (hv.lt b e).1; have := (h.row.lt b e2).2; omega)
        exact (q5.set_other (a := ⟨rb, 2, none⟩) (q5.blk_ne g (by decide)) _).mono (Nat.zero_le _)

theorem RBx.cells {w : World} {R : Nat → Prop} {rb : Nat} {k s : Int} {l : List V} {A : SL} {xs : List Value} (h : RBx w R rb k s l A xs) :
    w.cell? ⟨rb, 0, none⟩ = some (.int .i64 k) ∧ w.cell? ⟨rb, 1, none⟩ = some (.int .i64 s) ∧ w.cell? ⟨rb, 2, none⟩ = some (.slice A.a l.length A.c) ∧ ∀ k, w.frozen? ⟨rb, k, none⟩ = false := by
  refine ⟨?_, ?_, ?_, fun k => frozen_blk h.blk⟩ <;> (rw [cell_blk h.blk]; rfl)

theorem own_capR {w : World} {base : Nat} {E : TypeId} {sz n c : Nat} {a : Option Addr} {xs : List Value} (h : Own w base E sz (.slice a n c) n xs) : n ≤ c := by
  rcases h.2 with ⟨e, hn⟩ | ⟨_, _, _, _, e, _, _, h5, _⟩
  · omega
  · cases e; exact h5
/-- The first n values are left. -/
theorem rback_set {w : World} {R : Nat → Prop} {rb : Nat} {k s : Int} {l : List V} {aa : Option Addr} {ac : Nat} {xs : List Value} (h : RBx w R rb k s l ⟨aa, ac⟩ xs) {n : Nat} (hn : n ≤ l.length) :
    RStep R rb k s (l.take n) (.int .i64 0) w (.returned (.int .i64 0)) (w.setCell ⟨rb, 2, none⟩ (.slice (cutA aa ac 0 3) (n - 0) (ac - 0))) := by
  have g2 := heap_setCell_at (k := 2) h.blk (.slice (cutA aa ac 0 3) (n - 0) (ac - 0))
  have hlen : (l.take n).length = n := by rw [List.length_take]; omega
  have e0 : cutA aa ac 0 3 = aa := by
    unfold cutA
    split
    · rfl
    · cases aa <;> simp [Addr.add]
  have hrow := h.row
  have hxl : xs.length = l.length * 3 := h.row.1
  have hfront : Own w 0 50 3 (.slice aa n ac) n (xs.take (n * 3)) := by
    refine own_front0 (m := l.length - n) (ys := xs.drop (n * 3)) ?_ (by rw [List.length_take]; omega)
    rw [List.take_append_drop, show n + (l.length - n) = l.length by omega]
    exact hrow
  rw [e0] at g2 ⊢
  have nrb : (Value.slice aa n ac).ownBlock ≠ some rb := hfront.blk_ne h.blk (by decide)
  refine ⟨rfl, ⟨⟨aa, ac⟩, xs.take (n * 3), by rw [hlen]; simpa using g2, .inl h.sb, ?_, fun b e => .inl (h.sr b ?_), fun i v hi => ?_⟩, (Kept.setCell w _ _).mono (fun b e _ => by rw [e]; exact h.sb)⟩
  · rw [hlen]; exact hfront.set_other (a := ⟨rb, 2, none⟩) nrb _
  · rw [hlen] at e
    cases aa with
    | none => cases e
    | some a => exact e
  · have hi2 : i < n := by have := (List.getElem?_eq_some_iff.1 hi).1; omega
    rw [List.getElem?_take, if_pos hi2] at hi
    obtain ⟨ta, tc, q0, q1, q2, q3, q4⟩ := h.each i v hi
    refine ⟨ta, tc, ?_, ?_, ?_, q3.set_other (a := ⟨rb, 2, none⟩) (q3.blk_ne h.blk (by decide)) _, fun b e => .inl (q4 b e)⟩
    · rw [List.getElem?_take, if_pos (by omega)]; exact q0
    · rw [List.getElem?_take, if_pos (by omega)]; exact q1
    · rw [List.getElem?_take, if_pos (by omega)]; exact q2
theorem rput_word (R : Nat → Prop) (rb : Nat) (k s : Int) (l : List V) (X : Nat) (hk : wordedB k = true) (w : World) (h : RB w R rb k s l) :
    Calls Tryz.prog 18 #[.pointer (some ⟨rb, 0, none⟩), .int .u64 (X : Int)] w (IntP 170 w) := by
  obtain ⟨A, xs, h⟩ := h
  obtain ⟨c0, c1, c2, c3⟩ := h.cells
  have HW := Aside.mk (fun W => show Calls Tryz.prog 62 #[.agg #[.int .i64 k, .int .i64 s]] W (FitsP true W) from by have := worded_any k s W; rwa [hk] at this)
  clear h hk
  go_enter Tryz.func18, Tryz.ntmps18
  go_wp2_with (go_at_call 62; refine (HW.out _).mono ?_; rintro e w1 ⟨rfl, hb1⟩; have B1 := Aside.mk hb1; clear hb1)
  go_ret
  exact ⟨rfl, B1.out⟩
theorem rput_bad (R : Nat → Prop) (rb : Nat) (k s : Int) (l : List V) (X : Nat) (hX : X < 18446744073709551616) (hk : wordedB k = false) (hf : fitsB k s X = false) (w : World) (h : RB w R rb k s l) :
    Calls Tryz.prog 18 #[.pointer (some ⟨rb, 0, none⟩), .int .u64 (X : Int)] w (IntP 172 w) := by
  obtain ⟨A, xs, h⟩ := h
  have H := Aside.mk h
  have HW := Aside.mk (fun W => show Calls Tryz.prog 62 #[.agg #[.int .i64 k, .int .i64 s]] W (FitsP false W) from by have := worded_any k s W; rwa [hk] at this)
  have HF := Aside.mk (fun W => show Calls Tryz.prog 75 #[.agg #[.int .i64 k, .int .i64 s], .int .u64 (X : Int)] W (FitsP false W) from by have := r18fits_any k s X (by omega) (by omega) W; rwa [hf] at this)
  obtain ⟨c0, c1, c2, c3⟩ := h.cells
  clear h hk hf
  go_enter Tryz.func18, Tryz.ntmps18
  go_wp2_with (go_at_call 62; refine (HW.out _).mono ?_; rintro e w1 ⟨rfl, hb1⟩; have B1 := Aside.mk hb1; clear hb1 c0 c1 c2 c3; obtain ⟨c0, c1, c2, c3⟩ := (H.out.below B1.out).cells)
  refine (HF.out _).mono ?_
  rintro e w2 ⟨rfl, hb2⟩
  have B2 := Aside.mk hb2
  clear hb2
  go_wp2_with fail
  go_ret
  exact ⟨rfl, B1.out.trans (B2.out.mono B1.out.size)⟩
theorem rput_yes (R : Nat → Prop) (rb : Nat) (k s : Int) (l : List V) (X : Nat) (hX : X < 18446744073709551616) (hk : wordedB k = false) (hf : fitsB k s X = true) (hl : l.length ≤ 100000000) (w : World) (h : RB w R rb k s l) :
    Calls Tryz.prog 18 #[.pointer (some ⟨rb, 0, none⟩), .int .u64 (X : Int)] w (RStep R rb k s (l ++ [⟨false, X, []⟩]) (.int .i64 0) w) := by
  obtain ⟨A, xs, h⟩ := h
  obtain ⟨aa, ac⟩ := A
  have H := Aside.mk h
  have HW := Aside.mk (fun W => show Calls Tryz.prog 62 #[.agg #[.int .i64 k, .int .i64 s]] W (FitsP false W) from by have := worded_any k s W; rwa [hk] at this)
  have HF := Aside.mk (fun W => show Calls Tryz.prog 75 #[.agg #[.int .i64 k, .int .i64 s], .int .u64 (X : Int)] W (FitsP true W) from by have := r18fits_any k s X (by omega) (by omega) W; rwa [hf] at this)
  obtain ⟨c0, c1, c2, c3⟩ := h.cells
  clear h hk hf
  generalize hn : l.length = n at *
  have HN := Aside.mk hn
  clear hn
  go_enter Tryz.func18, Tryz.ntmps18
  go_wp2_with (go_at_call 62; refine (HW.out _).mono ?_; rintro e w1 ⟨rfl, hb1⟩; have B1 := Aside.mk hb1; clear hb1 c0 c1 c2 c3; obtain ⟨c0, c1, c2, c3⟩ := (H.out.below B1.out).cells)
  refine (HF.out _).mono ?_
  rintro e w2 ⟨rfl, hb2⟩
  have B2 := Aside.mk (B1.out.trans (hb2.mono B1.out.size))
  clear hb2 c0 c1 c2 c3
  have H2 := Aside.mk (H.out.below B2.out)
  obtain ⟨c0, c1, c2, c3⟩ := H2.out.cells
  dsimp only at c2
  rw [HN.out] at c2
  have HROW := Aside.mk H2.out.row
  dsimp only at HROW
  rw [HN.out] at HROW
  go_wp2_with (at_builtin; refine wpList_app2 _ rfl _ _ 33 33 rfl 0 50 (.agg #[.bool false, .int .u64 0, .slice none 0 0]) 3 40 Tryz.underlying33 valinfo rfl _ n xs rfl (HROW.out.alloc _) _ 1 [.bool false, .int .u64 (X : Int), .slice none 0 0] rfl (src_val _ _ _ _ rfl rfl rfl) (by unfold maxLen; omega) (by omega) (Nat.zero_le _) ?_)
  intro v5 w5 hA
  obtain ⟨a5, c5, rfl⟩ := hA.own.form
  have HP := Aside.mk (H.out.push (v := ⟨false, X, []⟩) B2.out (Own.nil w2 _ _ _) (by dsimp only; rw [HN.out]; exact hA))
  have K5 : Kept (fun b => (Value.slice aa n ac).ownBlock = some b) w2 w5 := (Kept.of_below (below_new w2 _)).trans ((Kept.of_grown hA.grown).mono (fun b e _ => e.symm)) (fun _ e _ => e)
  have g5 := (K5.block rb (lt_of_blk H2.out.blk) (HROW.out.blk_ne H2.out.blk (by decide))).trans H2.out.blk
  clear hA c0 c1 c2 c3 K5
  have c0 := cell_blk (k := 2) g5
  simp at c0
  have c3 := fun k => frozen_blk (k := k) g5
  clear g5
  go_wp2_with fail
  go_ret
  exact ⟨rfl, HP.out⟩
theorem rtext_no (R : Nat → Prop) (rb : Nat) (k s : Int) (l : List V) (v : Value) (hk : wordedB k = false) (w : World) (h : RB w R rb k s l) :
    Calls Tryz.prog 22 #[.pointer (some ⟨rb, 0, none⟩), v] w (IntP 170 w) := by
  obtain ⟨A, xs, h⟩ := h
  obtain ⟨c0, c1, c2, c3⟩ := h.cells
  have HW := Aside.mk (fun W => show Calls Tryz.prog 62 #[.agg #[.int .i64 k, .int .i64 s]] W (FitsP false W) from by have := worded_any k s W; rwa [hk] at this)
  clear h hk
  go_enter Tryz.func22, Tryz.ntmps22
  go_wp2_with (go_at_call 62; refine (HW.out _).mono ?_; rintro e w1 ⟨rfl, hb1⟩; have B1 := Aside.mk hb1; clear hb1)
  go_ret
  exact ⟨rfl, B1.out⟩
theorem byteinfoR : (Tryz.prog.info? 5).map (fun i => (i.zero, i.size, i.bytes)) = some (some (.int .u8 0), 1, 1) := by kernel_rfl
/-- The empty row that a statement lays, behind a draw. -/
theorem own_emptyD (w : World) (E : TypeId) : Own (w.drew.alloc (.cells #[] E)) w.heap.size E 1 (.slice (some ⟨w.heap.size, 0, none⟩) 0 0) 0 [] := own_empty w.drew w.heap.size w.heap.size E 1 rfl (Nat.le_refl _)
theorem rtext_yes (R : Nat → Prop) (rb : Nat) (k s : Int) (l : List V) (tx : List Int) (T : SL) (hk : wordedB k = true) (hl : l.length ≤ 100000000) (htl : tx.length ≤ 100000000) (w : World) (h : RB w R rb k s l) (ht : Rd w 1 (.slice T.a tx.length T.c) tx.length (tx.map (.int .u8))) :
    Calls Tryz.prog 22 #[.pointer (some ⟨rb, 0, none⟩), .slice T.a tx.length T.c] w (RStep R rb k s (l ++ [⟨false, 0, tx⟩]) (.int .i64 0) w) := by
  obtain ⟨A, xs, h⟩ := h
  obtain ⟨aa, ac⟩ := A
  obtain ⟨ta, tc⟩ := T
  have H := Aside.mk h
  have HTR := Aside.mk ht
  have HW := Aside.mk (fun W => show Calls Tryz.prog 62 #[.agg #[.int .i64 k, .int .i64 s]] W (FitsP true W) from by have := worded_any k s W; rwa [hk] at this)
  obtain ⟨c0, c1, c2, c3⟩ := h.cells
  clear h hk ht
  generalize hn : l.length = n at *
  have HN := Aside.mk hn
  clear hn
  generalize hm : tx.length = m at *
  have HM := Aside.mk hm
  clear hm
  dsimp only at c2 HTR ⊢
  go_enter Tryz.func22, Tryz.ntmps22
  go_wp2_with (go_at_call 62; refine (HW.out _).mono ?_; rintro e w2 ⟨rfl, hb1⟩; have B2 := Aside.mk hb1; clear hb1 c0 c1 c2 c3)
  have H2 := Aside.mk (H.out.below B2.out)
  obtain ⟨c0, c1, c2, c3⟩ := H2.out.cells
  dsimp only at c2
  rw [HN.out] at c2
  have hlt := lt_of_blk H2.out.blk
  have HROW := Aside.mk H2.out.row
  dsimp only at HROW
  rw [HN.out] at HROW
  have HSR := Aside.mk (((HTR.out.below B2.out).below (((below_drewN w2 _ 1).trans (below_new w2.drew (.cells #[] 5))))).src (P := Tryz.prog) Tryz.underlying43 (one_map (fun x : Int => Value.int .u8 x) (fun _ => rfl) tx))
  have HTX := Aside.mk (own_emptyD w2 5)
  go_region_law (first
    | (refine step_app2 (P := Tryz.prog) (w2.drew.alloc (.cells #[] 5)) (.tmp 16) (.tmp 17) 43 43 (by rfl) (by rfl) w2.heap.size 5 (.int .u8 0) 1 1 Tryz.underlying43 byteinfoR (by rfl) (.slice (some ⟨w2.heap.size, 0, none⟩) 0 0) 0 [] (by rfl) HTX.out (.slice ta m tc) m (tx.map (.int .u8)) (by rfl) HSR.out (by unfold maxLen; omega) (by omega) (by show w2.heap.size ≤ (w2.alloc _).heap.size; simp) ?_; intro v6 w6 hA; obtain ⟨a6, c6, rfl⟩ := hA.own.form; rw [Nat.zero_add]; have HA6 := Aside.mk (And.intro hA.own hA.grown); clear hA; have B6 := Aside.mk (show Below w2.heap.size w2 w6 from ((below_drewN w2 _ 1).trans (below_new w2.drew _)).trans (below_of_grown HA6.out.2 (by show w2.heap.size ≤ (w2.alloc _).heap.size; simp) (fun k e => (by cases e; exact Nat.le_refl _)))); clear c0 c1 c2 c3; obtain ⟨c0, c1, c2, c3⟩ := (H2.out.below B6.out).cells; dsimp only at c2; rw [HN.out] at c2; have hl6 := World.block_lt_of_cell? _ _ c0)
    | (refine step_app2 (P := Tryz.prog) (w6.alloc (.cells #[.bool false, .int .u64 0, .slice a6 m c6] 50)) (.tmp 15) (.tmp 20) 33 33 (by rfl) (by rfl) 0 50 (.agg #[.bool false, .int .u64 0, .slice none 0 0]) 3 40 Tryz.underlying33 valinfo (by rfl) (.slice aa n ac) n xs (by rfl) ((HROW.out.below B6.out).alloc _) (.slice (some ⟨w6.heap.size, 0, none⟩) 1 1) 1 [.bool false, .int .u64 0, .slice a6 m c6] (by rfl) (src_val _ _ _ _ rfl rfl rfl) (by unfold maxLen; omega) (by omega) (Nat.zero_le _) ?_; intro v5 w5 hA; obtain ⟨a5, c5, rfl⟩ := hA.own.form; have HA5 := Aside.mk hA; clear hA; have g5 := ((show Kept (fun b => (Value.slice aa n ac).ownBlock = some b) w2 w5 from ((Kept.of_below B6.out).trans (Kept.of_below (below_new w6 _)) (fun _ e _ => e)).trans ((Kept.of_grown HA5.out.grown).mono (fun b e _ => e.symm)) (fun _ e _ => e)).block rb hlt (HROW.out.blk_ne H2.out.blk (by decide))).trans H2.out.blk; clear c0 c1 c2 c3; have c0 := cell_blk (k := 2) g5; simp at c0; have c3 := fun k => frozen_blk (k := k) g5; clear g5))
  all_goals
    have h6 := HA6.out.1
    rw [Nat.zero_add, List.nil_append] at h6
    have hz2 := B2.out.size
    have HP := Aside.mk (H.out.push (v := ⟨false, 0, tx⟩) (ta := a6) (tc := c6) (B2.out.trans (B6.out.mono hz2)) (by dsimp only; rw [HM.out]; exact h6.mono hz2) (by dsimp only; rw [HN.out, HM.out]; exact HA5.out))
    clear h6 hz2
    go_wp2_with fail
    go_ret
    exact ⟨rfl, HP.out⟩

theorem rback_yes (R : Nat → Prop) (rb : Nat) (k s : Int) (l : List V) (n : Nat) (hl : l.length ≤ 100000000) (hn : n ≤ l.length) (w : World) (h : RB w R rb k s l) :
    Calls Tryz.prog 32 #[.pointer (some ⟨rb, 0, none⟩), .int .i64 (n : Int)] w (RStep R rb k s (l.take n) (.int .i64 0) w) := by
  obtain ⟨A, xs, h⟩ := h
  obtain ⟨aa, ac⟩ := A
  have H := Aside.mk h
  obtain ⟨c0, c1, c2, c3⟩ := h.cells
  have hs := fun W => run_slice_to (P := Tryz.prog) Tryz.underlying33 (sz := 3) (by kernel_rfl) aa l.length ac n (Nat.le_trans hn (own_capR h.row)) W
  have hm := Aside.mk (h.row.mid (Nat.zero_le n) hn)
  clear h
  have HP := Aside.mk (show RStep R rb k s (l.take n) (.int .i64 0) w (.returned (.int .i64 0)) (w.setCell ⟨rb, 2, none⟩ (.slice (cutA aa ac 0 3) (n - 0) (ac - 0))) from rback_set H.out hn)
  generalize hq : cutA aa ac 0 3 = qa at *
  clear hq hm
  generalize hln : l.length = m at *
  clear hln
  dsimp only at c2
  go_enter Tryz.func32, Tryz.ntmps32
  go_wp2
  go_ret
  exact HP.out
theorem rback_no (R : Nat → Prop) (rb : Nat) (k s : Int) (l : List V) (n : Int) (hm : l.length ≤ 100000000) (hn : n < 0 ∨ (l.length : Int) < n) (w : World) (h : RB w R rb k s l) :
    Calls Tryz.prog 32 #[.pointer (some ⟨rb, 0, none⟩), .int .i64 n] w (IntP 173 w) := by
  obtain ⟨A, xs, h⟩ := h
  obtain ⟨c0, c1, c2, c3⟩ := h.cells
  clear h
  by_cases h0 : n < 0
  · clear hn
    go_enter Tryz.func32, Tryz.ntmps32
    go_wp2
    go_ret
    exact ⟨rfl, Below.refl _ _⟩
  · have h1 : (l.length : Int) < n := by omega
    clear hn
    go_enter Tryz.func32, Tryz.ntmps32
    go_wp2
    go_ret
    exact ⟨rfl, Below.refl _ _⟩
end Go.Proofs.YtmhjjhaipcgbiaaGreat


/- mintageref18.Read: the walk. -/
namespace Go.Proofs.YtmhjjhaipcgbiaaGreat
open Go.RowKit
set_option linter.unusedVariables false
set_option linter.unusedSimpArgs false
set_option maxRecDepth 100000
set_option maxHeartbeats 4000000

/-- Values in a row of its own; their texts read. -/
structure RdO (Q : World → Prop) (w : World) (base : Nat) (A : SL) (l : List V) (xs : List Value) : Prop where
  row : Own w base 50 3 (.slice A.a l.length A.c) l.length xs
  each : ∀ (i : Nat) v, l[i]? = some v → ∃ ta tc, xs[i * 3]? = some (.bool v.null) ∧ xs[i * 3 + 1]? = some (.int .u64 (v.bits : Int)) ∧ xs[i * 3 + 2]? = some (.slice ta v.text.length tc) ∧ ∀ W, Q W → Rd W 1 (.slice ta v.text.length tc) v.text.length (v.text.map (.int .u8))
theorem RdO.kept {Q : World → Prop} {w w' : World} {base : Nat} {A : SL} {l : List V} {xs : List Value} {S : Nat → Prop} (h : RdO Q w base A l xs) (hk : Kept S w w') (hS : ∀ b, base ≤ b → b < w.heap.size → ¬ S b) : RdO Q w' base A l xs :=
  ⟨h.row.kept hk (fun b e => hS b (h.row.lt b e).1 (h.row.lt b e).2), h.each⟩
theorem RdO.below {Q : World → Prop} {w w' : World} {base : Nat} {A : SL} {l : List V} {xs : List Value} (h : RdO Q w base A l xs) (hb : Below w.heap.size w w') : RdO Q w' base A l xs :=
  ⟨h.row.below hb, h.each⟩
theorem RdO.vals {Q : World → Prop} {w : World} {base : Nat} {A : SL} {l : List V} {xs : List Value} (h : RdO Q w base A l xs) (hq : Q w) : RdVs w A l :=
  ⟨xs, h.row.rd, fun i v hi => by obtain ⟨ta, tc, q0, q1, q2, q3⟩ := h.each i v hi; exact ⟨ta, tc, q0, q1, q2, q3 w hq⟩⟩
/-- A column's rows are read. -/
abbrev QC (c : Col) (B D E X : SL) (vals : List Value) (W : World) : Prop := RdC W c B D E X vals

def Read18P (c : Col) (B D E X : SL) (vals : List Value) (w : World) (e : Ending) (w' : World) : Prop :=
  Below w.heap.size w w' ∧ match readC c with
    | some l => ∃ A xs, e = .returned (.tuple #[.slice A.a l.length A.c, .int .i64 0]) ∧ RdO (QC c B D E X vals) w' w.heap.size A l xs
    | none => e = .returned (.tuple #[.slice none 0 0, .int .i64 (readE c)])
theorem read18_no {c : Col} {B D E X : SL} {vals : List Value} {w w' : World} (h : readC c = none) (ho : okType c.k c.s = true) (hb : Below w.heap.size w w') : Read18P c B D E X vals w (.returned (.tuple #[.slice none 0 0, .int .i64 171])) w' := by
  refine ⟨hb, ?_⟩
  rw [h]
  show _ = Ending.returned (.tuple #[.slice none 0 0, .int .i64 (readE c)])
  unfold readE
  rw [h, if_neg (by rw [ho]; decide)]
  rfl

theorem read18_yes {c : Col} {B D E X : SL} {vals : List Value} {w w' : World} {l : List V} {a : Option Addr} {cp n : Nat} {xs : List Value} (h : readC c = some l) (hl : l.length = n) (hb : Below w.heap.size w w') (hr : RdO (QC c B D E X vals) w' w.heap.size ⟨a, cp⟩ l xs) : Read18P c B D E X vals w (.returned (.tuple #[.slice a n cp, .int .i64 0])) w' := by
  refine ⟨hb, ?_⟩
  rw [h]
  exact ⟨⟨a, cp⟩, xs, by rw [hl], hr⟩
theorem rdRun_none {c : Col} {i : Nat} (h : rdRun c i = none) : ∀ j, i ≤ j → rdRun c j = none
  | 0, hj => by obtain rfl : i = 0 := by omega
                exact h
  | j + 1, hj => by
    by_cases e : i = j + 1
    · subst e; exact h
    · rw [rdRun, rdRun_none h j (by omega)]; rfl
theorem read_fail {c : Col} {i : Nat} {l : List V} {p : Nat} (hr : rdRun c i = some (l, p)) (hs : rdStep c i p = none) (hi : i < c.n.toNat) : readC c = none := by
  have h1 : rdRun c (i + 1) = none := by rw [rdRun, hr, Option.bind_some, hs]; rfl
  unfold readC readRows
  rw [rdRun_none h1 c.n.toNat (by omega)]
  split <;> rfl

/-- The column's box. -/
abbrev colB (c : Col) (B D E X : SL) : Obj := .cells #[.int .i64 c.k, .int .i64 c.s, .int .i64 c.n, .int .i64 c.m, .slice B.a c.bits.length B.c, .slice D.a c.data.length D.c, .slice E.a c.ends.length E.c, .slice X.a c.words.length X.c] 63 (0, 0)

/-- What the loop holds. -/
structure R18I (c : Col) (B D E X : SL) (vals : List Value) (w wr : World) (nv : Value) (N i p : Nat) (l : List V) (A : SL) (xs : List Value) : Prop where
  bel : Below w.heap.size w wr
  box : wr.heap[w.heap.size]? = some (colB c B D E X)
  nulls : Own wr w.heap.size 4 1 nv N ((bitsOf c.bits N).map .bool)
  row : Own wr w.heap.size 50 3 (.slice A.a l.length A.c) l.length xs
  each : ∀ (i : Nat) v, l[i]? = some v → ∃ ta tc, xs[i * 3]? = some (.bool v.null) ∧ xs[i * 3 + 1]? = some (.int .u64 (v.bits : Int)) ∧ xs[i * 3 + 2]? = some (.slice ta v.text.length tc) ∧ ∀ W, RdC W c B D E X vals → Rd W 1 (.slice ta v.text.length tc) v.text.length (v.text.map (.int .u8))
  run : rdRun c i = some (l, p)
theorem R18I.len {c : Col} {B D E X : SL} {vals : List Value} {w wr : World} {nv : Value} {N i p : Nat} {l : List V} {A : SL} {xs : List Value} (h : R18I c B D E X vals w wr nv N i p l A xs) : l.length = i := rdRun_len h.run
theorem R18I.below {c : Col} {B D E X : SL} {vals : List Value} {w wr w2 : World} {nv : Value} {N i p : Nat} {l : List V} {A : SL} {xs : List Value} (h : R18I c B D E X vals w wr nv N i p l A xs) (hb : Below wr.heap.size wr w2) : R18I c B D E X vals w w2 nv N i p l A xs :=
  ⟨below_chain h.bel hb, (hb.block _ (lt_of_blk h.box)).trans h.box, h.nulls.below hb, h.row.below hb, h.each, h.run⟩
theorem R18I.rdo {c : Col} {B D E X : SL} {vals : List Value} {w wr : World} {nv : Value} {N i p : Nat} {l : List V} {A : SL} {xs : List Value} (h : R18I c B D E X vals w wr nv N i p l A xs) : RdO (QC c B D E X vals) wr w.heap.size A l xs := ⟨h.row, h.each⟩
/-- One value more. -/
theorem R18I.next {c : Col} {B D E X : SL} {vals : List Value} {w wr w2 w5 : World} {nv v5 : Value} {N i p p' : Nat} {l : List V} {A : SL} {xs : List Value} {v : V} {ta : Option Addr} {tc : Nat} (h : R18I c B D E X vals w wr nv N i p l A xs) (hs : rdStep c i p = some (v, p')) (hb : Below wr.heap.size wr w2)
    (ht : ∀ W, RdC W c B D E X vals → Rd W 1 (.slice ta v.text.length tc) v.text.length (v.text.map (.int .u8))) (hA : AppP w2 w.heap.size 50 3 (.slice A.a l.length A.c) l.length xs 1 [.bool v.null, .int .u64 (v.bits : Int), .slice ta v.text.length tc] v5 w5) :
    ∃ a5 c5, v5 = .slice a5 (i + 1) c5 ∧ R18I c B D E X vals w w5 nv N (i + 1) p' (l ++ [v]) ⟨a5, c5⟩ (xs ++ [.bool v.null, .int .u64 (v.bits : Int), .slice ta v.text.length tc]) := by
  obtain ⟨a5, c5, rfl⟩ := hA.own.form
  have hl := h.len
  have K : Kept (fun b => (Value.slice A.a l.length A.c).ownBlock = some b) wr w5 := (Kept.of_below hb).trans ((Kept.of_grown hA.grown).mono (fun b e _ => e.symm)) (fun _ e _ => e)
  have hxl : xs.length = l.length * 3 := h.row.1
  refine ⟨a5, c5, by rw [hl], h.bel.trans (K.to_below h.bel.size (fun b e => (h.row.lt b e).1)), (K.block _ (lt_of_blk h.box) (h.row.blk_ne h.box (by decide))).trans h.box, h.nulls.kept K (fun b e => own_ne_own h.nulls h.row (by decide) b e), ?_, fun j u hj => ?_, ?_⟩
  · rw [List.length_append]; exact hA.own
  · rcases Nat.lt_or_ge j l.length with hlt | hge
    · rw [List.getElem?_append_left hlt] at hj
      obtain ⟨ua, uc, q0, q1, q2, q3⟩ := h.each j u hj
      refine ⟨ua, uc, ?_, ?_, ?_, q3⟩
      · rw [List.getElem?_append_left (by omega)]; exact q0
      · rw [List.getElem?_append_left (by omega)]; exact q1
      · rw [List.getElem?_append_left (by omega)]; exact q2
    · rw [List.getElem?_append_right hge] at hj
      have hj0 : j - l.length = 0 := by have := (List.getElem?_eq_some_iff.1 hj).1; simp at this; omega
      rw [hj0] at hj
      simp at hj
      subst hj
      obtain rfl : j = l.length := by omega
      refine ⟨ta, tc, ?_, ?_, ?_, ht⟩
      · rw [List.getElem?_append_right (by omega), hxl, Nat.sub_self]; rfl
      · rw [List.getElem?_append_right (by omega), hxl, Nat.add_sub_cancel_left]; rfl
      · rw [List.getElem?_append_right (by omega), hxl, Nat.add_sub_cancel_left]; rfl
  · rw [rdRun, h.run, Option.bind_some, hs]; rfl

theorem rd_cap {w : World} {sz n c : Nat} {a : Option Addr} {xs : List Value} (h : Rd w sz (.slice a n c) n xs) : n ≤ c := by
  obtain ⟨_, a', cap, e, h1, _⟩ := h
  cases e; exact h1
theorem src_valB {w : World} (b : Nat) (x0 x1 x2 : Value) (h0 : x0.oneCell' = true) (h1 : x1.oneCell' = true) (h2 : x2.oneCell' = true) (hb : w.heap.size = b) : Src Tryz.prog 3 33 (.slice (some ⟨b, 0, none⟩) 1 1) 1 [x0, x1, x2] (w.alloc (.cells #[x0, x1, x2] 50)) := by
  subst hb; exact src_val w x0 x1 x2 h0 h1 h2
theorem width_nat (k : Int) : ∃ W : Nat, widthOf k = (W : Int) ∧ W ≤ 8 := by
  unfold widthOf
  split
  · exact ⟨1, rfl, by decide⟩
  split
  · exact ⟨2, rfl, by decide⟩
  split
  · exact ⟨4, rfl, by decide⟩
  split
  · exact ⟨8, rfl, by decide⟩
  · exact ⟨0, rfl, by decide⟩
/-- A bit of the nulls. -/
theorem R18I.bit {c : Col} {B D E X : SL} {vals : List Value} {w wr : World} {na : Option Addr} {nc N i p : Nat} {l : List V} {A : SL} {xs : List Value} (h : R18I c B D E X vals w wr (.slice na N nc) N i p l A xs) (hi : i < N) : ∃ g off, na = some ⟨g, off, none⟩ ∧ wr.cell? ⟨g, off + i, none⟩ = some (.bool (nullB c.bits i)) := by
  obtain ⟨g, off, cap, e, _, _, _, _, hc, _⟩ := h.nulls.some_ (by omega)
  simp only [Value.slice.injEq, true_and] at e
  refine ⟨g, off, e.1, hc i _ ?_⟩
  rw [List.getElem?_map, bitsOf, List.getElem?_map, List.getElem?_range hi]
  rfl
/-- The end. -/
theorem read_end {c : Col} {l : List V} {p : Nat} (hr : rdRun c c.n.toNat = some (l, p)) (ho : okType c.k c.s = true) (hm : maskOK c.m c.bits = true) (hn : c.m = c.n) : readC c = if equalC (colOf c.k c.s (l.map nrm)) c = true then some l else none := by
  unfold readC readRows
  rw [if_pos ⟨ho, hm, hn⟩, hr]
  rfl

/-- Small enough to be laid anew. -/
def Small18 (c : Col) : Prop := c.n ≤ 20000 ∧ c.data.length ≤ 4900 ∧ ∀ t ∈ c.words, t.length ≤ 4900
theorem rdStep_wf {c : Col} (hc : COK c) (hs : Small18 c) {i p p' : Nat} {v : V} (h : rdStep c i p = some (v, p')) : IsBytes v.text ∧ v.bits < 18446744073709551616 ∧ v.text.length ≤ 4900 ∧ p' ≤ c.data.length := by
  have hw : ∀ W, W ≤ 8 → wordAt c.data p W < 18446744073709551616 := fun W hW => by
    have h1 := wordAt_lt hc.data p W
    have h2 : 256 ^ W ≤ 256 ^ 8 := Nat.pow_le_pow_right (by decide) hW
    have h3 : (256 : Nat) ^ 8 = 18446744073709551616 := by decide
    omega
  have hw8 : (widthOf c.k).toNat ≤ 8 := by
    unfold widthOf
    split
    · decide
    split
    · decide
    split
    · decide
    split <;> decide
  unfold rdStep at h
  split at h
  · split at h
    · rename_i h1
      cases h
      refine ⟨fun x hx => hc.data x (List.mem_of_mem_drop (List.mem_of_mem_take hx)), by simp, ?_, by omega⟩
      have := hs.2.1
      simp [List.length_take, List.length_drop]; omega
    · cases h
  · split at h
    · rename_i h0
      split at h
      · cases h; exact ⟨isBytes_nil, hw _ hw8, by simp, h0⟩
      · split at h
        · split at h
          · rename_i h1 h2 h3
            cases h
            rw [List.getD_eq_getElem?_getD, List.getElem?_eq_getElem h3]
            exact ⟨(hc.words _ (List.getElem_mem h3)).1, by simp, hs.2.2 _ (List.getElem_mem h3), h0⟩
          · cases h
        · split at h
          · cases h; exact ⟨isBytes_nil, hw _ hw8, by simp, h0⟩
          · cases h
    · cases h
theorem rdRun_wf {c : Col} (hc : COK c) (hs : Small18 c) : ∀ {i : Nat} {l : List V} {p : Nat}, rdRun c i = some (l, p) → (∀ v ∈ l, IsBytes v.text ∧ v.bits < 18446744073709551616 ∧ v.text.length ≤ 4900) ∧ p ≤ c.data.length
  | 0, l, p, h => by simp [rdRun] at h; obtain ⟨rfl, rfl⟩ := h; exact ⟨fun v hv => (by cases hv), Nat.zero_le _⟩
  | i + 1, l, p, h => by
    rw [rdRun] at h
    obtain ⟨x, h1, h2⟩ := Option.bind_eq_some_iff.1 h
    obtain ⟨y, h3, h4⟩ := Option.map_eq_some_iff.1 h2
    cases h4
    obtain ⟨g1, g2⟩ := rdRun_wf hc hs (l := x.1) (p := x.2) (by simpa using h1)
    obtain ⟨g3, g4, g5, g6⟩ := rdStep_wf hc hs (v := y.1) (p' := y.2) (by simpa using h3)
    refine ⟨fun v hv => ?_, g6⟩
    rcases List.mem_append.1 hv with hv | hv
    · exact g1 v hv
    · simp at hv; subst hv; exact ⟨g3, g4, g5⟩
end Go.Proofs.YtmhjjhaipcgbiaaGreat


/- mintageref18.Read of any column. -/
namespace Go.Proofs.YtmhjjhaipcgbiaaGreat
open Go.RowKit
set_option linter.unusedVariables false
set_option linter.unusedSimpArgs false
set_option maxRecDepth 100000
set_option maxHeartbeats 4000000

theorem read18_any (c : Col) (hc : COK c) (hs : Small18 c) (B D E X : SL) (vals : List Value) (w : World) (h : RdC w c B D E X vals) : Calls Tryz.prog 84 #[colV c B D E X] w (Read18P c B D E X vals w) := by
  obtain ⟨w0, ew0⟩ : ∃ x, x = w.alloc (.cells #[.int .i64 c.k, .int .i64 c.s, .int .i64 c.n, .int .i64 c.m, .slice B.a c.bits.length B.c, .slice D.a c.data.length D.c, .slice E.a c.ends.length E.c, .slice X.a c.words.length X.c] 63) := ⟨_, rfl⟩
  have hb0 : Below w.heap.size w w0 := by rw [ew0]; exact below_new w _
  have hx0 : w0.heap[w.heap.size]? = some (colB c B D E X) := by rw [ew0]; exact heap_alloc_new w _
  have HR := Aside.mk h
  have HC := Aside.mk hc
  have HSM := Aside.mk hs
  have HB0 := Aside.mk hb0
  have HX0 := Aside.mk hx0
  obtain ⟨d0, d1, d2, d3, d4, d5, d6, d7⟩ := box8 hx0
  have HCT := Aside.mk (fun W => r18check_any c.k c.s W)
  clear h hc hs hb0 hx0
  dsimp only [colV]
  cases hok : okType c.k c.s with
  | false =>
    have HOK := Aside.mk hok
    rw [hok] at HCT
    clear hok
    go_enter Tryz.func84, Tryz.ntmps84
    go_upto_region 1 with fail
    rw [← ew0]
    clear ew0
    go_wp2_with (go_at_call 13; refine (HCT.out _).mono ?_; rintro e w1 ⟨rfl, hb1⟩; have HB1 := Aside.mk (below_chain HB0.out hb1); clear hb1)
    go_ret2
    refine ⟨HB1.out, ?_⟩
    have e : readC c = none := by unfold readC; rw [if_neg (fun h => by have := HOK.out; rw [h.1] at this; cases this)]
    rw [e]
    show _ = Ending.returned (.tuple #[.slice none 0 0, .int .i64 (readE c)])
    unfold readE
    rw [if_pos HOK.out]
    rfl
  | true =>
    have HOK := Aside.mk hok
    rw [hok] at HCT
    clear hok
    go_enter Tryz.func84, Tryz.ntmps84
    go_upto_region 1 with fail
    rw [← ew0]
    clear ew0
    go_upto_region 4 with (go_at_call 13; refine (HCT.out _).mono ?_; rintro e w1 ⟨rfl, hb1⟩; have HX1 := Aside.mk ((hb1.block _ (lt_of_blk HX0.out)).trans HX0.out); have HB1 := Aside.mk (below_chain HB0.out hb1); clear hb1 d0 d1 d2 d3 d4 d5 d6 d7; obtain ⟨d0, d1, d2, d3, d4, d5, d6, d7⟩ := box8 HX1.out)
    clear HX0 HB0
    go_wp2_with fail
    refine (read16_any c.m c.bits B HC.out.lb HC.out.bits w1 (HR.out.below HB1.out).bits).mono ?_
    rintro e w2 ⟨hb2, ⟨hm, na, nc, rfl, hno⟩ | ⟨hm, rfl⟩⟩
    · have HX2 := Aside.mk ((hb2.block _ (lt_of_blk HX1.out)).trans HX1.out)
      have HB2 := Aside.mk (below_chain HB1.out hb2)
      have HNO := Aside.mk (hno.mono HB1.out.size)
      have HMO := Aside.mk hm
      have hm0 := ((maskOK_iff HC.out.bits).1 hm).1
      clear hb2 hno hm d0 d1 d2 d3 d4 d5 d6 d7
      obtain ⟨d0, d1, d2, d3, d4, d5, d6, d7⟩ := box8 HX2.out
      obtain ⟨N, hN⟩ := Int.eq_ofNat_of_zero_le hm0
      rw [hN] at HNO d3
      have HN := Aside.mk hN
      rw [hN]
      clear hN hm0
      rw [Int.toNat_natCast] at HNO ⊢
      have hNm := HNO.out.max
      by_cases hnn : (N : Int) = c.n
      · have HNN := Aside.mk hnn.symm
        rw [← hnn] at d2
        clear hnn
        obtain ⟨W, hW, hW8⟩ := width_nat c.k
        have HWD := Aside.mk (fun w' => show Calls Tryz.prog 78 #[.int .i64 c.k] w' fun e w'' => e = .returned (.int .i64 (W : Int)) ∧ w' = w'' from by have := r18width_any c.k w'; rwa [hW] at this)
        have HWK := Aside.mk hW
        clear hW
        go_wp2_with (go_at_call 78; refine (HWD.out _).mono ?_; rintro e wx ⟨rfl, rfl⟩)
        go_loopw [7, 8, 10] (fun lv pv iv wr => ∃ (i p : Nat) (a : Option Addr) (cp : Nat), i ≤ N ∧ lv = .slice a i cp ∧ pv = .int .i64 (p : Int) ∧ iv = .int .i64 (i : Int) ∧ Aside (∃ l xs, R18I c B D E X vals w wr (.slice na N nc) N i p l ⟨a, cp⟩ xs)) (fun _ _ iv _ => N - (intOf iv).toNat)
        case atStart => exact ⟨0, 0, none, 0, by omega, rfl, rfl, rfl, ⟨[], [], HB2.out, HX2.out, HNO.out, Own.nil _ _ _ _, fun i v hi => (by simp at hi), rfl⟩⟩
        case round =>
          obtain ⟨i, p, a, cp, hi, rfl, rfl, rfl, hp⟩ := hrel
          obtain ⟨l, xs, hI⟩ := hp.out
          clear hp d0 d1 d2 d3 d4 d5 d6 d7
          have hpl := (rdRun_wf HC.out HSM.out hI.run).2
          have hdl := HC.out.ld
          have hel := HC.out.le
          have hwl := HC.out.lw
          obtain ⟨d0, d1, d2, d3, d4, d5, d6, d7⟩ := box8 hI.box
          rw [HNN.out] at d2
          have HI := Aside.mk hI
          have hll := hI.len
          have hrow := hI.row
          rw [hll] at hrow
          have HROW := Aside.mk hrow
          have HLL := Aside.mk hll
          have hsz := hI.bel.size
          have hlt0 := lt_of_blk hI.box
          clear hI hrow hll
          have hN2 : N ≤ 20000 := by have := HSM.out.1; have := HNN.out; omega
          by_cases hlt : i < N
          · obtain ⟨g, off, rfl, hcb⟩ := HI.out.bit hlt
            have hnc := own_capR HI.out.nulls
            have HFAIL := Aside.mk (fun (hs : rdStep c i p = none) => read_fail HI.out.run hs (by have := HNN.out; omega))
            have HNEXT := Aside.mk (show ∀ (v : V) (p' : Nat), rdStep c i p = some (v, p') → ∀ {w2 w5 : World} {ta : Option Addr} {tc tn : Nat} {v5 : Value}, AppP w2 w.heap.size 50 3 (.slice a i cp) i xs 1 [.bool v.null, .int .u64 (v.bits : Int), .slice ta tn tc] v5 w5 → v.text.length = tn → Below wr.heap.size wr w2 → (∀ W, RdC W c B D E X vals → Rd W 1 (.slice ta tn tc) tn (v.text.map (.int .u8))) →
                ∃ a5 c5, v5 = .slice a5 (i + 1) c5 ∧ R18I c B D E X vals w w5 (.slice (some ⟨g, off, none⟩) N nc) N (i + 1) p' (l ++ [v]) ⟨a5, c5⟩ (xs ++ [.bool v.null, .int .u64 (v.bits : Int), .slice ta v.text.length tc]) from by
              intro v p' hs w2 w5 ta tc tn v5 hA htn hb ht
              subst htn
              exact HI.out.next hs hb ht (by dsimp only; rw [HLL.out]; exact hA))
            obtain ⟨nl, hnl⟩ : ∃ b, b = nullB c.bits i := ⟨_, rfl⟩
            rw [← hnl] at hcb
            have HNL := Aside.mk hnl.symm
            clear hnl
            go_upto_region 14 with fail
            have hv3 := heap_alloc_new wr (.cells #[.bool nl, .int .u64 0, .slice none 0 0] 50)
            have hb3 := below_new wr (.cells #[.bool nl, .int .u64 0, .slice none 0 0] 50)
            generalize wr.alloc (.cells #[.bool nl, .int .u64 0, .slice none 0 0] 50) = w3 at *
            clear d0 d1 d2 d3 d4 d5 d6 d7 hcb
            obtain ⟨d0, d1, d2, d3, d4, d5, d6, d7⟩ := box8 ((hb3.block _ hlt0).trans HI.out.box)
            rw [HNN.out] at d2
            have HV3 := Aside.mk hv3
            have HB3 := Aside.mk hb3
            have hlv := lt_of_blk hv3
            obtain ⟨v0, v1, v2⟩ : w3.cell? ⟨wr.heap.size, 0, none⟩ = some (.bool nl) ∧ w3.cell? ⟨wr.heap.size, 1, none⟩ = some (.int .u64 0) ∧ w3.cell? ⟨wr.heap.size, 2, none⟩ = some (.slice none 0 0) := by refine ⟨?_, ?_, ?_⟩ <;> (rw [cell_blk hv3]; rfl)
            have vf := fun k => frozen_blk (k := k) hv3
            clear hv3
            by_cases h15 : c.k = 15
            · have k15 : (c.k == 15) = true := by simpa using h15
              have K15 := Aside.mk h15
              clear h15
              by_cases he1 : i < c.ends.length
              · obtain ⟨g2, off2, cap2, hs2, hlc2, hcap2, hc2⟩ := rd_get HR.out.ends i he1
                have he := ((below_chain HI.out.bel HB3.out).cell (p := ⟨g2, off2 + i, none⟩) (World.block_lt_of_cell? _ _ hc2)).trans hc2
                have hg2 : g2 < wr.heap.size := Nat.lt_of_lt_of_le (World.block_lt_of_cell? _ _ hc2) hsz
                have hg3 : g2 ≠ wr.heap.size := Nat.ne_of_lt hg2
                simp only [Value.slice.injEq, true_and] at hs2
                obtain ⟨e1, e2⟩ := hs2
                rw [e1, e2] at d6
                have hev := HC.out.ends (c.ends.getD i 0) (by rw [List.getD_eq_getElem?_getD, List.getElem?_eq_getElem he1]; exact List.getElem_mem he1)
                unfold IsI64 at hev
                obtain ⟨ev, hevv⟩ : ∃ x, x = c.ends.getD i 0 := ⟨_, rfl⟩
                rw [← hevv] at he hev
                have HEV := Aside.mk hevv.symm
                clear hevv hc2 e1 e2
                have f1 : decide ((c.ends.length : Int) ≤ (i : Int)) = false := by simpa using he1
                have f2 : decide (c.ends.length ≤ i) = false := by simpa using he1
                by_cases he2 : ev < (p : Int)
                · have f3 : decide (ev < (p : Int)) = true := by simpa using he2
                  have HF := Aside.mk (HFAIL.out (by unfold rdStep; rw [if_pos K15.out, if_neg (fun h => by have := HEV.out; omega)]))
                  go_upto_region 15 with fail
                  go_quiet (fail)
                  go_wp2_with fail
                  go_ret2
                  exact read18_no HF.out HOK.out ((below_chain HI.out.bel HB3.out).trans (below_drewN _ _ _))
                have f3 : decide (ev < (p : Int)) = false := by simpa using he2
                by_cases he3 : (c.data.length : Int) < ev
                · have f4 : decide ((c.data.length : Int) < ev) = true := by simpa using he3
                  have HF := Aside.mk (HFAIL.out (by unfold rdStep; rw [if_pos K15.out, if_neg (fun h => by have := HEV.out; omega)]))
                  go_upto_region 15 with fail
                  go_quiet (fail)
                  go_wp2_with fail
                  go_ret2
                  exact read18_no HF.out HOK.out ((below_chain HI.out.bel HB3.out).trans (below_drewN _ _ _))
                obtain ⟨en, rfl⟩ := Int.eq_ofNat_of_zero_le (show 0 ≤ ev by omega)
                have hs5 := fun W => run_slice_mid (P := Tryz.prog) Tryz.underlying43 (sz := 1) (by kernel_rfl) D.a c.data.length D.c p en (by omega) (Nat.le_trans (by omega) (rd_cap HR.out.data)) W
                have HTX := Aside.mk (show ∀ W, RdC W c B D E X vals → Rd W 1 (.slice (cutA D.a D.c p 1) (en - p) (D.c - p)) (en - p) (((c.data.drop p).take (en - p)).map (.int .u8)) from fun W hW => by
                  have := hW.data.mid (i := p) (j := en) (by omega) (by omega)
                  rwa [Nat.mul_one, Nat.mul_one, ← List.map_drop, ← List.map_take] at this)
                have f4 : decide ((c.data.length : Int) < (en : Int)) = false := by simpa using he3
                generalize cutA D.a D.c p 1 = ta at *
                generalize D.c - p = tc at *
                go_upto_region 15 with fail
                go_quiet (fail)
                go_upto_region 17 with fail
                go_region
                have k16 : (c.k == 16) = false := by rw [K15.out]; rfl
                have k15n : (c.k != 15) = false := by rw [K15.out]; rfl
                cases nl
                all_goals
                  go_wp2_with (at_builtin; go_loud (refine wpList_app2 _ rfl _ _ 33 33 rfl w.heap.size 50 (.agg #[.bool false, .int .u64 0, .slice none 0 0]) 3 40 Tryz.underlying33 valinfo rfl _ i xs rfl (HROW.out.below ((by repeat (first | exact Below.refl _ _ | assumption | (refine Below.drew ?_) | (refine Below.trans ?_ (below_drewN _ _ _)) | (refine Below.alloc ?_ (by first | omega | (simp; done) | (simp; omega)) _) | (refine Below.setCell ?_ (by first | omega | (simp; done) | (simp; omega)) _))))) _ 1 [_, _, _] rfl (src_valB w3.heap.size _ _ _ rfl rfl rfl (by simp)) (by unfold maxLen; omega) (by omega) (by simp; omega) ?_))
                  intro v5 w5 hA
                  have HPC := Aside.mk (show ((c.data.drop p).take (en - p)).length = en - p from by rw [List.length_take, List.length_drop]; omega)
                  obtain ⟨a5, c5, rfl, hI5⟩ := HNEXT.out ⟨_, 0, (c.data.drop p).take (en - p)⟩ en (by
                      unfold rdStep
                      rw [if_pos K15.out, HEV.out, if_pos ⟨he1, by omega, by omega⟩, HNL.out]; rfl) hA HPC.out ((by repeat (first | exact Below.refl _ _ | assumption | (refine Below.drew ?_) | (refine Below.trans ?_ (below_drewN _ _ _)) | (refine Below.alloc ?_ (by first | omega | (simp; done) | (simp; omega)) _) | (refine Below.setCell ?_ (by first | omega | (simp; done) | (simp; omega)) _)))) HTX.out
                  have H5 := Aside.mk hI5
                  clear hA hI5
                  go_wp2_with fail
                  exact ⟨⟨i + 1, en, a5, c5, by omega, rfl, rfl, by simp, ⟨_, _, H5.out⟩⟩, by simp [intOf]; omega⟩
              · have f1 : decide ((c.ends.length : Int) ≤ (i : Int)) = true := by simpa using he1
                have f2 : decide (c.ends.length ≤ i) = true := by simpa using he1
                have HF := Aside.mk (HFAIL.out (by unfold rdStep; rw [if_pos K15.out, if_neg (fun h => he1 h.1)]))
                clear he1
                go_upto_region 15 with fail
                go_quiet (fail)
                go_wp2_with fail
                go_ret2
                exact read18_no HF.out HOK.out ((below_chain HI.out.bel HB3.out).trans (below_drewN _ _ _))
            · have k15 : (c.k == 15) = false := by simpa using h15
              have k15n : (c.k != 15) = true := by simpa using h15
              have K15 := Aside.mk h15
              have HWT := Aside.mk (show (widthOf c.k).toNat = W from by rw [HWK.out]; rfl)
              clear h15
              by_cases hpw : p + W ≤ c.data.length
              · have HPW := Aside.mk hpw
                have hs5 := fun W' => run_slice_mid (P := Tryz.prog) Tryz.underlying43 (sz := 1) (by kernel_rfl) D.a c.data.length D.c p (p + W) (by omega) (Nat.le_trans hpw (rd_cap HR.out.data)) W'
                have hrd := HR.out.data.mid (i := p) (j := p + W) (by omega) hpw
                rw [Nat.add_sub_cancel_left, Nat.mul_one, Nat.mul_one, ← List.map_drop, ← List.map_take] at hrd
                simp only [Int.natCast_add, Nat.add_sub_cancel_left] at hs5
                have hxl : ((c.data.drop p).take W).length = W := by rw [List.length_take, List.length_drop]; omega
                have hxb : IsBytes ((c.data.drop p).take W) := fun x hx => HC.out.data x (List.mem_of_mem_drop (List.mem_of_mem_take hx))
                have HNUM := Aside.mk (show Calls Tryz.prog 152 #[.slice (cutA D.a D.c p 1) W (D.c - p)] w3 fun e w' => e = .returned (.int .u64 (wordAt c.data p W : Int)) ∧ w3 = w' from by
                  have := num18_any ((c.data.drop p).take W) ⟨cutA D.a D.c p 1, D.c - p⟩ hxb (by omega) w3 (by rw [hxl]; exact hrd.below (below_chain HI.out.bel HB3.out))
                  rw [numOf_word _ _ _ hpw] at this
                  simpa only [hxl] using this)
                have hb64 : wordAt c.data p W ≤ 18446744073709551615 := by
                  have h1 := wordAt_lt HC.out.data p W
                  have h2 : 256 ^ W ≤ 256 ^ 8 := Nat.pow_le_pow_right (by decide) hW8
                  have h3 : (256 : Nat) ^ 8 = 18446744073709551616 := by decide
                  omega
                have HSTEP := Aside.mk (show rdStep c i p = if nullB c.bits i = true then some (⟨true, wordAt c.data p W, []⟩, p + W)
                    else if c.k = 16 then (if wordAt c.data p W < c.words.length then some (⟨false, 0, c.words.getD (wordAt c.data p W) []⟩, p + W) else none)
                    else if fitsB c.k c.s (wordAt c.data p W) = true then some (⟨false, wordAt c.data p W, []⟩, p + W) else none from by
                  unfold rdStep
                  rw [if_neg K15.out, HWT.out, if_pos HPW.out])
                clear hrd hxl hxb
                generalize wordAt c.data p W = b at *
                generalize cutA D.a D.c p 1 = ta at *
                generalize D.c - p = tc at *
                go_upto_region 22 with (go_at_call 152; refine HNUM.out.mono ?_; rintro e wx ⟨rfl, rfl⟩)
                have hv4 : (w3.setCell ⟨wr.heap.size, 1, none⟩ (.int .u64 (b : Int))).heap[wr.heap.size]? = some (.cells #[.bool nl, .int .u64 (b : Int), .slice none 0 0] 50 (0, 0)) := by
                  have := heap_setCell_at (k := 1) HV3.out (.int .u64 (b : Int)); simpa using this
                have hb4 : Below wr.heap.size wr (w3.setCell ⟨wr.heap.size, 1, none⟩ (.int .u64 (b : Int))) := (by repeat (first | exact Below.refl _ _ | assumption | (refine Below.drew ?_) | (refine Below.trans ?_ (below_drewN _ _ _)) | (refine Below.alloc ?_ (by first | omega | (simp; done) | (simp; omega)) _) | (refine Below.setCell ?_ (by first | omega | (simp; done) | (simp; omega)) _)))
                clear HNUM d0 d1 d2 d3 d4 d5 d6 d7 v0 v1 v2 vf hlv hb3 HV3 HB3 hs5
                generalize w3.setCell ⟨wr.heap.size, 1, none⟩ (.int .u64 (b : Int)) = w4 at *
                obtain ⟨d0, d1, d2, d3, d4, d5, d6, d7⟩ := box8 ((hb4.block _ hlt0).trans HI.out.box)
                rw [HNN.out] at d2
                have HV4 := Aside.mk hv4
                have hlv := lt_of_blk hv4
                obtain ⟨v0, v1, v2⟩ : w4.cell? ⟨wr.heap.size, 0, none⟩ = some (.bool nl) ∧ w4.cell? ⟨wr.heap.size, 1, none⟩ = some (.int .u64 (b : Int)) ∧ w4.cell? ⟨wr.heap.size, 2, none⟩ = some (.slice none 0 0) := by refine ⟨?_, ?_, ?_⟩ <;> (rw [cell_blk hv4]; rfl)
                have vf := fun k => frozen_blk (k := k) hv4
                clear hv4
                cases nl with
                | true =>
                  go_wp2_with (at_builtin; go_loud (refine wpList_app2 _ rfl _ _ 33 33 rfl w.heap.size 50 (.agg #[.bool false, .int .u64 0, .slice none 0 0]) 3 40 Tryz.underlying33 valinfo rfl _ i xs rfl (HROW.out.below ((by repeat (first | exact Below.refl _ _ | assumption | (refine Below.drew ?_) | (refine Below.trans ?_ (below_drewN _ _ _)) | (refine Below.alloc ?_ (by first | omega | (simp; done) | (simp; omega)) _) | (refine Below.setCell ?_ (by first | omega | (simp; done) | (simp; omega)) _))))) _ 1 [_, _, _] rfl (src_valB w4.heap.size _ _ _ rfl rfl rfl (by simp)) (by unfold maxLen; omega) (by omega) (by simp; omega) ?_))
                  intro v5 w5 hA
                  obtain ⟨a5, c5, rfl, hI5⟩ := HNEXT.out ⟨true, b, []⟩ (p + W) (by rw [HSTEP.out, HNL.out]; rfl) hA rfl ((by repeat (first | exact Below.refl _ _ | assumption | (refine Below.drew ?_) | (refine Below.trans ?_ (below_drewN _ _ _)) | (refine Below.alloc ?_ (by first | omega | (simp; done) | (simp; omega)) _) | (refine Below.setCell ?_ (by first | omega | (simp; done) | (simp; omega)) _)))) (fun W _ => Rd.nil W 1)
                  have H5 := Aside.mk hI5
                  clear hA hI5
                  go_wp2_with fail
                  exact ⟨⟨i + 1, p + W, a5, c5, by omega, rfl, by simp, by simp, ⟨_, _, H5.out⟩⟩, by simp [intOf]; omega⟩
                | false =>
                  by_cases h16 : c.k = 16
                  · have k16 : (c.k == 16) = true := by simpa using h16
                    have K16 := Aside.mk h16
                    clear h16
                    by_cases hbw : b < c.words.length
                    · have g1 : decide ((c.words.length : Int) ≤ (b : Int)) = false := by simpa using hbw
                      have g2 : decide (c.words.length ≤ b) = false := by simpa using hbw
                      obtain ⟨ua, uc, q1, q2⟩ := HR.out.each.2 b _ (List.getElem?_eq_getElem hbw)
                      have hvl := HR.out.each.1
                      obtain ⟨g4, off4, cap4, e4, hq1, hq2, hcc⟩ := HR.out.words.some_ (by omega)
                      have hcu0 := hcc b _ q1
                      have hcu := ((below_chain HI.out.bel hb4).cell (p := ⟨g4, off4 + b, none⟩) (World.block_lt_of_cell? _ _ hcu0)).trans hcu0
                      have hg4 : g4 ≠ wr.heap.size := Nat.ne_of_lt (Nat.lt_of_lt_of_le (World.block_lt_of_cell? _ _ hcu0) hsz)
                      simp only [Value.slice.injEq, true_and] at e4
                      obtain ⟨e1, e2⟩ := e4
                      rw [e1, e2] at d7
                      have HQ2 := Aside.mk (show ∀ W, RdC W c B D E X vals → Rd W 1 (.slice ua c.words[b].length uc) c.words[b].length (c.words[b].map (.int .u8)) from fun W hW => by
                        obtain ⟨ua', uc', q1', q2'⟩ := hW.each.2 b _ (List.getElem?_eq_getElem hbw)
                        rw [q1] at q1'
                        have q1' := Option.some.inj q1'
                        simp only [Value.slice.injEq, true_and] at q1'
                        obtain ⟨rfl, rfl⟩ := q1'
                        exact q2')
                      have HGD := Aside.mk (show c.words.getD b [] = c.words[b] from by rw [List.getD_eq_getElem?_getD, List.getElem?_eq_getElem hbw]; rfl)
                      clear q1 q2 hcc hcu0 e1 e2 hvl
                      generalize c.words[b] = ut at *
                      obtain ⟨un, hun⟩ : ∃ n, n = ut.length := ⟨_, rfl⟩
                      rw [← hun] at hcu HQ2
                      have HUN := Aside.mk hun.symm
                      clear hun
                      go_wp2_with (at_builtin; go_loud (refine wpList_app2 _ rfl _ _ 33 33 rfl w.heap.size 50 (.agg #[.bool false, .int .u64 0, .slice none 0 0]) 3 40 Tryz.underlying33 valinfo rfl _ i xs rfl (HROW.out.below ((by repeat (first | exact Below.refl _ _ | assumption | (refine Below.drew ?_) | (refine Below.trans ?_ (below_drewN _ _ _)) | (refine Below.alloc ?_ (by first | omega | (simp; done) | (simp; omega)) _) | (refine Below.setCell ?_ (by first | omega | (simp; done) | (simp; omega)) _))))) _ 1 [_, _, _] rfl (src_valB w4.heap.size _ _ _ rfl rfl rfl (by simp)) (by unfold maxLen; omega) (by omega) (by simp; omega) ?_))
                      intro v5 w5 hA
                      obtain ⟨a5, c5, rfl, hI5⟩ := HNEXT.out ⟨false, 0, ut⟩ (p + W) (by rw [HSTEP.out, HNL.out, if_neg (by decide), if_pos K16.out, if_pos hbw, HGD.out]) hA HUN.out ((by repeat (first | exact Below.refl _ _ | assumption | (refine Below.drew ?_) | (refine Below.trans ?_ (below_drewN _ _ _)) | (refine Below.alloc ?_ (by first | omega | (simp; done) | (simp; omega)) _) | (refine Below.setCell ?_ (by first | omega | (simp; done) | (simp; omega)) _)))) HQ2.out
                      have H5 := Aside.mk hI5
                      clear hA hI5
                      go_wp2_with fail
                      exact ⟨⟨i + 1, p + W, a5, c5, by omega, rfl, by simp, by simp, ⟨_, _, H5.out⟩⟩, by simp [intOf]; omega⟩
                    · have g1 : decide ((c.words.length : Int) ≤ (b : Int)) = true := by simpa using hbw
                      have g2 : decide (c.words.length ≤ b) = true := by simpa using hbw
                      have HF := Aside.mk (HFAIL.out (by rw [HSTEP.out, HNL.out, if_neg (by decide), if_pos K16.out, if_neg hbw]))
                      have HB4 := Aside.mk (below_chain HI.out.bel hb4)
                      go_wp2_with fail
                      go_ret2
                      exact read18_no HF.out HOK.out HB4.out
                  · have k16 : (c.k == 16) = false := by simpa using h16
                    have K16 := Aside.mk h16
                    clear h16
                    cases hf : fitsB c.k c.s (b : Int) with
                    | true =>
                      have HFT := Aside.mk (show Calls Tryz.prog 75 #[.agg #[.int .i64 c.k, .int .i64 c.s], .int .u64 (b : Int)] w4 (FitsP true w4) from by have := r18fits_any c.k c.s b (by omega) (by omega) w4; rwa [hf] at this)
                      have HNX := Aside.mk (show rdStep c i p = some (⟨false, b, []⟩, p + W) from by rw [HSTEP.out, HNL.out, if_neg (by decide), if_neg K16.out, if_pos hf])
                      clear hf
                      go_upto_region 30 with (go_at_call 75; refine HFT.out.mono ?_; rintro e w6 ⟨rfl, hb6⟩; have hv6 := (hb6.block _ hlv).trans HV4.out; have hb60 : Below wr.heap.size wr w6 := below_chain hb4 hb6; clear d0 d1 d2 d3 d4 d5 d6 d7 v0 v1 v2 vf hlv hb6 HFT; have hlv := lt_of_blk hv6; obtain ⟨v0, v1, v2⟩ : w6.cell? ⟨wr.heap.size, 0, none⟩ = some (.bool false) ∧ w6.cell? ⟨wr.heap.size, 1, none⟩ = some (.int .u64 (b : Int)) ∧ w6.cell? ⟨wr.heap.size, 2, none⟩ = some (.slice none 0 0) := (by refine ⟨?_, ?_, ?_⟩ <;> (rw [cell_blk hv6]; rfl)); have vf := fun k => frozen_blk (k := k) hv6; clear hv6; have hsz6 := hb60.size)
                      go_wp2_with (at_builtin; go_loud (refine wpList_app2 _ rfl _ _ 33 33 rfl w.heap.size 50 (.agg #[.bool false, .int .u64 0, .slice none 0 0]) 3 40 Tryz.underlying33 valinfo rfl _ i xs rfl (HROW.out.below ((by repeat (first | exact Below.refl _ _ | assumption | (refine Below.drew ?_) | (refine Below.trans ?_ (below_drewN _ _ _)) | (refine Below.alloc ?_ (by first | omega | (simp; done) | (simp; omega)) _) | (refine Below.setCell ?_ (by first | omega | (simp; done) | (simp; omega)) _))))) _ 1 [_, _, _] rfl (src_valB w6.heap.size _ _ _ rfl rfl rfl (by simp)) (by unfold maxLen; omega) (by omega) (by simp; omega) ?_))
                      intro v5 w5 hA
                      obtain ⟨a5, c5, rfl, hI5⟩ := HNEXT.out ⟨false, b, []⟩ (p + W) HNX.out hA rfl ((by repeat (first | exact Below.refl _ _ | assumption | (refine Below.drew ?_) | (refine Below.trans ?_ (below_drewN _ _ _)) | (refine Below.alloc ?_ (by first | omega | (simp; done) | (simp; omega)) _) | (refine Below.setCell ?_ (by first | omega | (simp; done) | (simp; omega)) _)))) (fun W _ => Rd.nil W 1)
                      have H5 := Aside.mk hI5
                      clear hA hI5
                      go_wp2_with fail
                      exact ⟨⟨i + 1, p + W, a5, c5, by omega, rfl, by simp, by simp, ⟨_, _, H5.out⟩⟩, by simp [intOf]; omega⟩
                    | false =>
                      have HFT := Aside.mk (show Calls Tryz.prog 75 #[.agg #[.int .i64 c.k, .int .i64 c.s], .int .u64 (b : Int)] w4 (FitsP false w4) from by have := r18fits_any c.k c.s b (by omega) (by omega) w4; rwa [hf] at this)
                      have HF := Aside.mk (HFAIL.out (by rw [HSTEP.out, HNL.out, if_neg (by decide), if_neg K16.out, if_neg (by rw [hf]; decide)]))
                      have HB4 := Aside.mk (below_chain HI.out.bel hb4)
                      clear hf
                      go_wp2_with (go_at_call 75; refine HFT.out.mono ?_; rintro e w6 ⟨rfl, hb6⟩; have HB6 := Aside.mk (below_chain HB4.out hb6); clear hb6)
                      go_ret2
                      exact read18_no HF.out HOK.out HB6.out
              · have HF := Aside.mk (HFAIL.out (by unfold rdStep; rw [if_neg K15.out, HWT.out, if_neg hpw]))
                have g1 : decide ((c.data.length : Int) < (p : Int) + (W : Int)) = true := by simp; omega
                have HB4 := Aside.mk (below_chain HI.out.bel HB3.out)
                go_wp2_with fail
                go_ret2
                exact read18_no HF.out HOK.out HB4.out
          · obtain rfl : i = N := by omega
            have hcn : c.n.toNat = i := by have := HNN.out; omega
            have HEND := Aside.mk (read_end (l := l) (p := p) (c := c) (by rw [hcn]; exact HI.out.run) HOK.out HMO.out (by rw [HN.out, HNN.out]))
            have hwf := (rdRun_wf HC.out HSM.out HI.out.run).1
            have hfew : Few l := ⟨by have := HLL.out; omega, fun v hv => (hwf v hv).2.2⟩
            have hlay := lay_gen c.k c.s l HOK.out hfew (fun v hv => ⟨(hwf v hv).1, (hwf v hv).2.1⟩) ⟨a, cp⟩ wr.drew ((HI.out.rdo.vals (HR.out.below HI.out.bel)).below (below_drewN wr _ 1))
            dsimp only at hlay
            rw [HLL.out] at hlay
            have HLAY := Aside.mk hlay
            have HCOK := Aside.mk (show COK (colOf c.k c.s (l.map nrm)) from built_cokB HOK.out (nrm_few hfew) (fun v hv => by obtain ⟨u, hu, rfl⟩ := List.mem_map.1 hv; exact (nrm_wf ⟨(hwf u hu).1, (hwf u hu).2.1⟩).1))
            clear hlay hwf hfew hcn
            generalize hz : colOf c.k c.s (l.map nrm) = z at *
            rw [show (CS.of c.k (l.map nrm)).col c.k c.s = z from hz] at HLAY
            clear hz
            go_upto_region 31 with fail
            go_region_law (first
              | (refine step_call (P := Tryz.prog) wr.drew (by rfl) 25 [.tmp 157, .tmp 158] _ (by rfl) [.agg #[.int .i64 c.k, .int .i64 c.s], .slice a i cp] (by rfl) (fun _ _ => rfl) HLAY.out ?_; rintro e w6 ⟨B6, D6, E6, X6, vals6, rfl, hoc, hb6⟩; replace hb6 := undrew hb6; have HEQ := Aside.mk (equal_col z c HCOK.out HC.out B6 D6 E6 X6 B D E X vals6 vals w6 hoc.rd (HR.out.below (below_chain HI.out.bel hb6))); have HB6 := Aside.mk (below_chain HI.out.bel hb6); have HW6 := Aside.mk hb6; clear d0 d1 d2 d3 d4 d5 d6 d7; obtain ⟨d0, d1, d2, d3, d4, d5, d6, d7⟩ := box8 ((hb6.block _ hlt0).trans HI.out.box); rw [HNN.out] at d2; clear hoc hb6; dsimp only [colV] at HEQ ⊢; rw [HNN.out] at HEQ; refine ⟨_, rfl, ?_⟩)
              | (refine step_call (P := Tryz.prog) w6 (by rfl) 30 [.tmp 159, .tmp 160] _ (by rfl) [.agg #[.int .i64 z.k, .int .i64 z.s, .int .i64 z.n, .int .i64 z.m, .slice B6.a z.bits.length B6.c, .slice D6.a z.data.length D6.c, .slice E6.a z.ends.length E6.c, .slice X6.a z.words.length X6.c], .agg #[.int .i64 c.k, .int .i64 c.s, .int .i64 (i : Int), .int .i64 c.m, .slice B.a c.bits.length B.c, .slice D.a c.data.length D.c, .slice E.a c.ends.length E.c, .slice X.a c.words.length X.c]] (by rfl) (fun _ _ => rfl) HEQ.out ?_; rintro e w7 ⟨rfl, hb7⟩; have HB7 := Aside.mk (below_chain HB6.out hb7); have HW7 := Aside.mk (below_chain HW6.out hb7); clear hb7; refine ⟨_, rfl, ?_⟩))
            all_goals
              cases heq : equalC z c with
              | true =>
                have HE := Aside.mk (show readC c = some l from by rw [HEND.out, heq]; rfl)
                have HRD := Aside.mk (HI.out.rdo.below HW7.out)
                clear heq
                go_wp2_with fail
                go_ret2
                exact read18_yes HE.out HLL.out HB7.out HRD.out
              | false =>
                have HE := Aside.mk (show readC c = none from by rw [HEND.out, heq]; rfl)
                clear heq
                go_wp2_with fail
                go_ret2
                exact read18_no HE.out HOK.out HB7.out
      · have d9 : ((N : Int) != c.n) = true := by simpa using hnn
        have HNN := Aside.mk hnn
        clear hnn
        go_wp2_with fail
        go_ret2
        refine read18_no ?_ HOK.out HB2.out
        unfold readC
        rw [if_neg (fun h => HNN.out (by rw [← HN.out]; exact h.2.2))]
    · have HM := Aside.mk hm
      have HB2 := Aside.mk (below_chain HB1.out hb2)
      clear hb2 hm
      go_wp2_with fail
      go_ret2
      refine read18_no ?_ HOK.out HB2.out
      unfold readC
      rw [if_neg (fun h => by have := HM.out; rw [h.2.1] at this; cases this)]
end Go.Proofs.YtmhjjhaipcgbiaaGreat


/- A region that draws its order and ends in a store: what its loads read is held till that operation; each operation in its turn. Over any program. -/
namespace Go.Proofs.YtmhjjhaipcgbiaaGreat
open Go.RowKit
set_option linter.unusedVariables false

section
variable {P : Program} {ops : Array Oper} {Q : Exit → Act → World → Prop} {md : Region.Mode} {S : World → Prop} {z : Nat}

/-- Any order from here on; S behind each operation but number z. -/
def wpE (P : Program) (md : Region.Mode) (ops : Array Oper) (Q : Exit → Act → World → Prop) (S : World → Prop) (z : Nat) : Nat → Array Bool → Act → World → Prop
  | 0, l, a, w => Region.ready md ops l = [] ∧ Q .normal a w
  | n + 1, l, a, w => (Region.ready md ops l = [] → Q .normal a w) ∧ ∀ k ∈ Region.ready md ops l, wpOp P ops Q k (fun b u => (k ≠ z → S u) ∧ wpE P md ops Q S z n (l.setIfInBounds k true) b u) a w
theorem wpE.any : ∀ {n : Nat} {l : Array Bool} {a : Act} {w : World}, wpE P md ops Q S z n l a w → wpAny P md ops Q n l a w
  | 0, _, _, _, h => h
  | _ + 1, _, _, _, h => ⟨h.1, fun k hk => wpOp_mono (fun _ _ g => g.2.any) (h.2 k hk)⟩

/-- What has been is closed: whatever an operation waits for. -/
def Closed (md : Region.Mode) (ops : Array Oper) (l : Array Bool) : Prop := ∀ (i : Nat) o, ops[i]? = some o → l.getD i false = true → ∀ e ∈ o.after, Region.binds md e = true → l.getD e.on false = true
def closedB (md : Region.Mode) (ops : Array Oper) (l : Array Bool) : Bool := (List.range ops.size).all fun i => !l.getD i false || ((ops[i]?).map (·.after.all fun e => !Region.binds md e || l.getD e.on false)).getD true
theorem closed_spec {l : Array Bool} (h : closedB md ops l = true) : Closed md ops l := fun i o ho hi e he hb => by
  have h1 := List.all_eq_true.1 h i (List.mem_range.2 (Array.getElem?_eq_some_iff.1 ho).1)
  rw [ho, hi] at h1
  simp only [Bool.not_true, Bool.false_or, Option.map_some, Option.getD_some] at h1
  have h2 := Array.all_eq_true'.1 h1 e he
  rw [hb] at h2
  simpa using h2
theorem getD_of {l : Array Bool} {j : Nat} : (l.setIfInBounds j true).getD j false = true ∨ l.size ≤ j := by
  rcases Nat.lt_or_ge j l.size with h | h
  · exact .inl (by simp [h])
  · exact .inr h
theorem Closed.more {l : Array Bool} {j : Nat} (h : Closed md ops l) (hj : j ∈ Region.ready md ops l) : Closed md ops (l.setIfInBounds j true) := fun i o ho hi e he hb => by
  obtain ⟨_, p, hp, hall⟩ := mem_ready.1 hj
  by_cases e1 : j = i
  · subst e1
    rw [ho] at hp; cases hp
    exact getD_set_true (hall e he hb)
  · rw [getD_set_ne false e1] at hi
    exact getD_set_true (h i o ho hi e he hb)

/-- What number z waits for, at whatever remove. -/
def marks (md : Region.Mode) (ops : Array Oper) : Nat → Array Bool → Array Bool
  | 0, m => m
  | i + 1, m => marks md ops i (if m.getD i false = true then ((ops[i]?).map fun o => o.after.toList.foldl (fun m e => if Region.binds md e = true then m.setIfInBounds e.on true else m) m).getD m else m)
def lastB (md : Region.Mode) (ops : Array Oper) (z : Nat) : Bool :=
  let m := marks md ops (z + 1) ((Array.replicate ops.size false).setIfInBounds z true)
  (List.range ops.size).all fun j => j == z || m.getD j false
theorem set_sub {l m : Array Bool} {z k : Nat} (h : ∀ j, j ≠ z → m.getD j false = true → l.getD j false = true) (hk : l.getD k false = true) : ∀ j, j ≠ z → (m.setIfInBounds k true).getD j false = true → l.getD j false = true := fun j hj hm => by
  by_cases e : k = j
  · subst e; exact hk
  · rw [getD_set_ne false e] at hm; exact h j hj hm
theorem fold_sub {l : Array Bool} {z : Nat} : ∀ (es : List Edge) (m : Array Bool), (∀ j, j ≠ z → m.getD j false = true → l.getD j false = true) → (∀ e ∈ es, Region.binds md e = true → l.getD e.on false = true) →
    ∀ j, j ≠ z → (es.foldl (fun m e => if Region.binds md e = true then m.setIfInBounds e.on true else m) m).getD j false = true → l.getD j false = true
  | [], m, h, _ => h
  | e :: es, m, h, he => by
    rw [List.foldl_cons]
    refine fold_sub es _ ?_ (fun x hx => he x (List.mem_cons_of_mem _ hx))
    split
    · rename_i hb; exact set_sub h (he e (List.mem_cons_self ..) hb)
    · exact h
theorem marks_sub {l : Array Bool} (hc : Closed md ops l) (hz : ∀ o, ops[z]? = some o → ∀ e ∈ o.after, Region.binds md e = true → l.getD e.on false = true) : ∀ (n : Nat) (m : Array Bool), (∀ j, j ≠ z → m.getD j false = true → l.getD j false = true) →
    ∀ j, j ≠ z → (marks md ops n m).getD j false = true → l.getD j false = true
  | 0, m, h => h
  | n + 1, m, h => by
    rw [marks]
    refine marks_sub hc hz n _ ?_
    split
    · rename_i hm
      cases ho : ops[n]? with
      | none => exact h
      | some o =>
        simp only [Option.map_some, Option.getD_some]
        refine fold_sub _ _ h (fun e he hb => ?_)
        have he' : e ∈ o.after := by simpa using he
        by_cases en : n = z
        · subst en; exact hz o ho e he' hb
        · exact hc n o ho (h n en hm) e he' hb
    · exact h
theorem last_spec (h : lastB md ops z = true) {l : Array Bool} (hc : Closed md ops l) (hz : z ∈ Region.ready md ops l) {j : Nat} (hj : j < ops.size) (hne : j ≠ z) : l.getD j false = true := by
  obtain ⟨_, o, ho, hall⟩ := mem_ready.1 hz
  have h1 := List.all_eq_true.1 h j (List.mem_range.2 hj)
  simp only [Bool.or_eq_true, beq_iff_eq, hne, false_or] at h1
  refine marks_sub hc (fun p hp => ?_) _ _ (fun i hi hm => ?_) j hne h1
  · rw [ho] at hp; cases hp; exact hall
  · rw [getD_set_ne false (Ne.symm hi)] at hm
    simp [Array.getElem?_replicate] at hm
    split at hm <;> simp at hm

/-- Operation k of the region, taken ahead of its turn. -/
theorem ahead {k : Nat} {o : Oper} {v : Value} (hk0 : ops[k]? = some o) (hsel : ∀ (j : Nat) (p : Oper) cs b, ops[j]? = some p → p.op ≠ .select cs b) (hpan : ∀ c a w, Q (.panic c) (a.put o.dst v) w → Q (.panic c) a w)
    (hz : lastB md ops z = true) (hkz : k ≠ z) : ∀ (n : Nat) {l : Array Bool} {a : Act} {w : World},
    (∀ j p, ops[j]? = some p → j ≠ k → l.getD j true = false → (∀ e ∈ p.after, Region.binds md e = true → e.on ≠ k) → o.apart ops p = true) → k ∈ Region.ready md ops l → YieldsIf P ops S o v a → S w →
    Closed md ops l → wpE P md ops Q S z n (l.setIfInBounds k true) (a.put o.dst v) w → wpE P md ops Q S z (n + 1) l a w := by
  intro n
  induction n with
  | zero =>
    intro l a w hp hk hy hS hcl h
    refine ⟨fun e => absurd hk (by rw [e]; simp), fun j hj => ?_⟩
    by_cases hne : j = k
    · subst hne; exact hy.wpOp hk0 hS ⟨fun _ => hS, h⟩
    · have := ready_mono hj hne
      rw [h.1] at this; cases this
  | succ n ih =>
    intro l a w hp hk hy hS hcl h
    refine ⟨fun e => absurd hk (by rw [e]; simp), fun j hj => ?_⟩
    by_cases hne : j = k
    · subst hne; exact hy.wpOp hk0 hS ⟨fun _ => hS, h⟩
    have hun := (mem_ready.1 hk).1
    have hkl : k < l.size := by
      rcases Nat.lt_or_ge k l.size with hl | hl
      · exact hl
      · simp [Array.getElem?_eq_none hl] at hun
    have hkf : l.getD k false = false := by simpa [hkl] using hun
    have hjz : j ≠ z := fun e => by
      subst e
      have := last_spec hz hcl hj (Array.getElem?_eq_some_iff.1 hk0).1 (Ne.symm hne)
      rw [hkf] at this; cases this
    obtain ⟨hjun, p, hpj, hall⟩ := mem_ready.1 hj
    have hno : ∀ e ∈ p.after, Region.binds md e = true → e.on ≠ k := fun e he hb hek => by
      have g := hall e he hb
      rw [hek, hkf] at g; cases g
    refine wpOp_mono (fun b u g => ?_) (wpOp_putIf hpj (hp j p hpj hne hjun hno) (fun cs b => hsel k o cs b hk0) (fun cs b => hsel j p cs b hpj) hpan hy (h.2 j (ready_mono hj hne)))
    obtain ⟨g1, g2, g3⟩ := g
    rw [← Array.setIfInBounds_comm _ _ hne] at g3
    refine ⟨fun _ => g2 hjz, ih (fun i q hq hik hiun hino => hp i q hq hik ?_ hino) (ready_mono hk (Ne.symm hne)) g1 (g2 hjz) (hcl.more hj) g3⟩
    by_cases e : j = i
    · subst e; exact hjun
    · rwa [getD_set_ne true e] at hiun

theorem wpE_take {k : Nat} {o : Oper} {v : Value} {n : Nat} {l : Array Bool} {a : Act} {w : World} (hk0 : ops[k]? = some o) (hs : Region.noSelect ops = true) (hf : Region.free md ops l k = true) (hr : (Region.ready md ops l).contains k = true) (hz : (lastB md ops z && k != z && closedB md ops l) = true)
    (hpan : ∀ c a w, Q (.panic c) (a.put o.dst v) w → Q (.panic c) a w) (hy : YieldsIf P ops S o v a) (hS : S w)
    (h : wpE P md ops Q S z n (l.setIfInBounds k true) (a.put o.dst v) w) : wpE P md ops Q S z (n + 1) l a w := by
  simp only [Bool.and_eq_true, bne_iff_ne] at hz
  exact ahead hk0 (Region.noSelect_spec hs) hpan hz.1.1 hz.1.2 n (Region.free_spec hk0 hf) (by simpa using hr) hy hS (closed_spec hz.2) h

/-- The one that comes up now. -/
theorem wpE_one {k : Nat} {o : Oper} {n : Nat} {l : Array Bool} {a : Act} {w : World} (hk0 : ops[k]? = some o) (hr : Region.ready md ops l = [k])
    (h : ∀ K : Act → World → Prop, Shut (∀ b u, S u → (S u → wpE P md ops Q S z n (l.setIfInBounds k true) b u) → K b u) → if Region.wanted o (yielded ops a.tmps) = true then Oper.wp P o a w K Q else K (a.put o.dst undef) w) : wpE P md ops Q S z (n + 1) l a w := by
  refine ⟨fun e => (by rw [hr] at e; cases e), fun j hj => ?_⟩
  rw [hr] at hj
  obtain rfl : j = k := by simpa using hj
  exact wpOp_step hk0 (fun K hK => h K (fun b u hS hW => hK b u ⟨fun _ => hS, hW hS⟩))
/-- The last one. -/
theorem wpE_last {k : Nat} {o : Oper} {n : Nat} {l : Array Bool} {a : Act} {w : World} (hk0 : ops[k]? = some o) (hr : Region.ready md ops l = [k]) (hr2 : Region.ready md ops (l.setIfInBounds k true) = []) (hkz : k = z)
    (h : ∀ K : Act → World → Prop, Shut (∀ b u, Q .normal b u → K b u) → if Region.wanted o (yielded ops a.tmps) = true then Oper.wp P o a w K Q else K (a.put o.dst undef) w) : wpE P md ops Q S z (n + 1) l a w := by
  refine ⟨fun e => (by rw [hr] at e; cases e), fun j hj => ?_⟩
  rw [hr] at hj
  obtain rfl : j = k := by simpa using hj
  refine wpOp_step hk0 (fun K hK => h K (fun b u hq => hK b u ⟨fun e => absurd hkz e, ?_⟩))
  cases n with
  | zero => exact ⟨hr2, hq⟩
  | succ n => exact ⟨fun _ => hq, fun i hi => by rw [hr2] at hi; cases hi⟩

theorem wp_regionE {id : Nat} {a : Act} {w : World} (S : World → Prop) (z n : Nat) (hm : P.follows .mixedOrders = true) (hn : ops.size = n) (h : wpE P .any ops Q S z n (Array.replicate n false) a w.drew) : (Code.region id ops true).wp P Q a w := by
  subst hn; exact wp_region_any hm h.any
end
end Go.Proofs.YtmhjjhaipcgbiaaGreat


/- The document's builder: Append of a column of values. -/
namespace Go.Proofs.YtmhjjhaipcgbiaaGreat
open Go.RowKit
set_option linter.unusedVariables false
set_option linter.unusedSimpArgs false
set_option maxRecDepth 100000
set_option maxHeartbeats 1000000

/-- How far the loop is. -/
def RAI (R : Nat → Prop) (rb : Nat) (k s : Int) (l r : List V) (i : Nat) (w w2 wr : World) : Prop :=
  RB wr (fun b => (R b ∧ b < w.heap.size) ∨ w2.heap.size ≤ b) rb k s (l ++ r.take i) ∧ Kept (fun b => R b ∧ b < w.heap.size) w2 wr
theorem rai_next {R : Nat → Prop} {rb : Nat} {k s : Int} {l r : List V} {i : Nat} {w w2 wr wn : World} (h : RAI R rb k s l r i w w2 wr) (hi : i < r.length)
    (hp : RB wn (fun b => ((R b ∧ b < w.heap.size) ∨ w2.heap.size ≤ b) ∨ wr.heap.size ≤ b) rb k s ((l ++ r.take i) ++ [r[i]]) ∧ Kept (fun b => (R b ∧ b < w.heap.size) ∨ w2.heap.size ≤ b) wr wn) : RAI R rb k s l r (i + 1) w w2 wn := by
  have hs := h.2.size
  refine ⟨?_, h.2.trans hp.2 (fun b e hb => e.elim id (fun h => by omega))⟩
  rw [List.take_succ_eq_append_getElem hi, ← List.append_assoc]
  exact hp.1.mono (fun b e _ => e.elim id (fun h => .inr (by omega)))

theorem rappend_yes {k s : Int} (ho : okType k s = true) (R : Nat → Prop) (rb : Nat) (l r : List V) (c : Col) (ec : c = colOf k s r) (hf : Few r ∧ ∀ v ∈ r, vOK k s v) (hs : Small18 c) (hlen : l.length + r.length ≤ 100000) (B D E X : SL) (vals : List Value) (w : World) (h : RB w R rb k s l) (hcol : ∀ w', Kept R w w' → RdC w' c B D E X vals) :
    Calls Tryz.prog 29 #[.pointer (some ⟨rb, 0, none⟩), colV c B D E X] w (RStep R rb k s (l ++ r) (.int .i64 0) w) := by
  have hbf : BF k s r c := by rw [ec]; exact built_facts ho hf.1 hf.2
  have hrc : readC c = some r := by rw [ec]; exact read_built ho r hf.2 (by have := hf.1.1; omega)
  have HR18 := Aside.mk (fun (W : World) (hW : Below w.heap.size w W) => read18_any c hbf.cok hs B D E X vals W (hcol W (Kept.of_below hW)))
  have HRC := Aside.mk hrc
  have hck : (c.k == k) = true := by simpa using hbf.k
  have hcs : (c.s == s) = true := by simpa using hbf.s
  have HCOL := Aside.mk hcol
  have HSM := Aside.mk hf.1.2
  have hrn := hf.1.1
  have HB := Aside.mk (h.mono (R' := fun b => R b ∧ b < w.heap.size) (fun b e hb => ⟨e, hb⟩))
  obtain ⟨A0, xs0, h0⟩ := h
  have hlt0 := lt_of_blk h0.blk
  clear hcol hf hbf hrc ec h0 hs
  dsimp only [colV] at HR18 ⊢
  go_enter Tryz.func29, Tryz.ntmps29
  go_upto_region 1 with fail
  have hx1 := heap_alloc_new w (.cells #[.int .i64 c.k, .int .i64 c.s, .int .i64 c.n, .int .i64 c.m, .slice B.a c.bits.length B.c, .slice D.a c.data.length D.c, .slice E.a c.ends.length E.c, .slice X.a c.words.length X.c] 63)
  have hb1 := below_new w (.cells #[.int .i64 c.k, .int .i64 c.s, .int .i64 c.n, .int .i64 c.m, .slice B.a c.bits.length B.c, .slice D.a c.data.length D.c, .slice E.a c.ends.length E.c, .slice X.a c.words.length X.c] 63)
  generalize w.alloc (.cells #[.int .i64 c.k, .int .i64 c.s, .int .i64 c.n, .int .i64 c.m, .slice B.a c.bits.length B.c, .slice D.a c.data.length D.c, .slice E.a c.ends.length E.c, .slice X.a c.words.length X.c] 63) = w1 at *
  obtain ⟨d0, d1, d2, d3, d4, d5, d6, d7⟩ := box8 hx1
  go_wp2_with fail
  refine (HR18.out w1 hb1).mono ?_
  rintro e w2 ⟨hb2, hp⟩
  rw [HRC.out] at hp
  obtain ⟨⟨a, cp⟩, xs, rfl, hrd⟩ := hp
  have HRD := Aside.mk hrd
  have hx2 := (hb2.block _ (lt_of_blk hx1)).trans hx1
  have hb20 := below_chain hb1 hb2
  have hz1 := hb1.size
  have hz2 := hb2.size
  have hlw1 := lt_of_blk hx1
  clear d0 d1 d2 d3 d4 d5 d6 d7 hrd HR18
  obtain ⟨d0, d1, d2, d3, d4, d5, d6, d7⟩ := box8 hx2
  have HB2 := Aside.mk (HB.out.below hb20)
  have HX2 := Aside.mk hx2
  have HB20 := Aside.mk hb20
  obtain ⟨⟨aa, ac⟩, xs1, h1⟩ := HB2.out
  obtain ⟨q0, q1, q2, q3⟩ := h1.cells
  clear hx1 hx2 hb1 hb2 hb20 h1
  generalize hrl : r.length = n at *
  have HRL := Aside.mk hrl
  clear hrl
  go_upto_region 4 with fail
  go_quiet (fail)
  go_wp2_with fail
  clear d0 d1 d2 d3 d4 d5 d6 d7 q0 q1 q2 q3
  generalize hq : w2.drewN _ = w3
  have HB3 := Aside.mk (show Below w2.heap.size w2 w3 from by rw [← hq]; exact below_drewN _ _ _)
  have hz3 : w3.heap.size = w2.heap.size := by rw [← hq]; rfl
  clear hq
  have HI0 := Aside.mk (show RAI R rb k s l r 0 w w3 w3 from ⟨by rw [List.take_zero, List.append_nil]; exact (HB2.out.below HB3.out).mono (fun b e _ => .inl e), Kept.refl _ _⟩)
  have HRD3 := Aside.mk (HRD.out.below HB3.out)
  have HX3 := Aside.mk ((HB3.out.block _ (lt_of_blk HX2.out)).trans HX2.out)
  have HB30 := Aside.mk (below_chain HB20.out HB3.out)
  have HCK := Aside.mk (And.intro hck hcs)
  clear HB2 HRD HX2 HB20 HB3 hck hcs
  go_loopw [7] (fun iv wr => ∃ i : Nat, i ≤ n ∧ iv = .int .i64 (i : Int) ∧ Aside (RAI R rb k s l r i w w3 wr)) (fun iv _ => n - (intOf iv).toNat)
  case atStart => exact ⟨0, by omega, rfl, HI0⟩
  case round =>
    obtain ⟨i, hi, rfl, hp⟩ := hrel
    by_cases hlt : i < n
    · have hil : i < r.length := by have := HRL.out; omega
      have hk := hp.out.2
      have HK := Aside.mk hk
      have hdr := HRD3.out.kept hk (fun b h1 _ h2 => by omega)
      have hkw : Kept R w wr := (Kept.of_below HB30.out).trans hk (fun b e _ => e.1)
      obtain ⟨g, off, cap, ta, tc, e1, e2, hq1, hq2, v0, v1, v2, ht⟩ := (hdr.vals (HCOL.out wr hkw)).at hil
      simp only at e1 e2
      subst e1 e2
      obtain ⟨⟨aa, ac⟩, xs1, h1⟩ := hp.out.1
      have H1 := Aside.mk h1
      have hsm := HSM.out _ (List.getElem_mem hil)
      have HNX := Aside.mk (fun (wn : World) hh => rai_next (wn := wn) hp.out hil hh)
      obtain ⟨c0, c1, c2, c3⟩ := h1.cells
      have HT := Aside.mk ht
      have hlg := World.block_lt_of_cell? _ _ v0
      have hgl := HRD3.out.row.lt g rfl
      have hgrb : g ≠ rb := by omega
      have hgrb2 : rb ≠ g := by omega
      have HGN := Aside.mk (show ∀ b, (Value.slice aa (l ++ r.take i).length ac).ownBlock = some b → b ≠ g from fun b e e2 => by
        rcases h1.sr b e with h | h
        · have := h.2; omega
        · omega)
      have hlt1 := lt_of_blk h1.blk
      have hm1 : (l ++ r.take i).length = l.length + i := by rw [List.length_append, List.length_take]; omega
      clear hdr hkw ht h1 hp hk
      generalize r[i] = v at *
      generalize l ++ r.take i = lq at *
      obtain ⟨vn, vb, vt⟩ := v
      dsimp only at v0 v1 v2 HT hsm c2
      rw [hm1] at c2 HGN
      have HM1 := Aside.mk hm1
      clear hm1
      generalize hm : l.length + i = m at *
      have hm9 : m ≤ 100000 := by have := HRL.out; omega
      clear hm
      generalize hvl : vt.length = vl at *
      have HVL := Aside.mk hvl
      clear hvl
      have HROW := Aside.mk H1.out.row
      dsimp only at HROW
      rw [HM1.out] at HROW
      have HSR := Aside.mk ((HT.out.below (((below_drewN wr _ 1).trans (below_new wr.drew (.cells #[] 5))))).src (P := Tryz.prog) Tryz.underlying43 (one_map (fun x : Int => Value.int .u8 x) (fun _ => rfl) vt))
      have HTX := Aside.mk (own_emptyD wr 5)
      go_upto_region 9 with fail
      refine wp_regionE (fun w' => w'.cell? ⟨g, off + i * 3, none⟩ = some (.bool vn) ∧ w'.cell? ⟨g, off + i * 3 + 1, none⟩ = some (.int .u64 (vb : Int)) ∧ w'.cell? ⟨g, off + i * 3 + 2, none⟩ = some (.slice ta vl tc) ∧ w'.cell? ⟨rb, 2, none⟩ = some (.slice aa m ac)) 27 28 (by kernel_rfl) rfl ?_
      have hS : (fun w' => w'.cell? ⟨g, off + i * 3, none⟩ = some (.bool vn) ∧ w'.cell? ⟨g, off + i * 3 + 1, none⟩ = some (.int .u64 (vb : Int)) ∧ w'.cell? ⟨g, off + i * 3 + 2, none⟩ = some (.slice ta vl tc) ∧ w'.cell? ⟨rb, 2, none⟩ = some (.slice aa m ac)) wr.drew := ⟨v0, v1, v2, c2⟩
      refine wpE_take (k := 0) (o := ⟨some 29, _, _, _, _, _⟩) (v := ?_) rfl (by kernel_rfl) (by kernel_rfl) (by kernel_rfl) (by kernel_rfl) (fun _ _ _ h => h) (Or.inl ⟨by rfl, ?_⟩) (by assumption) ?_
      rotate_left
      · (intro w hSw; (try dsimp only at hSw); go_simp; (try with_reducible rfl))
      (try simp only [Act.put, List.setIfInBounds_toArray, List.set_cons_zero, List.set_cons_succ])
      refine wpE_take (k := 1) (o := ⟨some 30, _, _, _, _, _⟩) (v := ?_) rfl (by kernel_rfl) (by kernel_rfl) (by kernel_rfl) (by kernel_rfl) (fun _ _ _ h => h) (Or.inl ⟨by rfl, ?_⟩) (by assumption) ?_
      rotate_left
      · (intro w hSw; (try dsimp only at hSw); go_simp; (try with_reducible rfl))
      (try simp only [Act.put, List.setIfInBounds_toArray, List.set_cons_zero, List.set_cons_succ])
      refine wpE_take (k := 2) (o := ⟨some 31, _, _, _, _, _⟩) (v := ?_) rfl (by kernel_rfl) (by kernel_rfl) (by kernel_rfl) (by kernel_rfl) (fun _ _ _ h => h) (Or.inl ⟨by rfl, ?_⟩) (by assumption) ?_
      rotate_left
      · (intro w hSw; (try dsimp only at hSw); go_simp; (try with_reducible rfl))
      (try simp only [Act.put, List.setIfInBounds_toArray, List.set_cons_zero, List.set_cons_succ])
      refine wpE_take (k := 3) (o := ⟨some 32, _, _, _, _, _⟩) (v := ?_) rfl (by kernel_rfl) (by kernel_rfl) (by kernel_rfl) (by kernel_rfl) (fun _ _ _ h => h) (Or.inl ⟨by rfl, ?_⟩) (by assumption) ?_
      rotate_left
      · (intro w hSw; (try dsimp only at hSw); go_simp; (try with_reducible rfl))
      (try simp only [Act.put, List.setIfInBounds_toArray, List.set_cons_zero, List.set_cons_succ])
      refine wpE_take (k := 4) (o := ⟨some 33, _, _, _, _, _⟩) (v := ?_) rfl (by kernel_rfl) (by kernel_rfl) (by kernel_rfl) (by kernel_rfl) (fun _ _ _ h => h) (Or.inl ⟨by rfl, ?_⟩) (by assumption) ?_
      rotate_left
      · (intro w hSw; (try dsimp only at hSw); go_simp; (try with_reducible rfl))
      (try simp only [Act.put, List.setIfInBounds_toArray, List.set_cons_zero, List.set_cons_succ])
      refine wpE_take (k := 5) (o := ⟨some 34, _, _, _, _, _⟩) (v := ?_) rfl (by kernel_rfl) (by kernel_rfl) (by kernel_rfl) (by kernel_rfl) (fun _ _ _ h => h) (Or.inl ⟨by rfl, ?_⟩) (by assumption) ?_
      rotate_left
      · (intro w hSw; (try dsimp only at hSw); go_simp; (try with_reducible rfl))
      (try simp only [Act.put, List.setIfInBounds_toArray, List.set_cons_zero, List.set_cons_succ])
      refine wpE_take (k := 6) (o := ⟨some 35, _, _, _, _, _⟩) (v := ?_) rfl (by kernel_rfl) (by kernel_rfl) (by kernel_rfl) (by kernel_rfl) (fun _ _ _ h => h) (Or.inl ⟨by rfl, ?_⟩) (by assumption) ?_
      rotate_left
      · (intro w hSw; (try dsimp only at hSw); go_simp; (try with_reducible rfl))
      (try simp only [Act.put, List.setIfInBounds_toArray, List.set_cons_zero, List.set_cons_succ])
      refine wpE_take (k := 7) (o := ⟨some 36, _, _, _, _, _⟩) (v := ?_) rfl (by kernel_rfl) (by kernel_rfl) (by kernel_rfl) (by kernel_rfl) (fun _ _ _ h => h) (Or.inl ⟨by rfl, ?_⟩) (by assumption) ?_
      rotate_left
      · (intro w hSw; (try dsimp only at hSw); go_simp; (try with_reducible rfl))
      (try simp only [Act.put, List.setIfInBounds_toArray, List.set_cons_zero, List.set_cons_succ])
      refine wpE_take (k := 8) (o := ⟨some 37, _, _, _, _, _⟩) (v := ?_) rfl (by kernel_rfl) (by kernel_rfl) (by kernel_rfl) (by kernel_rfl) (fun _ _ _ h => h) (Or.inl ⟨by rfl, ?_⟩) (by assumption) ?_
      rotate_left
      · (intro w hSw; (try dsimp only at hSw); go_simp; (try with_reducible rfl))
      (try simp only [Act.put, List.setIfInBounds_toArray, List.set_cons_zero, List.set_cons_succ])
      refine wpE_take (k := 9) (o := ⟨some 38, _, _, _, _, _⟩) (v := ?_) rfl (by kernel_rfl) (by kernel_rfl) (by kernel_rfl) (by kernel_rfl) (fun _ _ _ h => h) (Or.inl ⟨by rfl, ?_⟩) (by assumption) ?_
      rotate_left
      · (intro w hSw; (try dsimp only at hSw); go_simp; (try with_reducible rfl))
      (try simp only [Act.put, List.setIfInBounds_toArray, List.set_cons_zero, List.set_cons_succ])
      refine wpE_take (k := 10) (o := ⟨some 39, _, _, _, _, _⟩) (v := ?_) rfl (by kernel_rfl) (by kernel_rfl) (by kernel_rfl) (by kernel_rfl) (fun _ _ _ h => h) (Or.inl ⟨by rfl, ?_⟩) (by assumption) ?_
      rotate_left
      · (intro w hSw; (try dsimp only at hSw); go_simp; (try with_reducible rfl))
      (try simp only [Act.put, List.setIfInBounds_toArray, List.set_cons_zero, List.set_cons_succ])
      refine wpE_take (k := 11) (o := ⟨some 40, _, _, _, _, _⟩) (v := ?_) rfl (by kernel_rfl) (by kernel_rfl) (by kernel_rfl) (by kernel_rfl) (fun _ _ _ h => h) (Or.inl ⟨by rfl, ?_⟩) (by assumption) ?_
      rotate_left
      · (intro w hSw; (try dsimp only at hSw); go_simp; (try with_reducible rfl))
      (try simp only [Act.put, List.setIfInBounds_toArray, List.set_cons_zero, List.set_cons_succ])
      refine wpE_take (k := 12) (o := ⟨some 41, _, _, _, _, _⟩) (v := ?_) rfl (by kernel_rfl) (by kernel_rfl) (by kernel_rfl) (by kernel_rfl) (fun _ _ _ h => h) (Or.inl ⟨by rfl, ?_⟩) (by assumption) ?_
      rotate_left
      · (intro w hSw; (try dsimp only at hSw); go_simp; (try with_reducible rfl))
      (try simp only [Act.put, List.setIfInBounds_toArray, List.set_cons_zero, List.set_cons_succ])
      refine wpE_take (k := 13) (o := ⟨some 42, _, _, _, _, _⟩) (v := ?_) rfl (by kernel_rfl) (by kernel_rfl) (by kernel_rfl) (by kernel_rfl) (fun _ _ _ h => h) (Or.inl ⟨by rfl, ?_⟩) (by assumption) ?_
      rotate_left
      · (intro w hSw; (try dsimp only at hSw); go_simp; (try with_reducible rfl))
      (try simp only [Act.put, List.setIfInBounds_toArray, List.set_cons_zero, List.set_cons_succ])
      refine wpE_take (k := 14) (o := ⟨some 43, _, _, _, _, _⟩) (v := ?_) rfl (by kernel_rfl) (by kernel_rfl) (by kernel_rfl) (by kernel_rfl) (fun _ _ _ h => h) (Or.inl ⟨by rfl, ?_⟩) (by assumption) ?_
      rotate_left
      · (intro w hSw; (try dsimp only at hSw); go_simp; (try with_reducible rfl))
      (try simp only [Act.put, List.setIfInBounds_toArray, List.set_cons_zero, List.set_cons_succ])
      refine wpE_take (k := 16) (o := ⟨some 45, _, _, _, _, _⟩) (v := ?_) rfl (by kernel_rfl) (by kernel_rfl) (by kernel_rfl) (by kernel_rfl) (fun _ _ _ h => h) (Or.inl ⟨by rfl, ?_⟩) (by assumption) ?_
      rotate_left
      · (intro w hSw; (try dsimp only at hSw); go_simp; (try with_reducible rfl))
      (try simp only [Act.put, List.setIfInBounds_toArray, List.set_cons_zero, List.set_cons_succ])
      refine wpE_take (k := 17) (o := ⟨some 46, _, _, _, _, _⟩) (v := ?_) rfl (by kernel_rfl) (by kernel_rfl) (by kernel_rfl) (by kernel_rfl) (fun _ _ _ h => h) (Or.inl ⟨by rfl, ?_⟩) (by assumption) ?_
      rotate_left
      · (intro w hSw; (try dsimp only at hSw); go_simp; (try with_reducible rfl))
      (try simp only [Act.put, List.setIfInBounds_toArray, List.set_cons_zero, List.set_cons_succ])
      refine wpE_take (k := 18) (o := ⟨some 47, _, _, _, _, _⟩) (v := ?_) rfl (by kernel_rfl) (by kernel_rfl) (by kernel_rfl) (by kernel_rfl) (fun _ _ _ h => h) (Or.inl ⟨by rfl, ?_⟩) (by assumption) ?_
      rotate_left
      · (intro w hSw; (try dsimp only at hSw); go_simp; (try with_reducible rfl))
      (try simp only [Act.put, List.setIfInBounds_toArray, List.set_cons_zero, List.set_cons_succ])
      refine wpE_take (k := 19) (o := ⟨some 48, _, _, _, _, _⟩) (v := ?_) rfl (by kernel_rfl) (by kernel_rfl) (by kernel_rfl) (by kernel_rfl) (fun _ _ _ h => h) (Or.inl ⟨by rfl, ?_⟩) (by assumption) ?_
      rotate_left
      · (intro w hSw; (try dsimp only at hSw); go_simp; (try with_reducible rfl))
      (try simp only [Act.put, List.setIfInBounds_toArray, List.set_cons_zero, List.set_cons_succ])
      refine wpE_take (k := 20) (o := ⟨some 49, _, _, _, _, _⟩) (v := ?_) rfl (by kernel_rfl) (by kernel_rfl) (by kernel_rfl) (by kernel_rfl) (fun _ _ _ h => h) (Or.inl ⟨by rfl, ?_⟩) (by assumption) ?_
      rotate_left
      · (intro w hSw; (try dsimp only at hSw); go_simp; (try with_reducible rfl))
      (try simp only [Act.put, List.setIfInBounds_toArray, List.set_cons_zero, List.set_cons_succ])
      refine wpE_one (k := 15) (o := ⟨some 44, _, _, _, _, _⟩) rfl (by kernel_rfl) (fun K hK => ?_)
      go_simp
      refine hK.out _ _ (⟨(World.cell?_alloc_lt _ _ ⟨g, off + i * 3, none⟩ hlg).trans v0, (World.cell?_alloc_lt _ _ ⟨g, off + i * 3 + 1, none⟩ hlg).trans v1, (World.cell?_alloc_lt _ _ ⟨g, off + i * 3 + 2, none⟩ hlg).trans v2, (World.cell?_alloc_lt _ _ ⟨rb, 2, none⟩ hlt1).trans c2⟩) (fun hS => ?_)
      clear hK K
      try simp only [Act.put, List.setIfInBounds_toArray, List.set_cons_zero, List.set_cons_succ]
      refine wpE_one (k := 21) (o := ⟨some 50, _, _, _, _, _⟩) rfl (by kernel_rfl) (fun K hK => ?_)
      (refine step_app2 (P := Tryz.prog) (wr.drew.alloc (.cells #[] 5)) (.tmp 44) (.tmp 49) 43 43 (by rfl) (by rfl) wr.heap.size 5 (.int .u8 0) 1 1 Tryz.underlying43 byteinfoR (by rfl) (.slice (some ⟨wr.heap.size, 0, none⟩) 0 0) 0 [] (by rfl) HTX.out (.slice ta vl tc) vl (vt.map (.int .u8)) (by rfl) HSR.out (by unfold maxLen; omega) (by omega) (by show wr.heap.size ≤ (wr.alloc _).heap.size; simp) ?_; intro v6 w6 hA; obtain ⟨a6, c6, rfl⟩ := hA.own.form; rw [Nat.zero_add]; have HA6 := Aside.mk (And.intro hA.own hA.grown); clear hA; have B6 := Aside.mk (show Below wr.heap.size wr w6 from ((below_drewN wr _ 1).trans (below_new wr.drew _)).trans (below_of_grown HA6.out.2 (by show wr.heap.size ≤ (wr.alloc _).heap.size; simp) (fun k e => (by cases e; exact Nat.le_refl _)))); have y0 := (B6.out.cell (p := ⟨g, off + i * 3, none⟩) hlg).trans v0; have y1 := (B6.out.cell (p := ⟨g, off + i * 3 + 1, none⟩) hlg).trans v1; have y2 := (B6.out.cell (p := ⟨g, off + i * 3 + 2, none⟩) hlg).trans v2; clear c0 c1 c2 c3; obtain ⟨c0, c1, c2, c3⟩ := (H1.out.below B6.out).cells; dsimp only at c2; rw [HM1.out] at c2; have hl6 := World.block_lt_of_cell? _ _ c0; have hl7 := World.block_lt_of_cell? _ _ y0)
      refine hK.out _ _ (⟨y0, y1, y2, c2⟩) (fun hS => ?_)
      clear hK K
      try simp only [Act.put, List.setIfInBounds_toArray, List.set_cons_zero, List.set_cons_succ]
      refine wpE_take (k := 22) (o := ⟨some 51, _, _, _, _, _⟩) (v := ?_) rfl (by kernel_rfl) (by kernel_rfl) (by kernel_rfl) (by kernel_rfl) (fun _ _ _ h => h) (Or.inl ⟨by rfl, ?_⟩) (by assumption) ?_
      rotate_left
      · (intro w hSw; (try dsimp only at hSw); go_simp; (try with_reducible rfl))
      (try simp only [Act.put, List.setIfInBounds_toArray, List.set_cons_zero, List.set_cons_succ])
      refine wpE_one (k := 23) (o := ⟨some 52, _, _, _, _, _⟩) rfl (by kernel_rfl) (fun K hK => ?_)
      go_simp
      refine hK.out _ _ (⟨(World.cell?_alloc_lt _ _ ⟨g, off + i * 3, none⟩ hl7).trans y0, (World.cell?_alloc_lt _ _ ⟨g, off + i * 3 + 1, none⟩ hl7).trans y1, (World.cell?_alloc_lt _ _ ⟨g, off + i * 3 + 2, none⟩ hl7).trans y2, (World.cell?_alloc_lt _ _ ⟨rb, 2, none⟩ hl6).trans c2⟩) (fun hS => ?_)
      clear hK K
      try simp only [Act.put, List.setIfInBounds_toArray, List.set_cons_zero, List.set_cons_succ]
      refine wpE_one (k := 24) (o := ⟨some 53, _, _, _, _, _⟩) rfl (by kernel_rfl) (fun K hK => ?_)
      (refine step_app2 (P := Tryz.prog) (w6.alloc (.cells #[.bool vn, .int .u64 (vb : Int), .slice a6 vl c6] 50)) (.tmp 33) (.tmp 52) 33 33 (by rfl) (by rfl) 0 50 (.agg #[.bool false, .int .u64 0, .slice none 0 0]) 3 40 Tryz.underlying33 valinfo (by rfl) (.slice aa m ac) m xs1 (by rfl) ((HROW.out.below B6.out).alloc _) (.slice (some ⟨w6.heap.size, 0, none⟩) 1 1) 1 [.bool vn, .int .u64 (vb : Int), .slice a6 vl c6] (by rfl) (src_val _ _ _ _ rfl rfl rfl) (by unfold maxLen; omega) (by omega) (Nat.zero_le _) ?_; intro v5 w5 hA; obtain ⟨a5, c5, rfl⟩ := hA.own.form; have HA5 := Aside.mk hA; clear hA; have K5 := Aside.mk (show Kept (fun b => (Value.slice aa m ac).ownBlock = some b) wr w5 from ((Kept.of_below B6.out).trans (Kept.of_below (below_new w6 _)) (fun _ e _ => e)).trans ((Kept.of_grown HA5.out.grown).mono (fun b e _ => e.symm)) (fun _ e _ => e)); have g5 := (K5.out.block rb hlt1 (HROW.out.blk_ne H1.out.blk (by decide))).trans H1.out.blk; have z0 := K5.out.cell v0 (fun e => HGN.out g e rfl); have z1 := K5.out.cell v1 (fun e => HGN.out g e rfl); have z2 := K5.out.cell v2 (fun e => HGN.out g e rfl); clear c0 c1 c2 c3 y0 y1 y2 v0 v1 v2; have c0 := cell_blk (k := 2) g5; simp at c0; have c3 := fun k => frozen_blk (k := k) g5; clear g5)
      refine hK.out _ _ (⟨z0, z1, z2, by rw [HM1.out] at c0; exact c0⟩) (fun hS => ?_)
      clear hK K
      try simp only [Act.put, List.setIfInBounds_toArray, List.set_cons_zero, List.set_cons_succ]
      refine wpE_take (k := 25) (o := ⟨some 54, _, _, _, _, _⟩) (v := ?_) rfl (by kernel_rfl) (by kernel_rfl) (by kernel_rfl) (by kernel_rfl) (fun _ _ _ h => h) (Or.inl ⟨by rfl, ?_⟩) (by assumption) ?_
      rotate_left
      · (intro w hSw; (try dsimp only at hSw); go_simp; (try with_reducible rfl))
      (try simp only [Act.put, List.setIfInBounds_toArray, List.set_cons_zero, List.set_cons_succ])
      refine wpE_take (k := 26) (o := ⟨some 55, _, _, _, _, _⟩) (v := ?_) rfl (by kernel_rfl) (by kernel_rfl) (by kernel_rfl) (by kernel_rfl) (fun _ _ _ h => h) (Or.inl ⟨by rfl, ?_⟩) (by assumption) ?_
      rotate_left
      · (intro w hSw; (try dsimp only at hSw); go_simp; (try with_reducible rfl))
      (try simp only [Act.put, List.setIfInBounds_toArray, List.set_cons_zero, List.set_cons_succ])
      refine wpE_last (k := 27) (o := ⟨none, _, _, _, _, _⟩) rfl (by kernel_rfl) (by kernel_rfl) rfl (fun K hK => ?_)
      go_simp
      refine hK.out _ _ ?_
      clear hK K
      all_goals
        have h6 := HA6.out.1
        rw [Nat.zero_add, List.nil_append] at h6
        have HP := Aside.mk (H1.out.push (v := ⟨vn, vb, vt⟩) (ta := a6) (tc := c6) B6.out (by dsimp only; rw [HVL.out]; exact h6) (by dsimp only; rw [HM1.out, HVL.out]; exact HA5.out))
        have HQ := Aside.mk (HNX.out _ HP.out)
        clear h6
        go_wp2_with fail
        exact ⟨⟨i + 1, by omega, by simp, HQ⟩, by simp [intOf]; omega⟩
    · obtain rfl : i = n := by omega
      have hp2 := hp.out
      unfold RAI at hp2
      rw [← HRL.out, List.take_length] at hp2
      have HE := Aside.mk hp2
      clear hp2 hp
      go_wp2_with fail
      go_ret
      have hz := HB30.out.size
      exact ⟨rfl, HE.out.1.mono (fun b e _ => e.elim (fun h => .inl h.1) (fun h => .inr (by omega))), (Kept.of_below HB30.out).trans HE.out.2 (fun b e _ => e.1)⟩

theorem rappend_no {k s : Int} (R : Nat → Prop) (rb : Nat) (l r : List V) (c : Col) (hc : COK c) (hrc : readC c = some r) (hs : Small18 c) (hne : ¬ (c.k = k ∧ c.s = s)) (B D E X : SL) (vals : List Value) (w : World) (h : RB w R rb k s l) (hcol : RdC w c B D E X vals) :
    Calls Tryz.prog 29 #[.pointer (some ⟨rb, 0, none⟩), colV c B D E X] w (IntP 174 w) := by
  have HR18 := Aside.mk (fun (W : World) (hW : Below w.heap.size w W) => read18_any c hc hs B D E X vals W (hcol.below hW))
  have HRC := Aside.mk hrc
  have HNE := Aside.mk hne
  have HB := Aside.mk h
  clear hcol hrc hs hc hne
  dsimp only [colV] at HR18 ⊢
  go_enter Tryz.func29, Tryz.ntmps29
  go_upto_region 1 with fail
  have hx1 := heap_alloc_new w (.cells #[.int .i64 c.k, .int .i64 c.s, .int .i64 c.n, .int .i64 c.m, .slice B.a c.bits.length B.c, .slice D.a c.data.length D.c, .slice E.a c.ends.length E.c, .slice X.a c.words.length X.c] 63)
  have hb1 := below_new w (.cells #[.int .i64 c.k, .int .i64 c.s, .int .i64 c.n, .int .i64 c.m, .slice B.a c.bits.length B.c, .slice D.a c.data.length D.c, .slice E.a c.ends.length E.c, .slice X.a c.words.length X.c] 63)
  generalize w.alloc (.cells #[.int .i64 c.k, .int .i64 c.s, .int .i64 c.n, .int .i64 c.m, .slice B.a c.bits.length B.c, .slice D.a c.data.length D.c, .slice E.a c.ends.length E.c, .slice X.a c.words.length X.c] 63) = w1 at *
  obtain ⟨d0, d1, d2, d3, d4, d5, d6, d7⟩ := box8 hx1
  go_wp2_with fail
  refine (HR18.out w1 hb1).mono ?_
  rintro e w2 ⟨hb2, hp⟩
  rw [HRC.out] at hp
  obtain ⟨⟨a, cp⟩, xs, rfl, hrd⟩ := hp
  have hx2 := (hb2.block _ (lt_of_blk hx1)).trans hx1
  have hb20 := below_chain hb1 hb2
  clear d0 d1 d2 d3 d4 d5 d6 d7 hrd HR18
  obtain ⟨d0, d1, d2, d3, d4, d5, d6, d7⟩ := box8 hx2
  have HB20 := Aside.mk hb20
  obtain ⟨⟨aa, ac⟩, xs1, h1⟩ := HB.out.below hb20
  obtain ⟨q0, q1, q2, q3⟩ := h1.cells
  clear hx1 hx2 hb1 hb2 hb20 h1
  generalize hrl : r.length = n at *
  clear hrl
  go_upto_region 4 with fail
  by_cases hk : c.k = k
  · have e1 : (c.k == k) = true := by simpa using hk
    have e2 : (c.s == s) = false := by have := HNE.out; simp; intro e; exact this ⟨hk, e⟩
    clear hk
    go_quiet (fail)
    go_wp2_with fail
    go_ret
    exact ⟨rfl, HB20.out.trans (below_drewN _ _ _)⟩
  · have e1 : (c.k == k) = false := by simpa using hk
    clear hk
    go_quiet (fail)
    go_wp2_with fail
    go_ret
    exact ⟨rfl, HB20.out.trans (below_drewN _ _ _)⟩
end Go.Proofs.YtmhjjhaipcgbiaaGreat


/- Rows that are written full, and grown. Plain. -/
namespace Go.Proofs.YtmhjjhaipcgbiaaGreat
open Go.RowKit
set_option linter.unusedVariables false
set_option linter.unusedSimpArgs false
set_option maxRecDepth 100000
set_option maxHeartbeats 1000000

/-- Rows, and what stands in them. -/
structure RW (w : World) (E TE : TypeId) (v : Value) (rows : List KRow) (f : Nat → List Value) : Prop where
  rv : Own w 0 TE 1 v rows.length (rows.map KRow.val)
  row : ∀ (i : Nat) r, rows[i]? = some r → Own w 0 E 1 r.val r.xs.length (f i)
  apart : ∀ (i j : Nat) r r', i < j → rows[i]? = some r → rows[j]? = some r' → ∀ b, r.val.ownBlock = some b → r'.val.ownBlock ≠ some b
  small : ∀ (i : Nat) r, rows[i]? = some r → r.xs.length ≤ 100000000
/-- The blocks of the rows. -/
def RowsB (rows : List KRow) (b : Nat) : Prop := ∃ r ∈ rows, r.val.ownBlock = some b

theorem BR.rw_ {w : World} {E TE : TypeId} {K : IntKind} {v : Value} {rows : List KRow} (h : BR w E TE K v rows) : RW w E TE v rows (fun i => ((rows[i]?.map KRow.xs).getD []).map (.int K)) :=
  ⟨h.rv, fun i r hi => by simp only [hi, Option.map_some, Option.getD_some]; exact h.row i r hi, h.apart, fun i r hi => h.small r (List.mem_of_getElem? hi)⟩
theorem RW.below {w w' : World} {E TE : TypeId} {v : Value} {rows : List KRow} {f : Nat → List Value} (h : RW w E TE v rows f) (hb : Below w.heap.size w w') : RW w' E TE v rows f :=
  ⟨h.rv.below hb, fun i r hi => (h.row i r hi).below hb, h.apart, h.small⟩
theorem RW.ne {w : World} {E TE : TypeId} {v : Value} {rows : List KRow} {f : Nat → List Value} (h : RW w E TE v rows f) {i m : Nat} {r r' : KRow} (hi : rows[i]? = some r) (hm : rows[m]? = some r') (hne : m ≠ i) {b : Nat} (e : r.val.ownBlock = some b) : r'.val.ownBlock ≠ some b := by
  rcases Nat.lt_or_ge m i with hl | hl
  · exact fun e2 => h.apart m i r' r hl hm hi b e2 e
  · exact h.apart i m r r' (by omega) hi hm b e
/-- A cell of a row is written. -/
theorem RW.store {w : World} {E TE : TypeId} {v : Value} {rows : List KRow} {f : Nat → List Value} (h : RW w E TE v rows f) (hne : E ≠ TE) {i g off c : Nat} {xs : List Int} (hi : rows[i]? = some ⟨some ⟨g, off, none⟩, c, xs⟩) (j : Nat) (u : Value) :
    RW (w.setCell ⟨g, off + j, none⟩ u) E TE v rows (fun m => if m = i then (f i).set j u else f m) := by
  have hb : (KRow.val ⟨some ⟨g, off, none⟩, c, xs⟩).ownBlock = some g := rfl
  obtain ⟨cur, hg⟩ := own_blk (h.row i _ hi) hb
  refine ⟨h.rv.set_other (h.rv.blk_ne hg hne) _, fun m r hm => ?_, h.apart, h.small⟩
  by_cases e : m = i
  · subst e
    rw [hi] at hm; cases hm
    rw [if_pos rfl]
    exact (h.row m _ hi).stored j u
  · rw [if_neg e]
    exact (h.row m r hm).set_other (h.ne hi hm e hb) _

/-- The rows ahead of i are full, and i's first k cells are. -/
def Full (mark : Nat → Value) (rows : List KRow) (f : Nat → List Value) (i k : Nat) : Prop :=
  (∀ m r, m < i → rows[m]? = some r → f m = List.replicate r.xs.length (mark m)) ∧ (f i).take k = List.replicate k (mark i)
theorem Full.start (mark : Nat → Value) (rows : List KRow) (f : Nat → List Value) : Full mark rows f 0 0 := ⟨fun m r h => by omega, by simp⟩
theorem Full.step {mark : Nat → Value} {rows : List KRow} {f : Nat → List Value} {i k : Nat} (h : Full mark rows f i k) (hk : k < (f i).length) : Full mark rows (fun m => if m = i then (f i).set k (mark i) else f m) i (k + 1) := by
  refine ⟨fun m r hm hr => ?_, ?_⟩
  · show (if m = i then (f i).set k (mark i) else f m) = _
    rw [if_neg (by omega)]; exact h.1 m r hm hr
  · show List.take (k + 1) (if i = i then (f i).set k (mark i) else f i) = _
    rw [if_pos rfl, List.take_add_one, List.take_set_of_le (Nat.le_refl _), h.2, List.getElem?_set_self hk, List.replicate_succ']
    rfl
theorem Full.next {w : World} {E TE : TypeId} {v : Value} {mark : Nat → Value} {rows : List KRow} {f : Nat → List Value} {i : Nat} {r : KRow} (h : Full mark rows f i r.xs.length) (hw : RW w E TE v rows f) (hi : rows[i]? = some r) : Full mark rows f (i + 1) 0 := by
  refine ⟨fun m r' hm hr => ?_, by simp⟩
  by_cases e : m = i
  · subst e
    rw [hi] at hr; cases hr
    have hl := (hw.row m _ hi).1
    rw [← h.2, List.take_of_length_le (by omega)]
  · exact h.1 m r' (by omega) hr

/-- The rows that were grown. -/
structure GR (base : Nat) (w : World) (E TE : TypeId) (mark m0 m1 : Nat → Value) (rows : List KRow) (gv : Value) (gs : List Value) : Prop where
  gv : Own w base TE 1 gv gs.length gs
  g : ∀ (i : Nat) r, i < gs.length → rows[i]? = some r → ∃ a c, gs[i]? = some (.slice a (r.xs.length + 2) c) ∧ Own w 0 E 1 (.slice a (r.xs.length + 2) c) (r.xs.length + 2) (List.replicate r.xs.length (mark i) ++ [m0 i, m1 i]) ∧
    ∀ b, (Value.slice a (r.xs.length + 2) c).ownBlock = some b → r.val.ownBlock = some b ∨ base ≤ b
theorem GR.start {base : Nat} {w : World} {E TE : TypeId} {mark m0 m1 : Nat → Value} {rows : List KRow} : GR base w E TE mark m0 m1 rows (.slice none 0 0) [] := ⟨Own.nil _ _ _ _, fun i r h => by simp at h⟩
theorem GR.below {base : Nat} {w w' : World} {E TE : TypeId} {mark m0 m1 : Nat → Value} {rows : List KRow} {gv : Value} {gs : List Value} (h : GR base w E TE mark m0 m1 rows gv gs) (hb : Below w.heap.size w w') : GR base w' E TE mark m0 m1 rows gv gs :=
  ⟨h.gv.below hb, fun i r h1 h2 => by
    obtain ⟨a, c, q1, q2, q3⟩ := h.g i r h1 h2
    exact ⟨a, c, q1, q2.below hb, q3⟩⟩

theorem grow_gv {base : Nat} {w w1 w2 w3 w4 : World} {E TE : TypeId} {mark m0 m1 : Nat → Value} {rows : List KRow} {gv g1 g2 rv : Value} {n : Nat} {xs ys na nb : List Value} {gs : List Value}
    (hg : GR base w E TE mark m0 m1 rows gv gs) (hbase : base ≤ w.heap.size) (hrb : ∀ b, rv.ownBlock = some b → b < base)
    (hb1 : Below w.heap.size w w1) (hA : AppP w1 0 E 1 rv n xs 1 na g1 w2) (hb2 : Below w2.heap.size w2 w3) (hB : AppP w3 0 E 1 g1 (n + 1) ys 1 nb g2 w4) : Own w4 base TE 1 gv gs.length gs := by
  have K1 : Kept (fun b => rv.ownBlock = some b) w w2 := (Kept.of_below hb1).trans ((Kept.of_grown hA.grown).mono (fun b e _ => e.symm)) (fun _ e _ => e)
  have K2 : Kept (fun b => g1.ownBlock = some b) w2 w4 := (Kept.of_below hb2).trans ((Kept.of_grown hB.grown).mono (fun b e _ => e.symm)) (fun _ e _ => e)
  have sw1 : w.heap.size ≤ w1.heap.size := hb1.size
  refine (hg.gv.kept K1 (fun b e e2 => by have := (hg.gv.lt b e).1; have := hrb b e2; omega)).kept K2 (fun b e e2 => ?_)
  rcases hA.blk with h | ⟨b', h, h2⟩
  · have := (hg.gv.lt b e).1; have := hrb b (h ▸ e2); omega
  · rw [h] at e2; cases e2
    have := (hg.gv.lt b e).2; omega
/-- One row is grown. -/
theorem grow_step {base : Nat} {w w1 w2 w3 w4 w5 w6 : World} {E TE : TypeId} {mark m0 m1 : Nat → Value} {rows : List KRow} {v gv gv' g1 g2 : Value} {gs : List Value} {f : Nat → List Value} {r : KRow} (hw : RW w E TE v rows f) (hf : ∀ m r, rows[m]? = some r → f m = List.replicate r.xs.length (mark m))
    (hg : GR base w E TE mark m0 m1 rows gv gs) (hi : rows[gs.length]? = some r) (hbase : base ≤ w.heap.size) (hrb : ∀ b, RowsB rows b → b < base) (hvb : ∀ b, v.ownBlock = some b → b < base) (hne : E ≠ TE)
    (hb1 : Below w.heap.size w w1) (hA : AppP w1 0 E 1 r.val r.xs.length (f gs.length) 1 [m0 gs.length] g1 w2)
    (hb2 : Below w2.heap.size w2 w3) (hB : AppP w3 0 E 1 g1 (r.xs.length + 1) (f gs.length ++ [m0 gs.length]) 1 [m1 gs.length] g2 w4)
    (hb3 : Below w4.heap.size w4 w5) (hC : AppP w5 base TE 1 gv gs.length gs 1 [g2] gv' w6) :
    RW w6 E TE v rows f ∧ GR base w6 E TE mark m0 m1 rows gv' (gs ++ [g2]) ∧ Kept (fun b => RowsB rows b ∨ base ≤ b) w w6 := by
  have hrm : r ∈ rows := List.mem_of_getElem? hi
  have K1 : Kept (fun b => r.val.ownBlock = some b) w w2 := (Kept.of_below hb1).trans ((Kept.of_grown hA.grown).mono (fun b e _ => e.symm)) (fun _ e _ => e)
  have K2 : Kept (fun b => g1.ownBlock = some b) w2 w4 := (Kept.of_below hb2).trans ((Kept.of_grown hB.grown).mono (fun b e _ => e.symm)) (fun _ e _ => e)
  have K3 : Kept (fun b => gv.ownBlock = some b) w4 w6 := (Kept.of_below hb3).trans ((Kept.of_grown hC.grown).mono (fun b e _ => e.symm)) (fun _ e _ => e)
  have s1 : w.heap.size ≤ w2.heap.size := K1.size
  have s2 : w2.heap.size ≤ w4.heap.size := K2.size
  have sw1 : w.heap.size ≤ w1.heap.size := hb1.size
  have sw3 : w2.heap.size ≤ w3.heap.size := hb2.size
  have g1b : ∀ b, g1.ownBlock = some b → r.val.ownBlock = some b ∨ w.heap.size ≤ b := fun b e => by
    rcases hA.blk with h | ⟨b', h, h2⟩
    · exact .inl (h ▸ e)
    · rw [h] at e; cases e; exact .inr (by omega)
  have gvb : ∀ b, gv.ownBlock = some b → base ≤ b := fun b e => (hg.gv.lt b e).1
  have rlt : ∀ b, r.val.ownBlock = some b → b < base := fun b e => hrb b ⟨r, hrm, e⟩
  have K : Kept (fun b => RowsB rows b ∨ base ≤ b) w w6 := by
    refine Kept.trans (S := fun b => RowsB rows b ∨ base ≤ b) (Kept.trans (S := fun b => RowsB rows b ∨ base ≤ b) (K1.mono (fun b e _ => .inl ⟨r, hrm, e⟩)) K2 (fun b e _ => ?_)) K3 (fun b e _ => .inr (gvb b e))
    rcases g1b b e with h | h
    · exact .inl ⟨r, hrm, h⟩
    · exact .inr (by omega)
  -- a row of type E is none of the list's
  have keep3 : ∀ {a : Value} {n : Nat} {xs : List Value}, Own w4 0 E 1 a n xs → Own w6 0 E 1 a n xs := fun {a n xs} h => h.kept K3 (fun b e e2 => by
    have h5 : Own w4 base TE 1 gv gs.length gs := (hg.gv.kept K1 (fun b e e2 => by have := gvb b e; have := rlt b e2; omega)).kept K2 (fun b e e2 => by
      rcases g1b b e2 with h | h
      · have := gvb b e; have := rlt b h; omega
      · have := (hg.gv.lt b e).2; omega)
    obtain ⟨cur, q⟩ := own_blk h e
    exact h5.blk_ne q hne e2)
  refine ⟨⟨hw.rv.kept K (fun b e h => ?_), fun m x hm => ?_, hw.apart, hw.small⟩, ⟨?_, fun j x hj hx => ?_⟩, K⟩
  · rcases h with ⟨x, hx, e2⟩ | h
    · obtain ⟨m, hm, rfl⟩ := List.mem_iff_getElem.1 hx
      obtain ⟨cur, q⟩ := own_blk (hw.row m _ (List.getElem?_eq_getElem hm)) e2
      exact hw.rv.blk_ne q hne e
    · have := hvb b e; omega
  · apply keep3
    by_cases e : m = gs.length
    · subst e
      rw [hi] at hm; cases hm
      rcases hA.same with ⟨a, c, e1, e2⟩ | ⟨b, e1, h1⟩
      · have h4 := hB.old
        rw [e2] at h4
        rw [e1]
        exact own_front0 h4 (by simpa using (hw.row _ _ hi).1)
      · refine hA.old.kept K2 (fun b2 e2 e3 => ?_)
        rw [e1] at e3; cases e3
        have := rlt b e2
        omega
    · refine ((hw.row m x hm).kept K1 (fun b e1 e2 => hw.ne hi hm e e2 e1)).kept K2 (fun b e1 e2 => ?_)
      rcases g1b b e2 with h | h
      · exact hw.ne hi hm e h e1
      · have := hrb b ⟨x, List.mem_of_getElem? hm, e1⟩; omega
  · rw [List.length_append]; exact hC.own
  · by_cases e : j < gs.length
    · obtain ⟨a, c, q1, q2, q3⟩ := hg.g j x e hx
      refine ⟨a, c, by rw [List.getElem?_append_left e]; exact q1, keep3 ((q2.kept K1 (fun b e1 e2 => ?_)).kept K2 (fun b e1 e2 => ?_)), q3⟩
      · rcases q3 b e1 with h | h
        · exact hw.ne hi hx (by omega) e2 h
        · have := rlt b e2; omega
      · rcases g1b b e2 with h | h
        · rcases q3 b e1 with h3 | h3
          · exact hw.ne hi hx (by omega) h h3
          · have := rlt b h; omega
        · have := (q2.lt b e1).2; omega
    · have hj2 : j = gs.length := by simp at hj; omega
      subst hj2
      rw [hi] at hx; cases hx
      obtain ⟨a, c, e2⟩ := hB.own.form
      have hO := hB.own
      subst e2
      refine ⟨a, c, by rw [List.getElem?_append_right (Nat.le_refl _)]; simp, keep3 ?_, fun b e => ?_⟩
      · rw [hf _ _ hi] at hO
        simpa [List.append_assoc] using hO
      · rcases hB.blk with h | ⟨b', h, h2⟩
        · rcases g1b b (h ▸ e) with h | h
          · exact .inl h
          · exact .inr (by omega)
        · have e' : some b' = some b := h.symm.trans e
          cases e'; exact .inr (by omega)
end Go.Proofs.YtmhjjhaipcgbiaaGreat


/- (*mintagekeep.Book).closeBytes. -/
namespace Go.Proofs.YtmhjjhaipcgbiaaGreat
open Go.RowKit
set_option linter.unusedVariables false
set_option linter.unusedSimpArgs false
set_option maxRecDepth 100000
set_option maxHeartbeats 1000000

def bM (d : Int) (m : Nat) : Value := .int .u8 (((m : Int) + d) % 256)
theorem byteinfo8 : (Tryz.prog.info? 5).map (fun i => (i.zero, i.size, i.bytes)) = some (some (.int .u8 0), 1, 1) := by kernel_rfl
theorem bytesinfo8 : (Tryz.prog.info? 43).map (fun i => (i.zero, i.size, i.bytes)) = some (some (.slice none 0 0), 1, 24) := by kernel_rfl
theorem rw_at {w : World} {E TE : TypeId} {a : Option Addr} {c : Nat} {rows : List KRow} {f : Nat → List Value} (h : RW w E TE (.slice a rows.length c) rows f) {i : Nat} (hi : i < rows.length) : ∃ g off, a = some ⟨g, off, none⟩ ∧ rows.length ≤ c ∧ c ≤ 9223372036854775807 ∧ w.cell? ⟨g, off + i, none⟩ = some rows[i].val := by
  obtain ⟨g, off, cap, e, h1, h2, h3, h4, h5, _⟩ := h.rv.some_ (by omega)
  simp only [Value.slice.injEq, true_and] at e
  obtain ⟨rfl, rfl⟩ := e
  exact ⟨g, off, rfl, h3, h4, h5 i _ (by rw [List.getElem?_map, List.getElem?_eq_getElem hi]; rfl)⟩
theorem rw_row {w : World} {E TE : TypeId} {v : Value} {rows : List KRow} {f : Nat → List Value} (h : RW w E TE v rows f) {i : Nat} {a : Option Addr} {c : Nat} {xs : List Int} (hi : rows[i]? = some ⟨a, c, xs⟩) {k : Nat} (hk : k < xs.length) : ∃ g off u, a = some ⟨g, off, none⟩ ∧ xs.length ≤ c ∧ c ≤ 9223372036854775807 ∧ w.cell? ⟨g, off + k, none⟩ = some u ∧ (f i)[k]? = some u ∧ ∀ k, w.frozen? ⟨g, k, none⟩ = false := by
  have h0 := h.row i _ hi
  obtain ⟨g, off, cap, e, h1, h2, h3, h4, h5, h6⟩ := h0.some_ (show 0 < xs.length by omega)
  simp only [KRow.val, Value.slice.injEq, true_and] at e
  obtain ⟨rfl, rfl⟩ := e
  have hl : k < (f i).length := by have := h0.1; simp at this; omega
  exact ⟨g, off, _, rfl, h3, h4, h5 k _ (List.getElem?_eq_getElem hl), List.getElem?_eq_getElem hl, h6⟩

theorem rw_mark {w : World} {E TE : TypeId} {v : Value} {mark : Nat → Value} {rows : List KRow} {f : Nat → List Value} (h : RW w E TE v rows f) (hf : ∀ m r, rows[m]? = some r → f m = List.replicate r.xs.length (mark m)) {i : Nat} {a : Option Addr} {c : Nat} {xs : List Int} (hi : rows[i]? = some ⟨a, c, xs⟩) {k : Nat} (hk : k < xs.length) : ∃ g off, a = some ⟨g, off, none⟩ ∧ xs.length ≤ c ∧ c ≤ 9223372036854775807 ∧ w.cell? ⟨g, off + k, none⟩ = some (mark i) := by
  obtain ⟨g, off, u, e, h1, h2, h3, h4, _⟩ := rw_row h hi hk
  rw [hf i _ hi] at h4
  rw [List.getElem?_replicate, if_pos hk] at h4
  exact ⟨g, off, e, h1, h2, h4 ▸ h3⟩
theorem gr_at {base : Nat} {w : World} {E TE : TypeId} {mark m0 m1 : Nat → Value} {rows : List KRow} {ga : Option Addr} {gc : Nat} {gs : List Value} (h : GR base w E TE mark m0 m1 rows (.slice ga gs.length gc) gs) {i : Nat} {a : Option Addr} {c : Nat} {xs : List Int} (hi : rows[i]? = some ⟨a, c, xs⟩) (hl : i < gs.length) :
    ∃ g off g5 o5 c5, ga = some ⟨g, off, none⟩ ∧ gs.length ≤ gc ∧ gc ≤ 9223372036854775807 ∧ w.cell? ⟨g, off + i, none⟩ = some (.slice (some ⟨g5, o5, none⟩) (xs.length + 2) c5) ∧ xs.length + 2 ≤ c5 ∧ c5 ≤ 9223372036854775807 ∧ (∀ k, k < xs.length → w.cell? ⟨g5, o5 + k, none⟩ = some (mark i)) ∧ w.cell? ⟨g5, o5 + xs.length, none⟩ = some (m0 i) ∧ w.cell? ⟨g5, o5 + (xs.length + 1), none⟩ = some (m1 i) := by
  obtain ⟨a5, c5, q1, q2, _⟩ := h.g i _ hl hi
  dsimp only at q1 q2
  obtain ⟨g, off, cap, e, h1, h2, h3, h4, h5, _⟩ := h.gv.some_ (by omega)
  simp only [Value.slice.injEq, true_and] at e
  obtain ⟨rfl, rfl⟩ := e
  obtain ⟨g5, o5, cap, e, _, _, k3, k4, k5, _⟩ := q2.some_ (by omega)
  simp only [Value.slice.injEq, true_and] at e
  obtain ⟨rfl, rfl⟩ := e
  refine ⟨g, off, g5, o5, c5, rfl, h3, h4, h5 i _ q1, k3, k4, fun k hk => k5 k _ ?_, k5 _ _ ?_, k5 _ _ ?_⟩
  · rw [List.getElem?_append_left (by simpa using hk), List.getElem?_replicate, if_pos hk]
  · rw [List.getElem?_append_right (by simp)]; simp
  · rw [List.getElem?_append_right (by simp)]; simp

theorem close_bytes (bk : Nat) (rows : List KRow) (bv sv iv hv : Value) (w : World) (hblk : w.heap[bk]? = some (.cells #[bv, sv, .slice none 0 0, .slice none 0 0, iv, hv] 41 (0, 0))) (hb : BR w 5 43 .u8 bv rows) :
    Calls Tryz.prog 96 #[.pointer (some ⟨bk, 0, none⟩)] w (fun e w' => e = .returned (.bool true) ∧ Kept (RowsB rows) w w') := by
  obtain ⟨ba, bc, rfl⟩ := hb.rv.form
  have hf1 := hb.few
  have hnr : ¬ RowsB rows bk := by
    rintro ⟨r, hr, e⟩
    obtain ⟨m, hm, rfl⟩ := List.mem_iff_getElem.1 hr
    obtain ⟨cur, q⟩ := own_blk (hb.row m _ (List.getElem?_eq_getElem hm)) e
    exact blk_ne hblk q (by decide) rfl
  have HBK := Aside.mk (show ∀ {wr : World}, Kept (RowsB rows) w wr → wr.heap[bk]? = some (.cells #[.slice ba rows.length bc, sv, .slice none 0 0, .slice none 0 0, iv, hv] 41 (0, 0)) from fun {wr} k => (k.block bk (lt_of_blk hblk) hnr).trans hblk)
  have H0 := Aside.mk hb.rw_
  have HLT := Aside.mk (And.intro (show ∀ b, RowsB rows b → b < w.heap.size from fun b ⟨r, hr, e⟩ => hb.lt.2 r hr b e) hb.lt.1)
  clear hblk hb hnr
  go_enter Tryz.func96, Tryz.ntmps96
  go_wp2_with fail
  go_loopw [3] (fun i0 wr => ∃ i : Nat, i ≤ rows.length ∧ i0 = .int .i64 (i : Int) ∧ Aside (∃ f, RW wr 5 43 (.slice ba rows.length bc) rows f ∧ Full (bM 0) rows f i 0 ∧ Kept (RowsB rows) w wr)) (fun i0 _ => rows.length - (intOf i0).toNat)
  case atStart => exact ⟨0, by omega, rfl, ⟨_, H0.out, Full.start _ _ _, Kept.refl _ _⟩⟩
  case round =>
    obtain ⟨i, hi, rfl, hp⟩ := hrel
    obtain ⟨f, hR, hF, hK⟩ := hp.out
    have HR := Aside.mk hR
    have HF := Aside.mk hF
    have HK := Aside.mk hK
    clear hR hF hK hp
    obtain ⟨c0, c1, c2, c3, c4, c5⟩ := box6b (HBK.out HK.out)
    by_cases hlt : i < rows.length
    · have HI := Aside.mk (List.getElem?_eq_getElem hlt)
      obtain ⟨⟨a, c, xs⟩, hrow⟩ : ∃ r, rows[i] = r := ⟨_, rfl⟩
      rw [hrow] at HI
      clear hrow
      generalize hn : xs.length = n at *
      have HN := Aside.mk hn
      clear hn
      go_wp2_with fail
      clear c0 c1 c2 c3 c4 c5
      go_loopw [4] (fun j0 wr => ∃ k : Nat, k ≤ n ∧ j0 = .int .i64 (k : Int) ∧ Aside (∃ f, RW wr 5 43 (.slice ba rows.length bc) rows f ∧ Full (bM 0) rows f i k ∧ Kept (RowsB rows) w wr)) (fun j0 _ => n - (intOf j0).toNat)
      case atStart => exact ⟨0, by omega, rfl, ⟨_, HR.out, HF.out, HK.out⟩⟩
      case round =>
        clear HR HF HK
        obtain ⟨k, hk, rfl, hp⟩ := hrel
        obtain ⟨f, hR, hF, hK⟩ := hp.out
        have HR := Aside.mk hR
        have HF := Aside.mk hF
        have HK := Aside.mk hK
        clear hR hF hK hp
        obtain ⟨c0, c1, c2, c3, c4, c5⟩ := box6b (HBK.out HK.out)
        obtain ⟨g1, o1, e1, hx1, hx2, d1⟩ := rw_at HR.out hlt
        rw [(Option.some.inj ((List.getElem?_eq_getElem hlt).symm.trans HI.out))] at d1
        subst e1
        simp only [KRow.val, HN.out] at d1
        by_cases hkl : k < n
        · obtain ⟨g, o, u, e2, hx3, hx4, d2, hu, hf0⟩ := rw_row HR.out HI.out (show k < xs.length by have := HN.out; omega)
          subst e2
          rw [HN.out] at hx3
          have HU := Aside.mk hu
          clear hu
          go_wp2_with fail
          refine ⟨⟨k + 1, by omega, by simp, ⟨_, HR.out.store (by decide) HI.out k (bM 0 i), HF.out.step (List.getElem?_eq_some_iff.1 HU.out).1, HK.out.trans (Kept.setCell _ _ _) (fun b e _ => ?_)⟩⟩, by simp [intOf]; omega⟩
          exact e ▸ ⟨_, List.mem_of_getElem? HI.out, rfl⟩
        · obtain rfl : k = n := by omega
          go_wp2_with fail
          refine ⟨⟨i + 1, by omega, by simp, ⟨_, HR.out, Full.next (r := ⟨a, c, xs⟩) (by rw [HN.out]; exact HF.out) HR.out HI.out, HK.out⟩⟩, by simp [intOf]; omega⟩
    · obtain rfl : i = rows.length := by omega
      have HFULL := Aside.mk (show ∀ m r, rows[m]? = some r → f m = List.replicate r.xs.length (bM 0 m) from fun m r hm => HF.out.1 m r (List.getElem?_eq_some_iff.1 hm).1 hm)
      clear HF
      go_wp2_with fail
      clear c0 c1 c2 c3 c4 c5
      go_loopw [5, 6] (fun gv i0 wr => ∃ (gs : List Value) (ga : Option Addr) (gc : Nat), gs.length ≤ rows.length ∧ gv = .slice ga gs.length gc ∧ i0 = .int .i64 (gs.length : Int) ∧ Aside (RW wr 5 43 (.slice ba rows.length bc) rows f ∧ GR w.heap.size wr 5 43 (bM 0) (bM 100) (bM 101) rows (.slice ga gs.length gc) gs ∧ Kept (RowsB rows) w wr)) (fun _ i0 _ => rows.length - (intOf i0).toNat)
      case atStart => exact ⟨[], none, 0, by simp, rfl, rfl, ⟨HR.out, GR.start, HK.out⟩⟩
      case round =>
        clear HR HK
        obtain ⟨gs, ga, gc, hi, rfl, rfl, hp⟩ := hrel
        obtain ⟨hR, hG, hK⟩ := hp.out
        have HR := Aside.mk hR
        have HG := Aside.mk hG
        have HK := Aside.mk hK
        clear hR hG hK hp
        obtain ⟨c0, c1, c2, c3, c4, c5⟩ := box6b (HBK.out HK.out)
        by_cases hlt : gs.length < rows.length
        · have HI := Aside.mk (List.getElem?_eq_getElem hlt)
          obtain ⟨g1, o1, e1, hx1, hx2, d1⟩ := rw_at HR.out hlt
          obtain ⟨⟨a, c, xs⟩, hrow⟩ : ∃ r, rows[gs.length] = r := ⟨_, rfl⟩
          rw [hrow] at HI d1
          clear hrow
          subst e1
          have hsm := HR.out.small _ _ HI.out
          simp only [KRow.val] at d1 hsm
          generalize hn : xs.length = n at *
          have HN := Aside.mk hn
          clear hn
          have HO := Aside.mk (show Own wr 0 5 1 (.slice a n c) n (f gs.length) from by have := HR.out.row _ _ HI.out; simp only [KRow.val, HN.out] at this; exact this)
          go_wp2_with (at_builtin; refine wpList_app2 _ rfl _ _ 43 43 rfl 0 5 (.int .u8 0) 1 1 Tryz.underlying43 byteinfo8 rfl _ n (f gs.length) rfl (HO.out.alloc _) _ 1 [bM 100 gs.length] rfl (src_one Tryz.underlying43 _ _ _ rfl rfl) (by unfold maxLen; omega) (by omega) (Nat.zero_le _) ?_)
          intro v2 w2 hA
          obtain ⟨a2, q2, rfl⟩ := hA.own.form
          have HA := Aside.mk hA
          clear hA c0 c1 c2 c3 c4 c5 d1
          go_wp2_with (at_builtin; refine wpList_app2 _ rfl _ _ 43 43 rfl 0 5 (.int .u8 0) 1 1 Tryz.underlying43 byteinfo8 rfl _ (n + 1) (f gs.length ++ [bM 100 gs.length]) rfl (HA.out.own.alloc _) _ 1 [bM 101 gs.length] rfl (src_one Tryz.underlying43 _ _ _ rfl rfl) (by unfold maxLen; omega) (by omega) (Nat.zero_le _) ?_)
          intro v4 w4 hB
          obtain ⟨a4, q4, rfl⟩ := hB.own.form
          have HB := Aside.mk hB
          clear hB
          have HBS := Aside.mk (show w.heap.size ≤ w4.heap.size from by
            have s1 := HK.out.size
            have s2 : wr.heap.size ≤ w2.heap.size := by have := (Kept.of_grown HA.out.grown).size; simp at this; omega
            have s3 : w2.heap.size ≤ w4.heap.size := by have := (Kept.of_grown HB.out.grown).size; simp at this; omega
            omega)
          have HGV := Aside.mk (grow_gv HG.out HK.out.size (fun b e => HLT.out.1 b ⟨_, List.mem_of_getElem? HI.out, by simpa only [KRow.val, HN.out] using e⟩) (below_new wr _) HA.out (below_new w2 _) HB.out)
          go_wp2_with (at_builtin; refine wpList_app2 _ rfl _ _ 37 37 rfl w.heap.size 43 (.slice none 0 0) 1 24 Tryz.underlying37 bytesinfo8 rfl _ gs.length gs rfl (HGV.out.alloc _) _ 1 [.slice a4 (n + 1 + 1) q4] rfl (src_one Tryz.underlying37 _ _ _ rfl rfl) (by unfold maxLen; omega) (by omega) (Nat.le_trans HBS.out (by simp)) ?_)
          intro v6 w6 hC
          obtain ⟨a6, q6, rfl⟩ := hC.own.form
          have HC := Aside.mk hC
          clear hC
          go_wp2_with fail
          have hstep := grow_step (r := ⟨a, c, xs⟩) HR.out HFULL.out HG.out HI.out HK.out.size HLT.out.1 HLT.out.2 (by decide) (below_new wr _) (by simp only [KRow.val, HN.out]; exact HA.out) (below_new w2 _) (by simp only [HN.out]; exact HB.out) (below_new w4 _) HC.out
          refine ⟨⟨gs ++ [.slice a4 (n + 1 + 1) q4], a6, q6, by simp; omega, by simp, by simp, ⟨hstep.1, by simpa using hstep.2.1, HK.out.trans hstep.2.2 (fun b e hb => e.elim id (fun h => by omega))⟩⟩, by simp [intOf]; omega⟩
        · obtain hge : gs.length = rows.length := by omega
          clear hi hlt
          obtain ⟨wg, hwg⟩ : ∃ x, x = wr := ⟨_, rfl⟩
          subst hwg
          go_wp2_with fail
          clear c0 c1 c2 c3 c4 c5
          go_loopw [8] (fun i0 wr2 => ∃ i : Nat, i ≤ rows.length ∧ i0 = .int .i64 (i : Int) ∧ Aside (Below wg.heap.size wg wr2)) (fun i0 _ => rows.length - (intOf i0).toNat)
          case atStart => exact ⟨0, by omega, rfl, ⟨Below.refl _ _⟩⟩
          case round =>
            obtain ⟨i, hi, rfl, hp⟩ := hrel
            have HR2 := Aside.mk (HR.out.below hp.out)
            have HG2 := Aside.mk (HG.out.below hp.out)
            have HK2 := Aside.mk (HK.out.trans (Kept.of_below (S := fun _ => False) hp.out) (fun _ h _ => h.elim))
            obtain ⟨c0, c1, c2, c3, c4, c5⟩ := box6b (HBK.out HK2.out)
            by_cases hlt : i < rows.length
            · have HI := Aside.mk (List.getElem?_eq_getElem hlt)
              obtain ⟨g1, o1, e1, hx1, hx2, d1⟩ := rw_at HR2.out hlt
              obtain ⟨⟨a, c, xs⟩, hrow⟩ : ∃ r, rows[i] = r := ⟨_, rfl⟩
              rw [hrow] at HI d1
              clear hrow
              subst e1
              have hsm := HR2.out.small _ _ HI.out
              simp only [KRow.val] at d1 hsm
              generalize hn : xs.length = n at *
              have HN := Aside.mk hn
              clear hn
              have hl2 : i < gs.length := by omega
              go_wp2_with fail
              clear c0 c1 c2 c3 c4 c5 d1 HR2 HG2 HK2
              go_loopw [10] (fun j0 wr2 => ∃ k : Nat, k ≤ n ∧ j0 = .int .i64 (k : Int) ∧ Aside (Below wg.heap.size wg wr2)) (fun j0 _ => n - (intOf j0).toNat)
              case atStart => exact ⟨0, by omega, rfl, hp⟩
              case round =>
                clear hp
                obtain ⟨k, hk, rfl, hp⟩ := hrel
                have HR2 := Aside.mk (HR.out.below hp.out)
                have HG2 := Aside.mk (HG.out.below hp.out)
                have HK2 := Aside.mk (HK.out.trans (Kept.of_below (S := fun _ => False) hp.out) (fun _ h _ => h.elim))
                obtain ⟨c0, c1, c2, c3, c4, c5⟩ := box6b (HBK.out HK2.out)
                obtain ⟨g1, o1, e1, _, _, d1⟩ := rw_at HR2.out hlt
                rw [(Option.some.inj ((List.getElem?_eq_getElem hlt).symm.trans HI.out))] at d1
                simp only [KRow.val, HN.out] at d1
                cases e1
                obtain ⟨g2, o2, g5, o5, c6, e2, hy1, hy2, d2, hy3, hy4, hm, hm0, hm1⟩ := gr_at HG2.out HI.out hl2
                subst e2
                have hx : (((i : Int) % 256) != ((i : Int) % 256)) = false := by simp
                have hxx : ((((i : Int) + 100) % 256) != (((i : Int) + 100) % 256)) = false := by simp
                have hxy : ((((i : Int) + 101) % 256) != (((i : Int) + 101) % 256)) = false := by simp
                rw [HN.out] at hm hm0 hm1 d2 hy3
                by_cases hkl : k < n
                · obtain ⟨g, o, e3, hz1, hz2, d3⟩ := rw_mark HR2.out HFULL.out HI.out (show k < xs.length by have := HN.out; omega)
                  subst e3
                  rw [HN.out] at hz1
                  have d4 := hm k hkl
                  replace d3 : wr.cell? ⟨g, o + k, none⟩ = some (.int .u8 ((i : Int) % 256)) := d3
                  replace d4 : wr.cell? ⟨g5, o5 + k, none⟩ = some (.int .u8 ((i : Int) % 256)) := d4
                  clear hm hm0 hm1
                  go_wp2_with fail
                  exact ⟨⟨k + 1, by omega, by simp, ⟨by first | exact hp.out | exact below_chain hp.out (below_drewN _ _ _)⟩⟩, by simp [intOf]; omega⟩
                · obtain rfl : k = n := by omega
                  clear hm
                  replace hm0 : wr.cell? ⟨g5, o5 + k, none⟩ = some (.int .u8 (((i : Int) + 100) % 256)) := hm0
                  replace hm1 : wr.cell? ⟨g5, o5 + (k + 1), none⟩ = some (.int .u8 (((i : Int) + 101) % 256)) := hm1
                  go_wp2_with fail
                  exact ⟨⟨i + 1, by omega, by simp, ⟨by first | exact hp.out | exact below_chain hp.out (below_drewN _ _ _)⟩⟩, by simp [intOf]; omega⟩
            · obtain rfl : i = rows.length := by omega
              go_wp2_with fail
              go_ret
              exact ⟨rfl, HK2.out⟩
end Go.Proofs.YtmhjjhaipcgbiaaGreat


/- (*mintagekeep.Book).closeInts. -/
namespace Go.Proofs.YtmhjjhaipcgbiaaGreat
open Go.RowKit
set_option linter.unusedVariables false
set_option linter.unusedSimpArgs false
set_option maxRecDepth 100000
set_option maxHeartbeats 1000000

def iM (d : Int) (m : Nat) : Value := .int .i64 ((m : Int) + d)
theorem intinfo8 : (Tryz.prog.info? 3).map (fun i => (i.zero, i.size, i.bytes)) = some (some (.int .i64 0), 1, 8) := by kernel_rfl
theorem intsinfo8 : (Tryz.prog.info? 61).map (fun i => (i.zero, i.size, i.bytes)) = some (some (.slice none 0 0), 1, 24) := by kernel_rfl

theorem close_ints (bk : Nat) (rows : List KRow) (iv hv bv sv : Value) (w : World) (hblk : w.heap[bk]? = some (.cells #[iv, hv, .slice none 0 0, .slice none 0 0, bv, sv] 41 (0, 0))) (hb : BR w 3 61 .i64 bv rows) :
    Calls Tryz.prog 98 #[.pointer (some ⟨bk, 0, none⟩)] w (fun e w' => e = .returned (.bool true) ∧ Kept (RowsB rows) w w') := by
  obtain ⟨ba, bc, rfl⟩ := hb.rv.form
  have hf1 := hb.few
  have hnr : ¬ RowsB rows bk := by
    rintro ⟨r, hr, e⟩
    obtain ⟨m, hm, rfl⟩ := List.mem_iff_getElem.1 hr
    obtain ⟨cur, q⟩ := own_blk (hb.row m _ (List.getElem?_eq_getElem hm)) e
    exact blk_ne hblk q (by decide) rfl
  have HBK := Aside.mk (show ∀ {wr : World}, Kept (RowsB rows) w wr → wr.heap[bk]? = some (.cells #[iv, hv, .slice none 0 0, .slice none 0 0, .slice ba rows.length bc, sv] 41 (0, 0)) from fun {wr} k => (k.block bk (lt_of_blk hblk) hnr).trans hblk)
  have H0 := Aside.mk hb.rw_
  have HLT := Aside.mk (And.intro (show ∀ b, RowsB rows b → b < w.heap.size from fun b ⟨r, hr, e⟩ => hb.lt.2 r hr b e) hb.lt.1)
  clear hblk hb hnr
  go_enter Tryz.func98, Tryz.ntmps98
  go_wp2_with fail
  go_loopw [3] (fun i0 wr => ∃ i : Nat, i ≤ rows.length ∧ i0 = .int .i64 (i : Int) ∧ Aside (∃ f, RW wr 3 61 (.slice ba rows.length bc) rows f ∧ Full (iM 0) rows f i 0 ∧ Kept (RowsB rows) w wr)) (fun i0 _ => rows.length - (intOf i0).toNat)
  case atStart => exact ⟨0, by omega, rfl, ⟨_, H0.out, Full.start _ _ _, Kept.refl _ _⟩⟩
  case round =>
    obtain ⟨i, hi, rfl, hp⟩ := hrel
    obtain ⟨f, hR, hF, hK⟩ := hp.out
    have HR := Aside.mk hR
    have HF := Aside.mk hF
    have HK := Aside.mk hK
    clear hR hF hK hp
    obtain ⟨c0, c1, c2, c3, c4, c5⟩ := box6b (HBK.out HK.out)
    by_cases hlt : i < rows.length
    · have HI := Aside.mk (List.getElem?_eq_getElem hlt)
      obtain ⟨⟨a, c, xs⟩, hrow⟩ : ∃ r, rows[i] = r := ⟨_, rfl⟩
      rw [hrow] at HI
      clear hrow
      generalize hn : xs.length = n at *
      have HN := Aside.mk hn
      clear hn
      go_wp2_with fail
      clear c0 c1 c2 c3 c4 c5
      go_loopw [4] (fun j0 wr => ∃ k : Nat, k ≤ n ∧ j0 = .int .i64 (k : Int) ∧ Aside (∃ f, RW wr 3 61 (.slice ba rows.length bc) rows f ∧ Full (iM 0) rows f i k ∧ Kept (RowsB rows) w wr)) (fun j0 _ => n - (intOf j0).toNat)
      case atStart => exact ⟨0, by omega, rfl, ⟨_, HR.out, HF.out, HK.out⟩⟩
      case round =>
        clear HR HF HK
        obtain ⟨k, hk, rfl, hp⟩ := hrel
        obtain ⟨f, hR, hF, hK⟩ := hp.out
        have HR := Aside.mk hR
        have HF := Aside.mk hF
        have HK := Aside.mk hK
        clear hR hF hK hp
        obtain ⟨c0, c1, c2, c3, c4, c5⟩ := box6b (HBK.out HK.out)
        obtain ⟨g1, o1, e1, hx1, hx2, d1⟩ := rw_at HR.out hlt
        rw [(Option.some.inj ((List.getElem?_eq_getElem hlt).symm.trans HI.out))] at d1
        subst e1
        simp only [KRow.val, HN.out] at d1
        by_cases hkl : k < n
        · obtain ⟨g, o, u, e2, hx3, hx4, d2, hu, hf0⟩ := rw_row HR.out HI.out (show k < xs.length by have := HN.out; omega)
          subst e2
          rw [HN.out] at hx3
          have HU := Aside.mk hu
          clear hu
          go_wp2_with fail
          refine ⟨⟨k + 1, by omega, by simp, ⟨_, HR.out.store (by decide) HI.out k (iM 0 i), HF.out.step (List.getElem?_eq_some_iff.1 HU.out).1, HK.out.trans (Kept.setCell _ _ _) (fun b e _ => ?_)⟩⟩, by simp [intOf]; omega⟩
          exact e ▸ ⟨_, List.mem_of_getElem? HI.out, rfl⟩
        · obtain rfl : k = n := by omega
          go_wp2_with fail
          refine ⟨⟨i + 1, by omega, by simp, ⟨_, HR.out, Full.next (r := ⟨a, c, xs⟩) (by rw [HN.out]; exact HF.out) HR.out HI.out, HK.out⟩⟩, by simp [intOf]; omega⟩
    · obtain rfl : i = rows.length := by omega
      have HFULL := Aside.mk (show ∀ m r, rows[m]? = some r → f m = List.replicate r.xs.length (iM 0 m) from fun m r hm => HF.out.1 m r (List.getElem?_eq_some_iff.1 hm).1 hm)
      clear HF
      go_wp2_with fail
      clear c0 c1 c2 c3 c4 c5
      go_loopw [5, 6] (fun gv i0 wr => ∃ (gs : List Value) (ga : Option Addr) (gc : Nat), gs.length ≤ rows.length ∧ gv = .slice ga gs.length gc ∧ i0 = .int .i64 (gs.length : Int) ∧ Aside (RW wr 3 61 (.slice ba rows.length bc) rows f ∧ GR w.heap.size wr 3 61 (iM 0) (iM 1000) (iM 1001) rows (.slice ga gs.length gc) gs ∧ Kept (RowsB rows) w wr)) (fun _ i0 _ => rows.length - (intOf i0).toNat)
      case atStart => exact ⟨[], none, 0, by simp, rfl, rfl, ⟨HR.out, GR.start, HK.out⟩⟩
      case round =>
        clear HR HK
        obtain ⟨gs, ga, gc, hi, rfl, rfl, hp⟩ := hrel
        obtain ⟨hR, hG, hK⟩ := hp.out
        have HR := Aside.mk hR
        have HG := Aside.mk hG
        have HK := Aside.mk hK
        clear hR hG hK hp
        obtain ⟨c0, c1, c2, c3, c4, c5⟩ := box6b (HBK.out HK.out)
        by_cases hlt : gs.length < rows.length
        · have HI := Aside.mk (List.getElem?_eq_getElem hlt)
          obtain ⟨g1, o1, e1, hx1, hx2, d1⟩ := rw_at HR.out hlt
          obtain ⟨⟨a, c, xs⟩, hrow⟩ : ∃ r, rows[gs.length] = r := ⟨_, rfl⟩
          rw [hrow] at HI d1
          clear hrow
          subst e1
          have hsm := HR.out.small _ _ HI.out
          simp only [KRow.val] at d1 hsm
          generalize hn : xs.length = n at *
          have HN := Aside.mk hn
          clear hn
          have HO := Aside.mk (show Own wr 0 3 1 (.slice a n c) n (f gs.length) from by have := HR.out.row _ _ HI.out; simp only [KRow.val, HN.out] at this; exact this)
          go_wp2_with (at_builtin; refine wpList_app2 _ rfl _ _ 61 61 rfl 0 3 (.int .i64 0) 1 8 Tryz.underlying61 intinfo8 rfl _ n (f gs.length) rfl (HO.out.alloc _) _ 1 [iM 1000 gs.length] rfl (src_one Tryz.underlying61 _ _ _ rfl rfl) (by unfold maxLen; omega) (by omega) (Nat.zero_le _) ?_)
          intro v2 w2 hA
          obtain ⟨a2, q2, rfl⟩ := hA.own.form
          have HA := Aside.mk hA
          clear hA c0 c1 c2 c3 c4 c5 d1
          go_wp2_with (at_builtin; refine wpList_app2 _ rfl _ _ 61 61 rfl 0 3 (.int .i64 0) 1 8 Tryz.underlying61 intinfo8 rfl _ (n + 1) (f gs.length ++ [iM 1000 gs.length]) rfl (HA.out.own.alloc _) _ 1 [iM 1001 gs.length] rfl (src_one Tryz.underlying61 _ _ _ rfl rfl) (by unfold maxLen; omega) (by omega) (Nat.zero_le _) ?_)
          intro v4 w4 hB
          obtain ⟨a4, q4, rfl⟩ := hB.own.form
          have HB := Aside.mk hB
          clear hB
          have HBS := Aside.mk (show w.heap.size ≤ w4.heap.size from by
            have s1 := HK.out.size
            have s2 : wr.heap.size ≤ w2.heap.size := by have := (Kept.of_grown HA.out.grown).size; simp at this; omega
            have s3 : w2.heap.size ≤ w4.heap.size := by have := (Kept.of_grown HB.out.grown).size; simp at this; omega
            omega)
          have HGV := Aside.mk (grow_gv HG.out HK.out.size (fun b e => HLT.out.1 b ⟨_, List.mem_of_getElem? HI.out, by simpa only [KRow.val, HN.out] using e⟩) (below_new wr _) HA.out (below_new w2 _) HB.out)
          go_wp2_with (at_builtin; refine wpList_app2 _ rfl _ _ 39 39 rfl w.heap.size 61 (.slice none 0 0) 1 24 Tryz.underlying39 intsinfo8 rfl _ gs.length gs rfl (HGV.out.alloc _) _ 1 [.slice a4 (n + 1 + 1) q4] rfl (src_one Tryz.underlying39 _ _ _ rfl rfl) (by unfold maxLen; omega) (by omega) (Nat.le_trans HBS.out (by simp)) ?_)
          intro v6 w6 hC
          obtain ⟨a6, q6, rfl⟩ := hC.own.form
          have HC := Aside.mk hC
          clear hC
          go_wp2_with fail
          have hstep := grow_step (r := ⟨a, c, xs⟩) HR.out HFULL.out HG.out HI.out HK.out.size HLT.out.1 HLT.out.2 (by decide) (below_new wr _) (by simp only [KRow.val, HN.out]; exact HA.out) (below_new w2 _) (by simp only [HN.out]; exact HB.out) (below_new w4 _) HC.out
          refine ⟨⟨gs ++ [.slice a4 (n + 1 + 1) q4], a6, q6, by simp; omega, by simp, by simp, ⟨hstep.1, by simpa using hstep.2.1, HK.out.trans hstep.2.2 (fun b e hb => e.elim id (fun h => by omega))⟩⟩, by simp [intOf]; omega⟩
        · obtain hge : gs.length = rows.length := by omega
          clear hi hlt
          obtain ⟨wg, hwg⟩ : ∃ x, x = wr := ⟨_, rfl⟩
          subst hwg
          go_wp2_with fail
          clear c0 c1 c2 c3 c4 c5
          go_loopw [8] (fun i0 wr2 => ∃ i : Nat, i ≤ rows.length ∧ i0 = .int .i64 (i : Int) ∧ Aside (Below wg.heap.size wg wr2)) (fun i0 _ => rows.length - (intOf i0).toNat)
          case atStart => exact ⟨0, by omega, rfl, ⟨Below.refl _ _⟩⟩
          case round =>
            obtain ⟨i, hi, rfl, hp⟩ := hrel
            have HR2 := Aside.mk (HR.out.below hp.out)
            have HG2 := Aside.mk (HG.out.below hp.out)
            have HK2 := Aside.mk (HK.out.trans (Kept.of_below (S := fun _ => False) hp.out) (fun _ h _ => h.elim))
            obtain ⟨c0, c1, c2, c3, c4, c5⟩ := box6b (HBK.out HK2.out)
            by_cases hlt : i < rows.length
            · have HI := Aside.mk (List.getElem?_eq_getElem hlt)
              obtain ⟨g1, o1, e1, hx1, hx2, d1⟩ := rw_at HR2.out hlt
              obtain ⟨⟨a, c, xs⟩, hrow⟩ : ∃ r, rows[i] = r := ⟨_, rfl⟩
              rw [hrow] at HI d1
              clear hrow
              subst e1
              have hsm := HR2.out.small _ _ HI.out
              simp only [KRow.val] at d1 hsm
              generalize hn : xs.length = n at *
              have HN := Aside.mk hn
              clear hn
              have hl2 : i < gs.length := by omega
              go_wp2_with fail
              clear c0 c1 c2 c3 c4 c5 d1 HR2 HG2 HK2
              go_loopw [10] (fun j0 wr2 => ∃ k : Nat, k ≤ n ∧ j0 = .int .i64 (k : Int) ∧ Aside (Below wg.heap.size wg wr2)) (fun j0 _ => n - (intOf j0).toNat)
              case atStart => exact ⟨0, by omega, rfl, hp⟩
              case round =>
                clear hp
                obtain ⟨k, hk, rfl, hp⟩ := hrel
                have HR2 := Aside.mk (HR.out.below hp.out)
                have HG2 := Aside.mk (HG.out.below hp.out)
                have HK2 := Aside.mk (HK.out.trans (Kept.of_below (S := fun _ => False) hp.out) (fun _ h _ => h.elim))
                obtain ⟨c0, c1, c2, c3, c4, c5⟩ := box6b (HBK.out HK2.out)
                obtain ⟨g1, o1, e1, _, _, d1⟩ := rw_at HR2.out hlt
                rw [(Option.some.inj ((List.getElem?_eq_getElem hlt).symm.trans HI.out))] at d1
                simp only [KRow.val, HN.out] at d1
                cases e1
                obtain ⟨g2, o2, g5, o5, c6, e2, hy1, hy2, d2, hy3, hy4, hm, hm0, hm1⟩ := gr_at HG2.out HI.out hl2
                subst e2
                have hx : ((i : Int) != (i : Int)) = false := by simp
                have hxx : (((i : Int) + 1000) != ((i : Int) + 1000)) = false := by simp
                have hxy : (((i : Int) + 1001) != ((i : Int) + 1001)) = false := by simp
                rw [HN.out] at hm hm0 hm1 d2 hy3
                by_cases hkl : k < n
                · obtain ⟨g, o, e3, hz1, hz2, d3⟩ := rw_mark HR2.out HFULL.out HI.out (show k < xs.length by have := HN.out; omega)
                  subst e3
                  rw [HN.out] at hz1
                  have d4 := hm k hkl
                  replace d3 : wr.cell? ⟨g, o + k, none⟩ = some (.int .i64 (i : Int)) := d3
                  replace d4 : wr.cell? ⟨g5, o5 + k, none⟩ = some (.int .i64 (i : Int)) := d4
                  clear hm hm0 hm1
                  go_wp2_with fail
                  exact ⟨⟨k + 1, by omega, by simp, ⟨by first | exact hp.out | exact below_chain hp.out (below_drewN _ _ _)⟩⟩, by simp [intOf]; omega⟩
                · obtain rfl : k = n := by omega
                  clear hm
                  replace hm0 : wr.cell? ⟨g5, o5 + k, none⟩ = some (.int .i64 ((i : Int) + 1000)) := hm0
                  replace hm1 : wr.cell? ⟨g5, o5 + (k + 1), none⟩ = some (.int .i64 ((i : Int) + 1001)) := hm1
                  go_wp2_with fail
                  exact ⟨⟨i + 1, by omega, by simp, ⟨by first | exact hp.out | exact below_chain hp.out (below_drewN _ _ _)⟩⟩, by simp [intOf]; omega⟩
            · obtain rfl : i = rows.length := by omega
              go_wp2_with fail
              go_ret
              exact ⟨rfl, HK2.out⟩
end Go.Proofs.YtmhjjhaipcgbiaaGreat
