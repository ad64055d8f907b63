/- Texts of this claim, one behind the other: Words, Box, Fword. -/
import Derived.Test.YtmhjjhaipcgbiaaSpoP10
import Derived.Test.YtmhjjhaipcgbiaaSpoP9

namespace Go.Proofs.Ytmhjjhaipcgbiaa
open Go.RowKit Go.Maps
set_option linter.unusedVariables false
set_option linter.unusedSimpArgs false
set_option maxRecDepth 100000
set_option maxHeartbeats 1000000
def WOwn (w : World) (base i : Nat) (vals : List Value) (ws : List (List Int)) : Prop :=
  ∀ (j : Nat) t, j < i → ws[j]? = some t → ∃ a cap, vals[j]? = some (.slice a t.length cap) ∧ Own w base 5 1 (.slice a t.length cap) t.length (t.map (.int .u8))
def WSep (i : Nat) (vals : List Value) : Prop := ∀ (j j' : Nat) v v', j < j' → j' < i → vals[j]? = some v → vals[j']? = some v' → ∀ b, v.ownBlock = some b → v'.ownBlock ≠ some b
theorem WOwn.kept {w w' : World} {base i : Nat} {vals : List Value} {ws : List (List Int)} {S : Nat → Prop} (h : WOwn w base i vals ws) (hk : Kept S w w') (hS : ∀ k, base ≤ k → k < w.heap.size → (∃ cs, w.heap[k]? = some (.cells cs 5 (0, 0))) → ¬ S k) : WOwn w' base i vals ws := fun j t hj ht => by
  obtain ⟨a, cap, h1, h2⟩ := h j t hj ht
  exact ⟨a, cap, h1, h2.kept hk (fun k e => hS k (h2.lt k e).1 (h2.lt k e).2 (own_blk h2 e))⟩
end Go.Proofs.Ytmhjjhaipcgbiaa


namespace Go.Proofs.Ytmhjjhaipcgbiaa
open Go.RowKit
set_option linter.unusedVariables false
set_option linter.unusedSimpArgs false
set_option maxRecDepth 100000
set_option maxHeartbeats 1000000
structure SL where
  a : Option Addr
  c : Nat
def colV (c : Col) (B D E W : SL) : Value := .agg #[.int .i64 c.k, .int .i64 c.s, .int .i64 c.n, .int .i64 c.m, .slice B.a c.bits.length B.c, .slice D.a c.data.length D.c, .slice E.a c.ends.length E.c, .slice W.a c.words.length W.c]
def RdWs (w : World) (vals : List Value) (ws : List (List Int)) : Prop :=
  vals.length = ws.length ∧ ∀ (i : Nat) t, ws[i]? = some t → ∃ a cap, vals[i]? = some (.slice a t.length cap) ∧ Rd w 1 (.slice a t.length cap) t.length (t.map (.int .u8))
structure RdC (w : World) (c : Col) (B D E W : SL) (vals : List Value) : Prop where
  bits : Rd w 1 (.slice B.a c.bits.length B.c) c.bits.length (c.bits.map (.int .u8))
  data : Rd w 1 (.slice D.a c.data.length D.c) c.data.length (c.data.map (.int .u8))
  ends : Rd w 1 (.slice E.a c.ends.length E.c) c.ends.length (c.ends.map (.int .i64))
  words : Rd w 1 (.slice W.a c.words.length W.c) c.words.length vals
  each : RdWs w vals c.words
theorem RdWs.below {w w' : World} {vals : List Value} {ws : List (List Int)} (h : RdWs w vals ws) (hb : Below w.heap.size w w') : RdWs w' vals ws :=
  ⟨h.1, fun i t hi => by obtain ⟨a, cap, h1, h2⟩ := h.2 i t hi; exact ⟨a, cap, h1, h2.below hb⟩⟩
theorem RdC.below {w w' : World} {c : Col} {B D E W : SL} {vals : List Value} (h : RdC w c B D E W vals) (hb : Below w.heap.size w w') : RdC w' c B D E W vals :=
  ⟨h.bits.below hb, h.data.below hb, h.ends.below hb, h.words.below hb, h.each.below hb⟩
def IsI64 (x : Int) : Prop := -9223372036854775808 ≤ x ∧ x ≤ 9223372036854775807
structure COK (c : Col) : Prop where
  bits : IsBytes c.bits
  data : IsBytes c.data
  ends : ∀ x ∈ c.ends, IsI64 x
  words : ∀ t ∈ c.words, IsBytes t ∧ t.length ≤ 100000000
  lb : c.bits.length ≤ 100000000
  ld : c.data.length ≤ 100000000
  le : c.ends.length ≤ 100000000
  lw : c.words.length ≤ 100000000
  k : IsI64 c.k
  s : IsI64 c.s
  n : IsI64 c.n
  m : IsI64 c.m
theorem rd_get {w : World} {v : Value} {n : Nat} {xs : List Int} {K : IntKind} (h : Rd w 1 v n (xs.map (.int K))) (i : Nat) (hi : i < xs.length) : ∃ b off cap, v = .slice (some ⟨b, off, none⟩) n cap ∧ n ≤ cap ∧ cap ≤ 9223372036854775807 ∧ w.cell? ⟨b, off + i, none⟩ = some (.int K (xs.getD i 0)) := by
  obtain ⟨b, off, cap, rfl, h1, h2, hc⟩ := h.some_ (by rw [List.length_map]; omega)
  refine ⟨b, off, cap, rfl, h1, h2, hc i _ ?_⟩
  rw [List.getElem?_map, List.getElem?_eq_getElem hi, List.getD_eq_getElem?_getD, List.getElem?_eq_getElem hi]
  rfl
theorem box8 {w : World} {b : Nat} {x0 x1 x2 x3 x4 x5 x6 x7 : Value} {T : TypeId} (h : w.heap[b]? = some (.cells #[x0, x1, x2, x3, x4, x5, x6, x7] T (0, 0))) :
    w.cell? ⟨b, 0, none⟩ = some x0 ∧ w.cell? ⟨b, 1, none⟩ = some x1 ∧ w.cell? ⟨b, 2, none⟩ = some x2 ∧ w.cell? ⟨b, 3, none⟩ = some x3 ∧ w.cell? ⟨b, 4, none⟩ = some x4 ∧ w.cell? ⟨b, 5, none⟩ = some x5 ∧ w.cell? ⟨b, 6, none⟩ = some x6 ∧ w.cell? ⟨b, 7, none⟩ = some x7 := by
  refine ⟨?_, ?_, ?_, ?_, ?_, ?_, ?_, ?_⟩ <;> (rw [cell_blk h]; rfl)
def BoolP (r : Bool) (w : World) (e : Ending) (w' : World) : Prop := e = .returned (.bool r) ∧ Below w.heap.size w w'
def IntP (r : Int) (w : World) (e : Ending) (w' : World) : Prop := e = .returned (.int .i64 r) ∧ Below w.heap.size w w'
def U64P (r : Nat) (w : World) (e : Ending) (w' : World) : Prop := e = .returned (.int .u64 (r : Int)) ∧ Below w.heap.size w w'
theorem shr_bit (x : Int) (h0 : 0 ≤ x) (h1 : x < 256) (k : Nat) : (bits .and .u8 (x / 2 ^ k) 1 == 1) = x.toNat.testBit k := by
  obtain ⟨n, rfl⟩ := Int.eq_ofNat_of_zero_le h0
  have e : ((n : Int) / 2 ^ k) = ((n / 2 ^ k : Nat) : Int) := by simp
  rw [e, show (1 : Int) = ((1 : Nat) : Int) from rfl, u8_and_nat _ 1 (Nat.lt_of_le_of_lt (Nat.div_le_self _ _) (by omega)) (by decide)]
  rw [Int.toNat_natCast, Nat.testBit_eq_decide_div_mod_eq, Nat.and_one_is_mod]
  rw [Bool.eq_iff_iff]
  simp
  omega
theorem null_any (c : Col) (B D E W : SL) (i : Nat) (hi : i / 8 < c.bits.length) (hb : IsBytes c.bits) (hl : c.bits.length ≤ 100000000) (w : World) (h : Rd w 1 (.slice B.a c.bits.length B.c) c.bits.length (c.bits.map (.int .u8))) :
    Calls Try.prog 56 #[colV c B D E W, .int .i64 (i : Int)] w (BoolP (nullB c.bits i) w) := by
  obtain ⟨ba, bc⟩ := B
  obtain ⟨g, off, cap, hs, hlc, hcap, hc⟩ := rd_get h (i / 8) hi
  simp only [Value.slice.injEq, true_and] at hs
  obtain ⟨rfl, rfl⟩ := hs
  have hv := getD_byte hb (i / 8)
  have hbn := below_new w (.cells #[.int .i64 c.k, .int .i64 c.s, .int .i64 c.n, .int .i64 c.m, .slice (some ⟨g, off, none⟩) c.bits.length bc, .slice D.a c.data.length D.c, .slice E.a c.ends.length E.c, .slice W.a c.words.length W.c] 43)
  have hc2 := (hbn.cell (p := ⟨g, off + i / 8, none⟩) (World.block_lt_of_cell? _ _ hc)).trans hc
  have r := Aside.mk (show _ = nullB c.bits i from shr_bit _ hv.1 hv.2 (i % 8))
  have HB := Aside.mk hbn
  clear h hbn hc
  generalize c.bits.getD (i / 8) 0 = y at *
  dsimp only [colV]
  go_enter Try.func56, Try.ntmps56
  go_wp2
  go_ret
  exact ⟨ret_bool r.out, HB.out⟩
theorem cahead_any (c : Col) (B D E W : SL) (i : Nat) (hi : i ≤ c.ends.length) (hl : c.ends.length ≤ 100000000) (w : World) (h : Rd w 1 (.slice E.a c.ends.length E.c) c.ends.length (c.ends.map (.int .i64))) :
    Calls Try.prog 69 #[colV c B D E W, .int .i64 (i : Int)] w (IntP (aheadI c.ends i) w) := by
  have hb0 := Aside.mk (below_new w (.cells #[.int .i64 c.k, .int .i64 c.s, .int .i64 c.n, .int .i64 c.m, .slice B.a c.bits.length B.c, .slice D.a c.data.length D.c, .slice E.a c.ends.length E.c, .slice W.a c.words.length W.c] 43))
  cases i with
  | zero =>
    dsimp only [colV]
    go_enter Try.func69, Try.ntmps69
    go_wp2
    go_ret
    exact ⟨rfl, hb0.out⟩
  | succ i =>
    obtain ⟨ea, ec⟩ := E
    obtain ⟨g, off, cap, hs, hlc, hcap, hc⟩ := rd_get h i (by omega)
    simp only [Value.slice.injEq, true_and] at hs
    obtain ⟨rfl, rfl⟩ := hs
    have hbn := below_new w (.cells #[.int .i64 c.k, .int .i64 c.s, .int .i64 c.n, .int .i64 c.m, .slice B.a c.bits.length B.c, .slice D.a c.data.length D.c, .slice (some ⟨g, off, none⟩) c.ends.length ec, .slice W.a c.words.length W.c] 43)
    have hc2 := (hbn.cell (p := ⟨g, off + i, none⟩) (World.block_lt_of_cell? _ _ hc)).trans hc
    have r := Aside.mk (show aheadI c.ends (i + 1) = c.ends.getD i 0 from by rw [aheadI, if_neg (by omega)]; rfl)
    clear h hbn hc
    generalize c.ends.getD i 0 = y at *
    dsimp only [colV]
    have hne : (((i + 1 : Nat) : Int) == 0) = false := by simp; omega
    go_enter Try.func69, Try.ntmps69
    go_wp2
    go_ret
    exact ⟨ret_int r.out.symm, hb0.out⟩
theorem empty_len {α : Type} (l : List α) : ((l.length : Int) == 0) = l.isEmpty := by cases l <;> simp; omega
theorem sized_1 (c : Col) (B D E X : SL) (hl : c.data.length ≤ 100000000) (w : World) :
    Calls Try.prog 141 #[.agg #[.int .i64 1], colV c B D E X] w (BoolP (sizedB 1 c) w) := by
  have hb0 := Aside.mk (((below_new w (.cells #[.int .i64 1] 128)).trans ((below_new _ (.cells #[.int .i64 c.k, .int .i64 c.s, .int .i64 c.n, .int .i64 c.m, .slice B.a c.bits.length B.c, .slice D.a c.data.length D.c, .slice E.a c.ends.length E.c, .slice X.a c.words.length X.c] 43)).mono (by simp))))
  dsimp only [colV]
  by_cases h1 : (c.data.length : Int) % 1 = 0
  · have d1 : ((c.data.length : Int) % 1 == 0) = true := by simp only [h1]; rfl
    have g1 : c.data.length % 1 = 0 := by omega
    by_cases h2 : ((c.data.length : Int) / 1) = c.n
    · have d2 : ((c.data.length : Int) == c.n) = true := by simpa using h2
      have r := Aside.mk (show ((c.ends.length : Int) == 0) = sizedB 1 c by rw [empty_len]; unfold sizedB; simp [g1]; intro _; omega)
      go_enter Try.func141, Try.ntmps141
      go_wp2
      go_quiet (fail)
      go_wp2
      go_ret
      exact ⟨ret_bool r.out, hb0.out.trans (below_drewN _ _ _)⟩
    · have d2 : ((c.data.length : Int) == c.n) = false := by simpa using h2
      have r := Aside.mk (show false = sizedB 1 c by unfold sizedB; simp [g1]; omega)
      go_enter Try.func141, Try.ntmps141
      go_wp2
      go_quiet (fail)
      go_wp2
      go_ret
      exact ⟨ret_bool r.out, hb0.out.trans (below_drewN _ _ _)⟩
  · exact absurd (Int.emod_one _) h1
theorem sized_2 (c : Col) (B D E X : SL) (hl : c.data.length ≤ 100000000) (w : World) :
    Calls Try.prog 141 #[.agg #[.int .i64 2], colV c B D E X] w (BoolP (sizedB 2 c) w) := by
  have hb0 := Aside.mk (((below_new w (.cells #[.int .i64 2] 128)).trans ((below_new _ (.cells #[.int .i64 c.k, .int .i64 c.s, .int .i64 c.n, .int .i64 c.m, .slice B.a c.bits.length B.c, .slice D.a c.data.length D.c, .slice E.a c.ends.length E.c, .slice X.a c.words.length X.c] 43)).mono (by simp))))
  dsimp only [colV]
  by_cases h1 : (c.data.length : Int) % 2 = 0
  · have d1 : ((c.data.length : Int) % 2 == 0) = true := by simp only [h1]; rfl
    have g1 : c.data.length % 2 = 0 := by omega
    by_cases h2 : ((c.data.length : Int) / 2) = c.n
    · have d2 : ((c.data.length : Int) / 2 == c.n) = true := by rw [h2]; simp
      have r := Aside.mk (show ((c.ends.length : Int) == 0) = sizedB 2 c by rw [empty_len]; unfold sizedB; simp [g1]; intro _; omega)
      go_enter Try.func141, Try.ntmps141
      go_wp2
      go_quiet (fail)
      go_wp2
      go_ret
      exact ⟨ret_bool r.out, hb0.out.trans (below_drewN _ _ _)⟩
    · have d2 : ((c.data.length : Int) / 2 == c.n) = false := by simpa using h2
      have r := Aside.mk (show false = sizedB 2 c by unfold sizedB; simp [g1]; omega)
      go_enter Try.func141, Try.ntmps141
      go_wp2
      go_quiet (fail)
      go_wp2
      go_ret
      exact ⟨ret_bool r.out, hb0.out.trans (below_drewN _ _ _)⟩
  · have d1 : ((c.data.length : Int) % 2 == 0) = false := by simpa using h1
    have r := Aside.mk (show false = sizedB 2 c by unfold sizedB; simp; omega)
    go_enter Try.func141, Try.ntmps141
    go_wp2
    go_quiet (fail)
    go_wp2
    go_ret
    exact ⟨ret_bool r.out, hb0.out.trans (below_drewN _ _ _)⟩
theorem sized_4 (c : Col) (B D E X : SL) (hl : c.data.length ≤ 100000000) (w : World) :
    Calls Try.prog 141 #[.agg #[.int .i64 4], colV c B D E X] w (BoolP (sizedB 4 c) w) := by
  have hb0 := Aside.mk (((below_new w (.cells #[.int .i64 4] 128)).trans ((below_new _ (.cells #[.int .i64 c.k, .int .i64 c.s, .int .i64 c.n, .int .i64 c.m, .slice B.a c.bits.length B.c, .slice D.a c.data.length D.c, .slice E.a c.ends.length E.c, .slice X.a c.words.length X.c] 43)).mono (by simp))))
  dsimp only [colV]
  by_cases h1 : (c.data.length : Int) % 4 = 0
  · have d1 : ((c.data.length : Int) % 4 == 0) = true := by simp only [h1]; rfl
    have g1 : c.data.length % 4 = 0 := by omega
    by_cases h2 : ((c.data.length : Int) / 4) = c.n
    · have d2 : ((c.data.length : Int) / 4 == c.n) = true := by rw [h2]; simp
      have r := Aside.mk (show ((c.ends.length : Int) == 0) = sizedB 4 c by rw [empty_len]; unfold sizedB; simp [g1]; intro _; omega)
      go_enter Try.func141, Try.ntmps141
      go_wp2
      go_quiet (fail)
      go_wp2
      go_ret
      exact ⟨ret_bool r.out, hb0.out.trans (below_drewN _ _ _)⟩
    · have d2 : ((c.data.length : Int) / 4 == c.n) = false := by simpa using h2
      have r := Aside.mk (show false = sizedB 4 c by unfold sizedB; simp [g1]; omega)
      go_enter Try.func141, Try.ntmps141
      go_wp2
      go_quiet (fail)
      go_wp2
      go_ret
      exact ⟨ret_bool r.out, hb0.out.trans (below_drewN _ _ _)⟩
  · have d1 : ((c.data.length : Int) % 4 == 0) = false := by simpa using h1
    have r := Aside.mk (show false = sizedB 4 c by unfold sizedB; simp; omega)
    go_enter Try.func141, Try.ntmps141
    go_wp2
    go_quiet (fail)
    go_wp2
    go_ret
    exact ⟨ret_bool r.out, hb0.out.trans (below_drewN _ _ _)⟩
theorem sized_8 (c : Col) (B D E X : SL) (hl : c.data.length ≤ 100000000) (w : World) :
    Calls Try.prog 141 #[.agg #[.int .i64 8], colV c B D E X] w (BoolP (sizedB 8 c) w) := by
  have hb0 := Aside.mk (((below_new w (.cells #[.int .i64 8] 128)).trans ((below_new _ (.cells #[.int .i64 c.k, .int .i64 c.s, .int .i64 c.n, .int .i64 c.m, .slice B.a c.bits.length B.c, .slice D.a c.data.length D.c, .slice E.a c.ends.length E.c, .slice X.a c.words.length X.c] 43)).mono (by simp))))
  dsimp only [colV]
  by_cases h1 : (c.data.length : Int) % 8 = 0
  · have d1 : ((c.data.length : Int) % 8 == 0) = true := by simp only [h1]; rfl
    have g1 : c.data.length % 8 = 0 := by omega
    by_cases h2 : ((c.data.length : Int) / 8) = c.n
    · have d2 : ((c.data.length : Int) / 8 == c.n) = true := by rw [h2]; simp
      have r := Aside.mk (show ((c.ends.length : Int) == 0) = sizedB 8 c by rw [empty_len]; unfold sizedB; simp [g1]; intro _; omega)
      go_enter Try.func141, Try.ntmps141
      go_wp2
      go_quiet (fail)
      go_wp2
      go_ret
      exact ⟨ret_bool r.out, hb0.out.trans (below_drewN _ _ _)⟩
    · have d2 : ((c.data.length : Int) / 8 == c.n) = false := by simpa using h2
      have r := Aside.mk (show false = sizedB 8 c by unfold sizedB; simp [g1]; omega)
      go_enter Try.func141, Try.ntmps141
      go_wp2
      go_quiet (fail)
      go_wp2
      go_ret
      exact ⟨ret_bool r.out, hb0.out.trans (below_drewN _ _ _)⟩
  · have d1 : ((c.data.length : Int) % 8 == 0) = false := by simpa using h1
    have r := Aside.mk (show false = sizedB 8 c by unfold sizedB; simp; omega)
    go_enter Try.func141, Try.ntmps141
    go_wp2
    go_quiet (fail)
    go_wp2
    go_ret
    exact ⟨ret_bool r.out, hb0.out.trans (below_drewN _ _ _)⟩
theorem sized_any (W : Nat) (hW : W = 1 ∨ W = 2 ∨ W = 4 ∨ W = 8) (c : Col) (B D E X : SL) (hl : c.data.length ≤ 100000000) (w : World) :
    Calls Try.prog 141 #[.agg #[.int .i64 (W : Int)], colV c B D E X] w (BoolP (sizedB W c) w) := by
  rcases hW with rfl | rfl | rfl | rfl
  · exact sized_1 c B D E X hl w
  · exact sized_2 c B D E X hl w
  · exact sized_4 c B D E X hl w
  · exact sized_8 c B D E X hl w
end Go.Proofs.Ytmhjjhaipcgbiaa


namespace Go.Proofs.Ytmhjjhaipcgbiaa
open Go.RowKit
set_option linter.unusedVariables false
set_option linter.unusedSimpArgs false
set_option maxRecDepth 100000
set_option maxHeartbeats 1000000
theorem or_shift (x n : Nat) (d : Nat) (hx : x < 256 ^ n) : x ||| (d * 256 ^ n) = x + d * 256 ^ n := by
  have e : 256 ^ n = 2 ^ (8 * n) := by rw [show 256 = 2 ^ 8 from rfl, Nat.pow_mul]
  rw [e] at hx ⊢
  rw [Nat.mul_comm, Nat.or_comm, ← Nat.two_pow_add_eq_or_of_lt hx]
  omega
theorem wrap_u64 (n : Nat) (h : n < 18446744073709551616) : IntKind.u64.wrap (n : Int) = (n : Int) := by
  have e : IntKind.u64.wrap (n : Int) = (n : Int) % 18446744073709551616 := rfl
  rw [e]; omega
theorem word_next (x n : Nat) (y : Int) (hx : x < 256 ^ n) (h0 : 0 ≤ y) (h1 : y < 256) (hn : n ≤ 7) : bits .or .u64 (x : Int) (IntKind.u64.wrap (y * 2 ^ (8 * n))) = ((x + y.toNat * 256 ^ n : Nat) : Int) := by
  obtain ⟨d, rfl⟩ := Int.eq_ofNat_of_zero_le h0
  have e : 256 ^ n = 2 ^ (8 * n) := by rw [show 256 = 2 ^ 8 from rfl, Nat.pow_mul]
  have e2 : (d : Int) * 2 ^ (8 * n) = ((d * 256 ^ n : Nat) : Int) := by rw [e]; simp
  have hp : 256 ^ n ≤ 256 ^ 7 := Nat.pow_le_pow_right (by decide) hn
  have hd : d * 256 ^ n ≤ 255 * 256 ^ n := Nat.mul_le_mul_right _ (by omega)
  have h7 : (256 : Nat) ^ 7 = 72057594037927936 := by decide
  have hlt : d * 256 ^ n < 18446744073709551616 := by omega
  rw [e2, wrap_u64 _ hlt, u64_or_nat _ _ (by omega) hlt, or_shift _ _ _ hx, Int.toNat_natCast]
theorem fword_1 (c : Col) (B D E X : SL) (i : Nat) (hi : i * 1 + 1 ≤ c.data.length) (hb : IsBytes c.data) (hl : c.data.length ≤ 100000000) (w : World) (h : Rd w 1 (.slice D.a c.data.length D.c) c.data.length (c.data.map (.int .u8))) :
    Calls Try.prog 70 #[.agg #[.int .i64 1], colV c B D E X, .int .i64 (i : Int)] w (U64P (wordAt c.data (i * 1) 1) w) := by
  obtain ⟨da, dc⟩ := D
  obtain ⟨g, off, cap, hs, hlc, hcap, _⟩ := rd_get h 0 (by omega)
  simp only [Value.slice.injEq, true_and] at hs
  obtain ⟨rfl, rfl⟩ := hs
  have HR := Aside.mk h
  have HB := Aside.mk hb
  have hbn := Aside.mk ((below_new w (.cells #[.int .i64 1] 128)).trans ((below_new _ (.cells #[.int .i64 c.k, .int .i64 c.s, .int .i64 c.n, .int .i64 c.m, .slice B.a c.bits.length B.c, .slice (some ⟨g, off, none⟩) c.data.length dc, .slice E.a c.ends.length E.c, .slice X.a c.words.length X.c] 43)).mono (by simp)))
  clear h hb
  dsimp only [colV]
  go_enter Try.func70, Try.ntmps70
  go_wp2
  go_loopw [7, 11] (fun xv kv wr => ∃ k : Nat, k ≤ 1 ∧ kv = .int .i64 (k : Int) ∧ xv = .int .u64 (wordAt c.data (i * 1) k : Int) ∧ wr = ((w.alloc (.cells #[.int .i64 1] 128)).alloc (.cells #[.int .i64 c.k, .int .i64 c.s, .int .i64 c.n, .int .i64 c.m, .slice B.a c.bits.length B.c, .slice (some ⟨g, off, none⟩) c.data.length dc, .slice E.a c.ends.length E.c, .slice X.a c.words.length X.c] 43))) (fun xv kv _ => 1 - (intOf kv).toNat)
  case atStart => exact ⟨0, by omega, rfl, rfl, rfl⟩
  case round =>
    obtain ⟨k, hk, rfl, rfl, rfl⟩ := hrel
    by_cases hlt : k < 1
    · obtain ⟨g', off', cap', hs', _, _, hc⟩ := rd_get HR.out (i * 1 + k) (by omega)
      simp only [Value.slice.injEq, Option.some.injEq, Addr.mk.injEq, and_true, true_and] at hs'
      obtain ⟨⟨rfl, rfl⟩, rfl⟩ := hs'
      have hc2 := (hbn.out.cell (p := ⟨g, off + (i * 1 + k), none⟩) (World.block_lt_of_cell? _ _ hc)).trans hc
      have hv := getD_byte HB.out (i * 1 + k)
      have hw := wordAt_lt HB.out (i * 1) k
      have HS := Aside.mk (show _ = ((wordAt c.data (i * 1) (k + 1) : Nat) : Int) from word_next _ k _ hw hv.1 hv.2 (by omega))
      generalize hx : wordAt c.data (i * 1) (k + 1) = z at *
      have HX := Aside.mk hx
      clear hx
      generalize wordAt c.data (i * 1) k = x at *
      generalize c.data.getD (i * 1 + k) 0 = y at *
      clear hc
      simp only [Nat.mul_one] at hc2
      go_wp2
      refine ⟨⟨k + 1, by omega, by simp, ?_, trivial⟩, by simp [intOf]; omega⟩
      rw [HX.out, HS.out]
    · obtain rfl : k = 1 := by omega
      go_wp2
      go_ret
      exact ⟨rfl, hbn.out⟩
theorem fword_2 (c : Col) (B D E X : SL) (i : Nat) (hi : i * 2 + 2 ≤ c.data.length) (hb : IsBytes c.data) (hl : c.data.length ≤ 100000000) (w : World) (h : Rd w 1 (.slice D.a c.data.length D.c) c.data.length (c.data.map (.int .u8))) :
    Calls Try.prog 70 #[.agg #[.int .i64 2], colV c B D E X, .int .i64 (i : Int)] w (U64P (wordAt c.data (i * 2) 2) w) := by
  obtain ⟨da, dc⟩ := D
  obtain ⟨g, off, cap, hs, hlc, hcap, _⟩ := rd_get h 0 (by omega)
  simp only [Value.slice.injEq, true_and] at hs
  obtain ⟨rfl, rfl⟩ := hs
  have HR := Aside.mk h
  have HB := Aside.mk hb
  have hbn := Aside.mk ((below_new w (.cells #[.int .i64 2] 128)).trans ((below_new _ (.cells #[.int .i64 c.k, .int .i64 c.s, .int .i64 c.n, .int .i64 c.m, .slice B.a c.bits.length B.c, .slice (some ⟨g, off, none⟩) c.data.length dc, .slice E.a c.ends.length E.c, .slice X.a c.words.length X.c] 43)).mono (by simp)))
  clear h hb
  dsimp only [colV]
  go_enter Try.func70, Try.ntmps70
  go_wp2
  go_loopw [7, 11] (fun xv kv wr => ∃ k : Nat, k ≤ 2 ∧ kv = .int .i64 (k : Int) ∧ xv = .int .u64 (wordAt c.data (i * 2) k : Int) ∧ wr = ((w.alloc (.cells #[.int .i64 2] 128)).alloc (.cells #[.int .i64 c.k, .int .i64 c.s, .int .i64 c.n, .int .i64 c.m, .slice B.a c.bits.length B.c, .slice (some ⟨g, off, none⟩) c.data.length dc, .slice E.a c.ends.length E.c, .slice X.a c.words.length X.c] 43))) (fun xv kv _ => 2 - (intOf kv).toNat)
  case atStart => exact ⟨0, by omega, rfl, rfl, rfl⟩
  case round =>
    obtain ⟨k, hk, rfl, rfl, rfl⟩ := hrel
    by_cases hlt : k < 2
    · obtain ⟨g', off', cap', hs', _, _, hc⟩ := rd_get HR.out (i * 2 + k) (by omega)
      simp only [Value.slice.injEq, Option.some.injEq, Addr.mk.injEq, and_true, true_and] at hs'
      obtain ⟨⟨rfl, rfl⟩, rfl⟩ := hs'
      have hc2 := (hbn.out.cell (p := ⟨g, off + (i * 2 + k), none⟩) (World.block_lt_of_cell? _ _ hc)).trans hc
      have hv := getD_byte HB.out (i * 2 + k)
      have hw := wordAt_lt HB.out (i * 2) k
      have HS := Aside.mk (show _ = ((wordAt c.data (i * 2) (k + 1) : Nat) : Int) from word_next _ k _ hw hv.1 hv.2 (by omega))
      generalize hx : wordAt c.data (i * 2) (k + 1) = z at *
      have HX := Aside.mk hx
      clear hx
      generalize wordAt c.data (i * 2) k = x at *
      generalize c.data.getD (i * 2 + k) 0 = y at *
      clear hc
      go_wp2
      refine ⟨⟨k + 1, by omega, by simp, ?_, trivial⟩, by simp [intOf]; omega⟩
      rw [HX.out, HS.out]
    · obtain rfl : k = 2 := by omega
      go_wp2
      go_ret
      exact ⟨rfl, hbn.out⟩
theorem fword_4 (c : Col) (B D E X : SL) (i : Nat) (hi : i * 4 + 4 ≤ c.data.length) (hb : IsBytes c.data) (hl : c.data.length ≤ 100000000) (w : World) (h : Rd w 1 (.slice D.a c.data.length D.c) c.data.length (c.data.map (.int .u8))) :
    Calls Try.prog 70 #[.agg #[.int .i64 4], colV c B D E X, .int .i64 (i : Int)] w (U64P (wordAt c.data (i * 4) 4) w) := by
  obtain ⟨da, dc⟩ := D
  obtain ⟨g, off, cap, hs, hlc, hcap, _⟩ := rd_get h 0 (by omega)
  simp only [Value.slice.injEq, true_and] at hs
  obtain ⟨rfl, rfl⟩ := hs
  have HR := Aside.mk h
  have HB := Aside.mk hb
  have hbn := Aside.mk ((below_new w (.cells #[.int .i64 4] 128)).trans ((below_new _ (.cells #[.int .i64 c.k, .int .i64 c.s, .int .i64 c.n, .int .i64 c.m, .slice B.a c.bits.length B.c, .slice (some ⟨g, off, none⟩) c.data.length dc, .slice E.a c.ends.length E.c, .slice X.a c.words.length X.c] 43)).mono (by simp)))
  clear h hb
  dsimp only [colV]
  go_enter Try.func70, Try.ntmps70
  go_wp2
  go_loopw [7, 11] (fun xv kv wr => ∃ k : Nat, k ≤ 4 ∧ kv = .int .i64 (k : Int) ∧ xv = .int .u64 (wordAt c.data (i * 4) k : Int) ∧ wr = ((w.alloc (.cells #[.int .i64 4] 128)).alloc (.cells #[.int .i64 c.k, .int .i64 c.s, .int .i64 c.n, .int .i64 c.m, .slice B.a c.bits.length B.c, .slice (some ⟨g, off, none⟩) c.data.length dc, .slice E.a c.ends.length E.c, .slice X.a c.words.length X.c] 43))) (fun xv kv _ => 4 - (intOf kv).toNat)
  case atStart => exact ⟨0, by omega, rfl, rfl, rfl⟩
  case round =>
    obtain ⟨k, hk, rfl, rfl, rfl⟩ := hrel
    by_cases hlt : k < 4
    · obtain ⟨g', off', cap', hs', _, _, hc⟩ := rd_get HR.out (i * 4 + k) (by omega)
      simp only [Value.slice.injEq, Option.some.injEq, Addr.mk.injEq, and_true, true_and] at hs'
      obtain ⟨⟨rfl, rfl⟩, rfl⟩ := hs'
      have hc2 := (hbn.out.cell (p := ⟨g, off + (i * 4 + k), none⟩) (World.block_lt_of_cell? _ _ hc)).trans hc
      have hv := getD_byte HB.out (i * 4 + k)
      have hw := wordAt_lt HB.out (i * 4) k
      have HS := Aside.mk (show _ = ((wordAt c.data (i * 4) (k + 1) : Nat) : Int) from word_next _ k _ hw hv.1 hv.2 (by omega))
      generalize hx : wordAt c.data (i * 4) (k + 1) = z at *
      have HX := Aside.mk hx
      clear hx
      generalize wordAt c.data (i * 4) k = x at *
      generalize c.data.getD (i * 4 + k) 0 = y at *
      clear hc
      go_wp2
      refine ⟨⟨k + 1, by omega, by simp, ?_, trivial⟩, by simp [intOf]; omega⟩
      rw [HX.out, HS.out]
    · obtain rfl : k = 4 := by omega
      go_wp2
      go_ret
      exact ⟨rfl, hbn.out⟩
theorem fword_8 (c : Col) (B D E X : SL) (i : Nat) (hi : i * 8 + 8 ≤ c.data.length) (hb : IsBytes c.data) (hl : c.data.length ≤ 100000000) (w : World) (h : Rd w 1 (.slice D.a c.data.length D.c) c.data.length (c.data.map (.int .u8))) :
    Calls Try.prog 70 #[.agg #[.int .i64 8], colV c B D E X, .int .i64 (i : Int)] w (U64P (wordAt c.data (i * 8) 8) w) := by
  obtain ⟨da, dc⟩ := D
  obtain ⟨g, off, cap, hs, hlc, hcap, _⟩ := rd_get h 0 (by omega)
  simp only [Value.slice.injEq, true_and] at hs
  obtain ⟨rfl, rfl⟩ := hs
  have HR := Aside.mk h
  have HB := Aside.mk hb
  have hbn := Aside.mk ((below_new w (.cells #[.int .i64 8] 128)).trans ((below_new _ (.cells #[.int .i64 c.k, .int .i64 c.s, .int .i64 c.n, .int .i64 c.m, .slice B.a c.bits.length B.c, .slice (some ⟨g, off, none⟩) c.data.length dc, .slice E.a c.ends.length E.c, .slice X.a c.words.length X.c] 43)).mono (by simp)))
  clear h hb
  dsimp only [colV]
  go_enter Try.func70, Try.ntmps70
  go_wp2
  go_loopw [7, 11] (fun xv kv wr => ∃ k : Nat, k ≤ 8 ∧ kv = .int .i64 (k : Int) ∧ xv = .int .u64 (wordAt c.data (i * 8) k : Int) ∧ wr = ((w.alloc (.cells #[.int .i64 8] 128)).alloc (.cells #[.int .i64 c.k, .int .i64 c.s, .int .i64 c.n, .int .i64 c.m, .slice B.a c.bits.length B.c, .slice (some ⟨g, off, none⟩) c.data.length dc, .slice E.a c.ends.length E.c, .slice X.a c.words.length X.c] 43))) (fun xv kv _ => 8 - (intOf kv).toNat)
  case atStart => exact ⟨0, by omega, rfl, rfl, rfl⟩
  case round =>
    obtain ⟨k, hk, rfl, rfl, rfl⟩ := hrel
    by_cases hlt : k < 8
    · obtain ⟨g', off', cap', hs', _, _, hc⟩ := rd_get HR.out (i * 8 + k) (by omega)
      simp only [Value.slice.injEq, Option.some.injEq, Addr.mk.injEq, and_true, true_and] at hs'
      obtain ⟨⟨rfl, rfl⟩, rfl⟩ := hs'
      have hc2 := (hbn.out.cell (p := ⟨g, off + (i * 8 + k), none⟩) (World.block_lt_of_cell? _ _ hc)).trans hc
      have hv := getD_byte HB.out (i * 8 + k)
      have hw := wordAt_lt HB.out (i * 8) k
      have HS := Aside.mk (show _ = ((wordAt c.data (i * 8) (k + 1) : Nat) : Int) from word_next _ k _ hw hv.1 hv.2 (by omega))
      generalize hx : wordAt c.data (i * 8) (k + 1) = z at *
      have HX := Aside.mk hx
      clear hx
      generalize wordAt c.data (i * 8) k = x at *
      generalize c.data.getD (i * 8 + k) 0 = y at *
      clear hc
      go_wp2
      refine ⟨⟨k + 1, by omega, by simp, ?_, trivial⟩, by simp [intOf]; omega⟩
      rw [HX.out, HS.out]
    · obtain rfl : k = 8 := by omega
      go_wp2
      go_ret
      exact ⟨rfl, hbn.out⟩
theorem fword_any (W : Nat) (hW : W = 1 ∨ W = 2 ∨ W = 4 ∨ W = 8) (c : Col) (B D E X : SL) (i : Nat) (hi : i * W + W ≤ c.data.length) (hb : IsBytes c.data) (hl : c.data.length ≤ 100000000) (w : World) (h : Rd w 1 (.slice D.a c.data.length D.c) c.data.length (c.data.map (.int .u8))) :
    Calls Try.prog 70 #[.agg #[.int .i64 (W : Int)], colV c B D E X, .int .i64 (i : Int)] w (U64P (wordAt c.data (i * W) W) w) := by
  rcases hW with rfl | rfl | rfl | rfl
  · exact fword_1 c B D E X i hi hb hl w h
  · exact fword_2 c B D E X i hi hb hl w h
  · exact fword_4 c B D E X i hi hb hl w h
  · exact fword_8 c B D E X i hi hb hl w h
end Go.Proofs.Ytmhjjhaipcgbiaa
