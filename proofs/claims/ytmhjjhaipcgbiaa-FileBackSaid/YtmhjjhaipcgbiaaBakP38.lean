/- Texts of this claim, one behind the other: Fx, Gt, Gu. -/
import Derived.Test.YtmhjjhaipcgbiaaBakP37
import Derived.Test.YtmhjjhaipcgbiaaBakP32
import Derived.Test.YtmhjjhaipcgbiaaBakP19
import Derived.Test.YtmhjjhaipcgbiaaBakP29
import Derived.Test.YtmhjjhaipcgbiaaBakP24
import Derived.Test.YtmhjjhaipcgbiaaBakP33
import Derived.Test.YtmhjjhaipcgbiaaBakP22
import Derived.Test.YtmhjjhaipcgbiaaBakP30
import Derived.Deep.QuietTactic
import Derived.BigQuiet
import Derived.Laws.StructEq

namespace Go.Proofs.Ytmhjjhaipcgbiaa
open Go.RowKit
set_option linter.unusedVariables false
set_option linter.unusedSimpArgs false
set_option maxRecDepth 100000
set_option maxHeartbeats 1000000
theorem cnt_max (k : Int) (l : List V) : (CS.of k l).ends.length ≤ l.length ∧ (CS.of k l).words.length ≤ l.length := by
  induction l using snoc_ind with
  | h0 => exact ⟨Nat.zero_le _, Nat.zero_le _⟩
  | h1 l v ih =>
    obtain ⟨h1, h2⟩ := ih
    rw [CS.of_snoc, List.length_append, List.length_singleton]
    unfold CS.add
    split
    · exact ⟨by dsimp only; rw [List.length_append, List.length_singleton]; omega, by dsimp only; omega⟩
    split
    · refine ⟨by dsimp only; omega, ?_⟩
      dsimp only
      split
      · omega
      · unfold addWord
        split
        · omega
        · rw [List.length_append, List.length_singleton]; omega
    · exact ⟨by dsimp only; omega, by dsimp only; omega⟩
theorem sm_of {k s : Int} {l : List V} (h1 : l.length ≤ 120) (h2 : ∀ v ∈ l, v.text.length ≤ 40) : SmC ((CS.of k l).col k s) := by
  obtain ⟨d1, d2⟩ := data_max k l 40 (by decide) h2
  obtain ⟨c1, c2⟩ := cnt_max k l
  refine ⟨?_, ?_, ?_, ?_⟩
  · show (mof (CS.of k l).nulls).length ≤ 2000000
    rw [mof_len, nulls_of, List.length_map]; omega
  · show (CS.of k l).data.length ≤ 2000000
    omega
  · show (CS.of k l).ends.length ≤ 250000
    omega
  · show (encW (CS.of k l).words).length ≤ 4000000
    have := flat_len txtL 48 (CS.of k l).words (fun x hx => by unfold txtL; rw [List.length_append, len_lows]; have := d2 x hx; omega)
    unfold encW
    omega
theorem encC_lim {c : Col} (h1 : c.bits.length ≤ 200) (h2 : c.data.length ≤ 4800) (h3 : c.ends.length ≤ 120) (h4 : (encW c.words).length ≤ 6000) : (encC c).length ≤ 20000 := by
  unfold encC
  split <;> simp only [List.length_append, len_lows, encE_len, List.length_nil] <;> omega
theorem encC_plain {k s : Int} {l : List V} (h1 : l.length ≤ 120) (h2 : ∀ v ∈ l, v.text.length ≤ 40) : (encC ((CS.of k l).col k s)).length ≤ 20000 := by
  obtain ⟨d1, d2⟩ := data_max k l 40 (by decide) h2
  obtain ⟨c1, c2⟩ := cnt_max k l
  have h4 : l.length * 40 ≤ 120 * 40 := Nat.mul_le_mul_right _ h1
  have a1 : (mof (CS.of k l).nulls).length ≤ 200 := by rw [mof_len, nulls_of, List.length_map]; omega
  have a2 : (encW (CS.of k l).words).length ≤ 6000 := by
    have := flat_len txtL 48 (CS.of k l).words (fun x hx => by unfold txtL; rw [List.length_append, len_lows]; have := d2 x hx; omega)
    unfold encW
    omega
  exact encC_lim a1 (show (CS.of k l).data.length ≤ 4800 by omega) (show (CS.of k l).ends.length ≤ 120 by omega) a2
theorem PlainT.cols {t : Tb} (h : PlainT t) : (t.cs.flatMap encC).length ≤ 160000 := by
  obtain ⟨n, L, hn, hr, h8, hl, hsp, hcc⟩ := h
  have h2 := flat_len encC 20000 t.cs (fun x hx => by
    obtain ⟨i, hi, rfl⟩ := List.mem_iff_getElem.1 hx
    obtain ⟨e, q1, q2⟩ := hcc i hi (by omega)
    rw [e]
    exact encC_plain (by omega) (fun v hv => (q2 v hv).2))
  omega
theorem PlainT.sm {t : Tb} (h : PlainT t) : TbE t := by
  refine ⟨h.table.2, fun c hc => ?_, Nat.le_trans h.cols (by decide)⟩
  obtain ⟨n, L, hn, hr, h8, hl, hsp, hcc⟩ := h
  obtain ⟨i, hi, rfl⟩ := List.mem_iff_getElem.1 hc
  obtain ⟨e, q1, q2⟩ := hcc i hi (by omega)
  rw [e]
  exact sm_of (by omega) (fun v hv => (q2 v hv).2)
def EncY (t : Tb) (w : World) (e : Ending) (w' : World) : Prop := ∃ a c, e = .returned (.tuple #[.slice a (encT t).length c, .int .i64 0]) ∧ Own w' w.heap.size 5 1 (.slice a (encT t).length c) (encT t).length ((encT t).map (.int .u8)) ∧ Below w.heap.size w w'
theorem encode_yes (t : Tb) (ht : TbE t) (hp : TableP t) (H C : SL) (w : World) (h : RdTb w t H C) : Calls Try.prog 31 #[tbV t H C] w (EncY t w) := by
  refine (encode_any t ht H C w h).mono ?_
  rintro e w' ⟨hb, ⟨_, a, c, he, ho⟩ | ⟨hn, _⟩⟩
  · exact ⟨a, c, he, ho, hb⟩
  · exact absurd hp hn
theorem encT_len (t : Tb) : (encT t).length = (encB t).length + 8 := by unfold encT; rw [List.length_append, lows_len]
theorem encT_bytes {t : Tb} (h : ∀ c ∈ t.cs, COK c) : IsBytes (encT t) := by
  unfold encT; exact app_bytes (encB_bytes h) (lows_bytes _ _)
theorem encT_max {t : Tb} (h : PlainT t) : (encT t).length ≤ 500000 := by
  rw [encT_len]
  have h2 := h.cols
  obtain ⟨n, L, hn, hr, h8, hl, hsp, hcc⟩ := h
  have h1 := flat_len encH 96 t.hs (fun x hx => encH_len x (nameB_size (hsp.2.2.1 x hx)))
  unfold encB
  simp only [List.length_append, lows_len, List.length_cons, List.length_nil]
  omega
end Go.Proofs.Ytmhjjhaipcgbiaa


namespace Go.Proofs.Ytmhjjhaipcgbiaa
open Go.RowKit
set_option linter.unusedVariables false
set_option linter.unusedSimpArgs false
set_option maxRecDepth 100000
set_option maxHeartbeats 1000000
theorem equal_tail_y {bs : List Int} (hb : IsBytes bs) {n k : Nat} (hnk : n ≤ k) (hn : n + 8 = k) (hk : k = bs.length) (hne : lows (sumN (bs.take n)) 8 = bs.drop n) {g off Ac : Nat} {U : World} (hU : Rd U 1 (.slice (some ⟨g, off, none⟩) k Ac) k (bs.map (.int .u8))) {na : Option Addr} {nc : Nat} (ho : Rd U 1 (.slice na ([] ++ lows (sumN (bs.take n)) 8).length nc) ([] ++ lows (sumN (bs.take n)) 8).length (([] ++ lows (sumN (bs.take n)) 8).map (.int .u8))) :
    Calls Try.prog 79 #[.slice na ([] ++ lows (sumN (bs.take n)) 8).length nc, .slice (if Ac = n then some ⟨g, off, none⟩ else some ⟨g, off + n, none⟩) (k - n) (Ac - n)] U (BoolP true U) := by
  have hr := hU.mid hnk (Nat.le_refl k)
  simp only [Nat.mul_one, ← List.map_drop, ← List.map_take] at hr
  have hl : (bs.drop n).length = k - n := by rw [List.length_drop, hk]
  rw [List.take_of_length_le (by omega)] at hr
  have hc0 : cutA (some ⟨g, off, none⟩) Ac n 1 = if Ac = n then some ⟨g, off, none⟩ else some ⟨g, off + n, none⟩ := by unfold cutA; split <;> simp [Addr.add]
  rw [hc0] at hr
  have := bequal_any ([] ++ lows (sumN (bs.take n)) 8) (bs.drop n) ⟨na, nc⟩ ⟨if Ac = n then some ⟨g, off, none⟩ else some ⟨g, off + n, none⟩, Ac - n⟩ (lows_bytes _ _) (fun v hv => hb v (List.mem_of_mem_drop hv)) U ho (by rw [hl]; exact hr)
  rw [hl] at this
  rwa [show decide ([] ++ lows (sumN (bs.take n)) 8 = bs.drop n) = true from decide_eq_true hne] at this
theorem strL_str {l : List Int} (h : IsBytes l) : strL (strOfNums l) = l := by
  unfold strL strOfNums
  rw [List.map_map]
  conv => rhs; rw [← List.map_id l]
  refine List.map_congr_left fun x hx => ?_
  have := h x hx
  simp only [Function.comp, id]
  have e : (UInt8.ofNat x.toNat).toNat = x.toNat := by rw [UInt8.toNat_ofNat']; omega
  rw [e]; omega
theorem magic_eq {l : List Int} (h : IsBytes l) : ((strOfNums l).toList == ([77, 84, 71, 49] : List UInt8)) = decide (l = [77, 84, 71, 49]) := by
  rw [Bool.eq_iff_iff, beq_iff_eq, decide_eq_true_eq]
  have hm : (strOfNums [77, 84, 71, 49]).toList = ([77, 84, 71, 49] : List UInt8) := by rw [ByteArray.toList_eq]; rfl
  constructor
  · intro e
    have : (strOfNums l).data.toList = (strOfNums [77, 84, 71, 49]).data.toList := by rw [← ByteArray.toList_eq, ← ByteArray.toList_eq, e, hm]
    rw [← strL_str h]
    unfold strL
    rw [this]
    exact strL_str (l := [77, 84, 71, 49]) (by intro x hx; simp at hx; omega)
  · rintro rfl
    exact hm
def DecQ (bs : List Int) (w : World) (e : Ending) (w' : World) : Prop := Below w.heap.size w w' ∧ ((∃ (t : Tb) (H C : SL) (ys : List Value), TableP t ∧ TbE t ∧ encT t = bs ∧ e = .returned (.tuple #[tbV t H C, .int .i64 0]) ∧ Own w' w.heap.size 137 4 (.slice H.a t.hs.length H.c) t.hs.length (t.hs.flatMap hdCells) ∧ OwnDs w' w.heap.size C t.cs ys) ∨
  ((∀ t, TableP t → TbE t → encT t ≠ bs) ∧ e = .returned (.tuple #[.agg #[.slice none 0 0, .int .i64 0, .slice none 0 0], .int .i64 250])))
theorem enc_some {t : Tb} {n : Int} {w w' : World} {e : Ending} (h : EncP t n w e w') : ∃ a' n' c' er, e = .returned (.tuple #[.slice a' n' c', .int .i64 er]) ∧ Below w.heap.size w w' := by
  obtain ⟨hb, ⟨_, a, c, he, _⟩ | ⟨_, he⟩⟩ := h
  · exact ⟨_, _, _, _, he, hb⟩
  · exact ⟨_, _, _, _, he, hb⟩
theorem enc_no {t : Tb} {n : Int} {w w' : World} {e : Ending} (hT : ¬ TableP t) (h : EncP t n w e w') : e = .returned (.tuple #[.slice none 0 0, .int .i64 n]) ∧ Below w.heap.size w w' := by
  obtain ⟨hb, ⟨h1, _⟩ | ⟨_, he⟩⟩ := h
  · exact absurd h1 hT
  · exact ⟨he, hb⟩
theorem enc_yes {t : Tb} {n : Int} {w w' : World} {e : Ending} (hT : TableP t) (h : EncP t n w e w') : EncY t w e w' := by
  obtain ⟨hb, ⟨_, a, c, he, ho⟩ | ⟨h1, _⟩⟩ := h
  · exact ⟨a, c, he, ho, hb⟩
  · exact absurd hT h1
theorem dec_yes (bs : List Int) (hb : IsBytes bs) (n : Nat) (hn : n + 8 = bs.length) (hl : bs.length ≤ 1900000) (heq : lows (sumN (bs.take n)) 8 = bs.drop n) (A : SL) (w : World) (h : Rd w 1 (.slice A.a bs.length A.c) bs.length (bs.map (.int .u8))) :
    Calls Try.prog 34 #[.slice A.a bs.length A.c] w (DecQ bs w) := by
  have HR := Aside.mk h
  have HN := Aside.mk hn
  have HN0 := Aside.mk hn
  have HNE := Aside.mk heq
  obtain ⟨Aa, Ac⟩ := A
  have hb0 : 0 < bs.length := by omega
  obtain ⟨g, off, cap, e, q1, q2, hc⟩ := h.some_ (by simpa using hb0)
  have hg0 := hc 0 (.int .u8 bs[0]) (by rw [List.getElem?_map, List.getElem?_eq_getElem hb0]; rfl)
  clear hc
  simp only [Value.slice.injEq, true_and] at e
  obtain ⟨rfl, rfl⟩ := e
  obtain ⟨k, hk⟩ : ∃ k, k = bs.length := ⟨_, rfl⟩
  rw [← hk] at q1 HN ⊢
  have HK := Aside.mk hk
  have hw1 : IntKind.i64.wrap ((k : Int) - 8) = (n : Int) := by rw [IntWalk.i64_left, IntWalk.wrap64_in] <;> omega
  have hw2 : decide ((n : Int) < 0) = false := decide_eq_false (by omega)
  have hw3 : (n : Int) ≤ (Ac : Int) := by omega
  clear h hn heq hk
  dsimp only
  go_enter Try.func34, Try.ntmps34
  go_upto_region 2 with fail
  have HB2 := Aside.mk (below_new w (.cells #[.slice none 0 0, .int .i64 0, .slice none 0 0] 73))
  have HX2 := Aside.mk (heap_alloc_new w (.cells #[.slice none 0 0, .int .i64 0, .slice none 0 0] 73))
  have hn0 : (0 : Int) ≤ (n : Int) := by omega
  have hnk : n ≤ k := by have := HN.out; omega
  have HRK := Aside.mk (show Rd w 1 (.slice (some ⟨g, off, none⟩) k Ac) k (bs.map (.int .u8)) from by rw [HK.out]; exact HR.out)
  have HSUM := Aside.mk (fun (U : World) (hU : Rd U 1 (.slice (some ⟨g, off, none⟩) k Ac) k (bs.map (.int .u8))) => sum_head hb hnk (by have := HK.out; omega) hU)
  generalize w.alloc (.cells #[.slice none 0 0, .int .i64 0, .slice none 0 0] 73) = w2 at *
  refine wp_regionO (fun U : World => Rd U 1 (.slice (some ⟨g, off, none⟩) k Ac) k (bs.map (.int .u8))) 13 14 (by kernel_rfl) rfl ?_
  have hS : (fun U : World => Rd U 1 (.slice (some ⟨g, off, none⟩) k Ac) k (bs.map (.int .u8))) w2.drew := (HRK.out.below HB2.out).below (below_drewN w2 _ 1)
  refine tkO (k := 0) (o := ⟨some 14, _, _, _, _, _⟩) (v := ?_) rfl (Or.inl ⟨by rfl, ?_⟩) (by assumption) ?_
  rotate_left
  · (intro w hSw; go_simp; (try with_reducible rfl))
  (try simp only [Act.put, List.setIfInBounds_toArray, List.set_cons_zero, List.set_cons_succ])
  refine tkO (k := 1) (o := ⟨some 15, _, _, _, _, _⟩) (v := ?_) rfl (Or.inl ⟨by rfl, ?_⟩) (by assumption) ?_
  rotate_left
  · (intro w hSw; go_simp; (try with_reducible rfl))
  (try simp only [Act.put, List.setIfInBounds_toArray, List.set_cons_zero, List.set_cons_succ])
  refine tkO (k := 2) (o := ⟨some 16, _, _, _, _, _⟩) (v := ?_) rfl (Or.inl ⟨by rfl, ?_⟩) (by assumption) ?_
  rotate_left
  · (intro w hSw; go_simp; (try with_reducible rfl))
  (try simp only [Act.put, List.setIfInBounds_toArray, List.set_cons_zero, List.set_cons_succ])
  refine tkO (k := 3) (o := ⟨some 17, _, _, _, _, _⟩) (v := ?_) rfl (Or.inl ⟨by rfl, ?_⟩) (by assumption) ?_
  rotate_left
  · (intro w hSw; go_simp; (try with_reducible rfl))
  (try simp only [Act.put, List.setIfInBounds_toArray, List.set_cons_zero, List.set_cons_succ])
  refine tkO (k := 4) (o := ⟨some 18, _, _, _, _, _⟩) (v := ?_) rfl (Or.inl ⟨by rfl, ?_⟩) (by assumption) ?_
  rotate_left
  · (intro w hSw; go_simp; (try with_reducible rfl))
  (try simp only [Act.put, List.setIfInBounds_toArray, List.set_cons_zero, List.set_cons_succ])
  refine tkO (k := 5) (o := ⟨some 19, _, _, _, _, _⟩) (v := ?_) rfl (Or.inl ⟨by rfl, ?_⟩) (by assumption) ?_
  rotate_left
  · (intro w hSw; go_simp; (try with_reducible rfl))
  (try simp only [Act.put, List.setIfInBounds_toArray, List.set_cons_zero, List.set_cons_succ])
  refine tkO (k := 8) (o := ⟨some 22, _, _, _, _, _⟩) (v := ?_) rfl (Or.inl ⟨by rfl, ?_⟩) (by assumption) ?_
  rotate_left
  · (intro w hSw; go_simp; (try with_reducible rfl))
  (try simp only [Act.put, List.setIfInBounds_toArray, List.set_cons_zero, List.set_cons_succ])
  refine tkO (k := 9) (o := ⟨some 23, _, _, _, _, _⟩) (v := ?_) rfl (Or.inl ⟨by rfl, ?_⟩) (by assumption) ?_
  rotate_left
  · (intro w hSw; go_simp; (try with_reducible rfl))
  (try simp only [Act.put, List.setIfInBounds_toArray, List.set_cons_zero, List.set_cons_succ])
  refine tkO (k := 10) (o := ⟨some 24, _, _, _, _, _⟩) (v := ?_) rfl (Or.inl ⟨by rfl, ?_⟩) (by assumption) ?_
  rotate_left
  · (intro w hSw; go_simp; (try with_reducible rfl))
  (try simp only [Act.put, List.setIfInBounds_toArray, List.set_cons_zero, List.set_cons_succ])
  refine wpE_one (k := 6) (o := ⟨some 20, _, _, _, _, _⟩) rfl (by kernel_rfl) (fun K hK => ?_)
  refine step_callG (P := Try.prog) w2.drew 76 [.tmp 19] _ (by rfl) (by kernel_rfl) [.slice (some ⟨g, off, none⟩) n Ac] (by rfl) (fun _ _ => rfl) (HSUM.out _ hS) ?_
  rintro e w3 ⟨rfl, rfl⟩
  refine ⟨_, rfl, ?_⟩
  refine hK.out _ _ hS (fun hS => ?_)
  clear hK K
  try simp only [Act.put, List.setIfInBounds_toArray, List.set_cons_zero, List.set_cons_succ]
  refine wpE_one (k := 7) (o := ⟨some 21, _, _, _, _, _⟩) rfl (by kernel_rfl) (fun K hK => ?_)
  refine step_callG (P := Try.prog) w2.drew 75 [.const (.slice none 0 0), .tmp 20] _ (by rfl) (by kernel_rfl) [.slice none 0 0, .int .u64 ((sumN (bs.take n) : Nat) : Int)] (by rfl) (fun _ _ => rfl) (fnumu_any w2.drew.heap.size [] (sumN (bs.take n)) (sumN_lt _) (by simp) none 0 w2.drew (Own.nil _ _ _ _) (Nat.le_refl _)) ?_
  rintro e w5 ⟨na, nc, rfl, ho5, hr5⟩
  refine ⟨_, rfl, ?_⟩
  have hb5 : Below w2.heap.size w2 w5 := undrew (hr5.to_below (Nat.le_refl _) (fun k e => by cases e))
  have HB5 := Aside.mk hb5
  have hS5 := (HRK.out.below HB2.out).below hb5
  have HEQ := Aside.mk (equal_tail_y hb hnk HN.out HK.out HNE.out hS5 ho5.rd)
  refine hK.out _ _ hS5 (fun hS => ?_)
  clear ho5 hr5 hb5
  clear hK K
  try simp only [Act.put, List.setIfInBounds_toArray, List.set_cons_zero, List.set_cons_succ]
  refine wpE_one (k := 11) (o := ⟨some 25, _, _, _, _, _⟩) rfl (by kernel_rfl) (fun K hK => ?_)
  refine step_callG (P := Try.prog) w5 79 [.tmp 21, .tmp 24] _ (by rfl) (by kernel_rfl) _ (by rfl) (fun _ _ => rfl) HEQ.out ?_
  rintro e w6 ⟨rfl, hb6⟩
  refine ⟨_, rfl, ?_⟩
  have HB6 := Aside.mk (below_chain HB5.out hb6)
  refine hK.out _ _ (hS5.below hb6) (fun hS => ?_)
  clear hb6 hS5
  clear hK K
  try simp only [Act.put, List.setIfInBounds_toArray, List.set_cons_zero, List.set_cons_succ]
  refine tkO (k := 12) (o := ⟨some 26, _, _, _, _, _⟩) (v := ?_) rfl (Or.inl ⟨by rfl, ?_⟩) (by assumption) ?_
  rotate_left
  · (intro w hSw; go_simp; (try with_reducible rfl))
  (try simp only [Act.put, List.setIfInBounds_toArray, List.set_cons_zero, List.set_cons_succ])
  refine wpE_last (k := 13) (o := ⟨some 27, _, _, _, _, _⟩) rfl (by kernel_rfl) (by kernel_rfl) rfl (fun K hK => ?_)
  go_simp
  refine hK.out _ _ ?_
  clear hK K hS
  refine ⟨rfl, ?_⟩
  have h6 := (HB6.out.block _ (lt_of_blk HX2.out)).trans HX2.out
  have HX6 := Aside.mk h6
  have hgw := World.block_lt_of_cell? _ _ hg0
  have HR6 := Aside.mk ((HRK.out.below HB2.out).below HB6.out)
  have HB26 := Aside.mk (below_chain HB2.out HB6.out)
  have hrx : Rd w6 1 (.slice (some ⟨g, off, none⟩) n Ac) n ((bs.take n).map (.int .u8)) := by
    have hr := HR6.out.mid (Nat.zero_le n) hnk
    simp only [Nat.zero_mul, List.drop_zero, Nat.sub_zero, Nat.mul_one, ← List.map_take] at hr
    have hc0 : cutA (some ⟨g, off, none⟩) Ac 0 1 = some ⟨g, off, none⟩ := by unfold cutA; split <;> simp [Addr.add]
    rwa [hc0] at hr
  clear h6 HSUM HEQ HB5 HB6 HB2 HX2 HRK
  go_upto_region 5 with fail
  generalize (if Ac = n then some (⟨g, off, none⟩ : Addr) else some ⟨g, off + n, none⟩) = qa at *
  obtain ⟨X, hX⟩ : ∃ X, X = bs.take n := ⟨_, rfl⟩
  rw [← hX] at hrx
  have hxl : X.length = n := by rw [hX, List.length_take]; have := HN.out; have := HK.out; omega
  have hxb : IsBytes X := by rw [hX]; exact fun v hv => hb v (List.mem_of_mem_take hv)
  have HXX := Aside.mk hX
  have hb7 := below_new w6 (.cells #[.slice (some ⟨g, off, none⟩) n Ac, .bool false] 145)
  have hx7 := heap_alloc_new w6 (.cells #[.slice (some ⟨g, off, none⟩) n Ac, .bool false] 145)
  have hl6 := lt_of_blk HX6.out
  have hg6 := HB26.out.size
  have HRR : Aside (RdR (w6.alloc (.cells #[.slice (some ⟨g, off, none⟩) n Ac, .bool false] 145)) w6.heap.size ⟨some ⟨g, off, none⟩, Ac⟩ ⟨X, false⟩) := by
    refine ⟨?_, ?_, hxb, ?_, ?_⟩
    · dsimp only; rw [hxl]; exact hx7
    · dsimp only; rw [hxl]; exact hrx.below hb7
    · dsimp only
      intro q e
      simp only [Value.ownBlock, Option.some.injEq] at e
      dsimp only at hgw
      omega
    · dsimp only; rw [hxl]; have := HK.out; omega
  have HW7 := Aside.mk (below_chain HB26.out hb7)
  have HX7 := Aside.mk ((hb7.block _ (lt_of_blk HX6.out)).trans HX6.out)
  have HR7 := Aside.mk (HR6.out.below hb7)
  have HLT := Aside.mk (show w.heap.size < w6.heap.size from hl6)
  clear hb7 hx7 hrx hX HR6 HX6 hg0 hgw hl6 hg6 HB26
  generalize w6.alloc (.cells #[.slice (some ⟨g, off, none⟩) n Ac, .bool false] 145) = w7 at *
  generalize w6.heap.size = b at *
  have HTK := Aside.mk (take_any ⟨X, false⟩ 4 b ⟨some ⟨g, off, none⟩, Ac⟩ w7 HRR.out)
  have hmg := magic_eq (takeL_bytes (s := ⟨X, false⟩) hxb 4)
  have HXB := Aside.mk hxb
  have HXL := Aside.mk hxl
  clear hxb hxl
  by_cases hm : takeL 4 ⟨X, false⟩ = [77, 84, 71, 49]
  rotate_left
  · rw [decide_eq_false hm] at hmg
    have HWHY : Aside (∀ t, TableP t → TbE t → encT t ≠ bs) := ⟨fun t h1 h2 e => hm (by rw [HXX.out, ← enc_split HN0.out e]; exact (parse_of h1 h2).1)⟩
    clear hm
    go_upto_region 6 with (go_at_call 80; refine HTK.out.mono ?_; rintro e w8 ⟨T, A8, rfl, ho, hr, hk⟩; have hcv := conv_any _ _ _ _ rfl w8 ho.rd; have h6 := (hk.block _ (lt_of_blk HX7.out) (by have := HLT.out; omega)).trans HX7.out; replace HW7 := Aside.mk (HW7.out.trans (hk.to_below HW7.out.size (fun k e => by have := HLT.out; omega))); clear ho hr hk)
    have hfr := fun k => frozen_blk (k := k) h6
    obtain ⟨r0, r1, r2⟩ := box3t h6
    have ha0 := heap_setCell_at (k := 0) h6 (.slice none 0 0)
    have ha1 := heap_setCell_at (k := 1) ha0 (.int .i64 0)
    have ha2 := heap_setCell_at (k := 2) ha1 (.slice none 0 0)
    simp only [Array.setIfInBounds, List.setIfInBounds_toArray, List.set_cons_zero, List.set_cons_succ] at ha0 ha1 ha2
    obtain ⟨g0, g1, g2⟩ := box3t (by simpa using ha2)
    have HG := Aside.mk (And.intro g0 (And.intro g1 g2))
    clear ha0 ha1 ha2 g0 g1 g2 h6
    go_wp2_with fail
    all_goals
      obtain ⟨g0, g1, g2⟩ := HG.out
      refine bodyPost_ret (v := .tuple #[.agg #[.slice none 0 0, .int .i64 0, .slice none 0 0], .int .i64 250]) (by simp [results, Try.results34, go_sem, g0, g1, g2]) rfl ?_
      exact ⟨((HW7.out.setCell (Nat.le_refl _) _).setCell (Nat.le_refl _) _).setCell (Nat.le_refl _) _, .inr ⟨HWHY.out, rfl⟩⟩
  · rw [decide_eq_true hm] at hmg
    have HM := Aside.mk hm
    clear hm
    go_upto_region 7 with (go_at_call 80; refine HTK.out.mono ?_; rintro e w8 ⟨T, A8, rfl, ho, hr, hk⟩; have hcv := conv_any _ _ _ _ rfl w8 ho.rd; have HRR8 := Aside.mk (show RdR w8 b A8 (p1 X) from hr); have HX8 := Aside.mk ((hk.block _ (lt_of_blk HX7.out) (by have := HLT.out; omega)).trans HX7.out); have HW8 := Aside.mk (HW7.out.trans (hk.to_below HW7.out.size (fun k e => by have := HLT.out; omega))); clear ho hr hk)
    clear hcv hmg HTK HRR HX7 HW7
    have hfit := heads_fit HXB.out (by rw [HXL.out]; have := HN0.out; omega)
    have HFIT := Aside.mk hfit
    clear hfit
    go_upto_region 8 with (go_at_call 81; refine (heads20_any _ _ _ _ HRR8.out).mono ?_; rintro e w9 ⟨H, A9, rfl, hoh, hr, hk⟩; have HH9 := Aside.mk (show Own w9 w.heap.size 137 4 (.slice H.a (pH X).1.length H.c) (pH X).1.length ((pH X).1.flatMap hdCells) from hoh.mono HW8.out.size); have HRR9 := Aside.mk (show RdR w9 b A9 (pH X).2 from hr); have HX9 := Aside.mk ((hk.block _ (lt_of_blk HX8.out) (by have := HLT.out; omega)).trans HX8.out); have HW9 := Aside.mk (HW8.out.trans (hk.to_below HW8.out.size (fun k e => by have := HLT.out; omega))); clear hoh hr hk HRR8 HX8 HW8)
    generalize hhs : headsR (numR (p1 X)).toNat (numS (p1 X)) = pp at *
    obtain rfl : pp = pH X := hhs.symm
    clear hhs
    have hb10 := below_new w9 (.cells #[.slice H.a (pH X).1.length H.c, .int .i64 0, .slice none 0 0] 73)
    have hx10 := heap_alloc_new w9 (.cells #[.slice H.a (pH X).1.length H.c, .int .i64 0, .slice none 0 0] 73)
    have HD0 : Aside (DecI w w.heap.size b w9.heap.size (pH X).1 H 0 [] ⟨none, 0⟩ [] (pH X).2 A9 (w9.alloc (.cells #[.slice H.a (pH X).1.length H.c, .int .i64 0, .slice none 0 0] 73))) := by
      have h1 := lt_of_blk HX9.out
      have h2 := lt_of_blk HRR9.out.box
      have h3 := HLT.out
      exact ⟨(hb10.block _ (lt_of_blk HX9.out)).trans HX9.out, hx10, by omega, HH9.out.below hb10, OwnDs.nil _ _, HRR9.out.below hb10, below_chain HW9.out hb10, by omega, by omega, by omega, h3, h2⟩
    clear hb10 hx10 HH9 HRR9 HX9 HW9
    generalize (w9.alloc (.cells #[.slice H.a (pH X).1.length H.c, .int .i64 0, .slice none 0 0] 73)) = w10 at *
    generalize w9.heap.size = tb at *
    go_upto_region 9 with (go_at_call 82; refine (number_any _ _ _ _ HD0.out.rd).mono ?_; rintro e w11 ⟨rfl, A11, hr, hk⟩; have HD1 := Aside.mk (show DecI w w.heap.size b tb (pH X).1 H 0 [] ⟨none, 0⟩ [] (p3 X) A11 w11 from HD0.out.call hr hk); obtain ⟨x0, x1, x2⟩ := box3t HD1.out.tab; have hfx := fun k => frozen_blk (k := k) HD1.out.tab; clear hr hk HD0)
    have HD2 := Aside.mk (show DecI w w.heap.size b tb (pH X).1 H (pRows X) [] ⟨none, 0⟩ [] (p3 X) A11 (w11.setCell ⟨tb, 1, none⟩ (.int .i64 (numR (pH X).2))) from HD1.out.setRows (pRows X))
    clear HD1 x0 x1 x2 hfx
    generalize w11.setCell ⟨tb, 1, none⟩ (.int .i64 (numR (pH X).2)) = w12 at *
    obtain ⟨t0, t1, t2⟩ := box3t HD2.out.tab
    obtain ⟨c0, c1⟩ := boxR HD2.out.rd.box
    have hfz := fun k => frozen_blk (k := k) HD2.out.rd.box
    have HPAR : Aside (∀ t, TableP t → TbE t → encT t = bs → pT X = t ∧ (p3 X).short = false ∧ SchemaP (pH X).1 ∧ (pC X).2.short = false) := ⟨fun t h1 h2 e => by
      have e2 := enc_split HN0.out e
      have hp := parse_of h1 h2
      rw [e2, ← HXX.out] at hp
      exact ⟨hp.2.2.2.1, hp.2.2.1, by rw [hp.2.1]; exact h1.1, hp.2.2.2.2⟩⟩
    cases hsh : (p3 X).short with
    | true =>
      rw [hsh] at c1
      have HWHY : Aside (∀ t, TableP t → TbE t → encT t ≠ bs) := ⟨fun t h1 h2 e => by have := (HPAR.out t h1 h2 e).2.1; rw [hsh] at this; cases this⟩
      have h6 := HD2.out.res
      have HBL := Aside.mk HD2.out.bel
      clear hsh
      go_upto_region 10 with fail
      clear c0 c1 hfz t0 t1 t2
      have hfr := fun k => frozen_blk (k := k) h6
      obtain ⟨r0, r1, r2⟩ := box3t h6
      have ha0 := heap_setCell_at (k := 0) h6 (.slice none 0 0)
      have ha1 := heap_setCell_at (k := 1) ha0 (.int .i64 0)
      have ha2 := heap_setCell_at (k := 2) ha1 (.slice none 0 0)
      simp only [Array.setIfInBounds, List.setIfInBounds_toArray, List.set_cons_zero, List.set_cons_succ] at ha0 ha1 ha2
      obtain ⟨g0, g1, g2⟩ := box3t (by simpa using ha2)
      have HG := Aside.mk (And.intro g0 (And.intro g1 g2))
      clear ha0 ha1 ha2 g0 g1 g2 h6
      go_wp2_with fail
      all_goals
        obtain ⟨g0, g1, g2⟩ := HG.out
        refine bodyPost_ret (v := .tuple #[.agg #[.slice none 0 0, .int .i64 0, .slice none 0 0], .int .i64 250]) (by simp [results, Try.results34, go_sem, g0, g1, g2]) rfl ?_
        exact ⟨((HBL.out.setCell (Nat.le_refl _) _).setCell (Nat.le_refl _) _).setCell (Nat.le_refl _) _, .inr ⟨HWHY.out, rfl⟩⟩
    | false =>
      rw [hsh] at c1
      have HSH := Aside.mk hsh
      clear hsh
      have HSC := Aside.mk (schema_any (pH X).1 HFIT.out.1 HFIT.out.2.1 H w12 HD2.out.hd.rd)
      by_cases hSP : SchemaP (pH X).1
      rotate_left
      · have HWHY : Aside (∀ t, TableP t → TbE t → encT t ≠ bs) := ⟨fun t h1 h2 e => hSP (HPAR.out t h1 h2 e).2.2.1⟩
        have HNS := Aside.mk hSP
        clear hSP
        go_upto_region 10 with (go_at_call 83; refine HSC.out.mono ?_; rintro e w13 ⟨r, rfl, hr, hb13⟩; have hr0 : (r == 0) = false := beq_eq_false_iff_ne.2 (fun e => HNS.out (hr.1 e)); have HD3 := Aside.mk (HD2.out.below hb13); clear hr hb13 HSC)
        have h6 := HD3.out.res
        have HBL := Aside.mk HD3.out.bel
        clear c0 c1 hfz t0 t1 t2 hr0
        have hfr := fun k => frozen_blk (k := k) h6
        obtain ⟨r0, r1, r2⟩ := box3t h6
        have ha0 := heap_setCell_at (k := 0) h6 (.slice none 0 0)
        have ha1 := heap_setCell_at (k := 1) ha0 (.int .i64 0)
        have ha2 := heap_setCell_at (k := 2) ha1 (.slice none 0 0)
        simp only [Array.setIfInBounds, List.setIfInBounds_toArray, List.set_cons_zero, List.set_cons_succ] at ha0 ha1 ha2
        obtain ⟨g0, g1, g2⟩ := box3t (by simpa using ha2)
        have HG := Aside.mk (And.intro g0 (And.intro g1 g2))
        clear ha0 ha1 ha2 g0 g1 g2 h6
        go_wp2_with fail
        all_goals
          obtain ⟨g0, g1, g2⟩ := HG.out
          refine bodyPost_ret (v := .tuple #[.agg #[.slice none 0 0, .int .i64 0, .slice none 0 0], .int .i64 250]) (by simp [results, Try.results34, go_sem, g0, g1, g2]) rfl ?_
          exact ⟨((HBL.out.setCell (Nat.le_refl _) _).setCell (Nat.le_refl _) _).setCell (Nat.le_refl _) _, .inr ⟨HWHY.out, rfl⟩⟩
      · have HSP := Aside.mk hSP
        clear hSP
        go_upto_region 11 with (go_at_call 83; refine HSC.out.mono ?_; rintro e w13 ⟨r, rfl, hr, hb13⟩; obtain rfl : r = 0 := hr.2 HSP.out; have HD3 := Aside.mk (HD2.out.below hb13); clear hr hb13 HSC)
        clear HD2 c0 c1 hfz t0 t1 t2
        obtain ⟨t0, t1, t2⟩ := box3t HD3.out.tab
        have hl64 : (pH X).1.length ≤ 64 := HSP.out.2.1
        have hrb := numR_bd (pH X).2
        have HRB := Aside.mk (show 0 ≤ pRows X ∧ pRows X ≤ 4611686018427387904 from hrb)
        clear hrb
        have HL := Aside.mk (show LopI w w.heap.size b tb (pH X).1 H (pRows X) (pC X) 0 [] ⟨none, 0⟩ [] (p3 X) A11 w13 from ⟨HD3.out, rfl, rfl, rfl⟩)
        have HFT := Aside.mk (table_fit HXB.out (by rw [HXL.out]; have := HN0.out; omega) HSP.out)
        have HPT := Aside.mk (show pT X = ⟨(pH X).1, pRows X, (pC X).1⟩ from rfl)
        clear HD3
        have HFK := Aside.mk HFIT.out.2.2.1
        generalize (pH X).1 = hs at *
        generalize pRows X = rows at *
        generalize pC X = fin at *
        generalize p3 X = s3 at *
        go_wp2_with fail
        clear t0 t1 t2
        go_loopw [8, 59] (fun _ iv wr => ∃ (i : Nat) (cs : List Col) (C : SL) (ys : List Value) (s : RS) (A : SL), i ≤ hs.length ∧ iv = .int .i64 (i : Int) ∧ Aside (LopI w w.heap.size b tb hs H rows fin i cs C ys s A wr)) (fun _ iv _ => hs.length - (intOf iv).toNat)
        case atStart => exact ⟨0, [], ⟨none, 0⟩, [], s3, A11, Nat.zero_le _, rfl, HL⟩
        case round =>
          clear HL
          obtain ⟨i, cs, C, ys, s, A2, hi, rfl, HL⟩ := hrel
          by_cases hlt : i < hs.length
          · have hd : decide ((i : Int) < (hs.length : Int)) = true := decide_eq_true (by omega)
            obtain ⟨gh, oh, eh, qh1, qh2, y0, y1, y2, y3⟩ := RdH.at (A := H) HL.out.d.hd.rd hlt
            obtain ⟨Ha, Hc⟩ := H
            dsimp only at eh qh1 qh2
            subst eh
            have hi1 : (i : Int) < (hs.length : Int) := by omega
            generalize hh : hs[i] = hx at *
            have HH := Aside.mk hh
            clear hh
            go_upto_region 14 with fail
            have hb14 := below_new wr (.cells #[.string hx.name, .int .i64 hx.k, .int .i64 hx.s, .bool hx.null] 137)
            have hx14 := heap_alloc_new wr (.cells #[.string hx.name, .int .i64 hx.k, .int .i64 hx.s, .bool hx.null] 137)
            have HD := Aside.mk (HL.out.d.below hb14)
            have HHX := Aside.mk hx14
            have hhb : tb < wr.heap.size := lt_of_blk HL.out.d.tab
            have hhk := HFK.out hx (HH.out ▸ List.getElem_mem hlt)
            clear hb14 hx14 y0 y1 y2 y3
            generalize wr.alloc (.cells #[.string hx.name, .int .i64 hx.k, .int .i64 hx.s, .bool hx.null] 137) = w14 at *
            obtain ⟨hb, hhb0⟩ : ∃ q, q = wr.heap.size := ⟨_, rfl⟩
            rw [← hhb0] at HHX ⊢
            have hcl : cs.length ≤ 64 := by have := HL.out.len; omega
            have HNB := Aside.mk (show b ≠ hb by have := HL.out.d.lo; omega)
            have HNT := Aside.mk (show tb ≠ hb by omega)
            clear hhb hhb0
            obtain ⟨t0, t1, t2⟩ := box3t HD.out.tab
            obtain ⟨z0, z1, z2, z3⟩ := boxH4 HHX.out
            have hw1 : IntKind.i64.wrap ((i : Int) + 1) = (i : Int) + 1 := IntWalk.i64_in _ (by omega)
            refine wp_regionO (fun U : World => (U.cell? ⟨tb, 1, none⟩ = some (.int .i64 rows) ∧ U.cell? ⟨tb, 2, none⟩ = some (.slice C.a cs.length C.c)) ∧ U.cell? ⟨hb, 1, none⟩ = some (.int .i64 hx.k) ∧ U.cell? ⟨hb, 2, none⟩ = some (.int .i64 hx.s)) 11 12 (by kernel_rfl) rfl ?_
            have hS : (fun U : World => (U.cell? ⟨tb, 1, none⟩ = some (.int .i64 rows) ∧ U.cell? ⟨tb, 2, none⟩ = some (.slice C.a cs.length C.c)) ∧ U.cell? ⟨hb, 1, none⟩ = some (.int .i64 hx.k) ∧ U.cell? ⟨hb, 2, none⟩ = some (.int .i64 hx.s)) w14.drew := ⟨⟨t1, t2⟩, z1, z2⟩
            clear t0 t1 t2 z0 z1 z2 z3
            refine tkO (k := 0) (o := ⟨some 63, _, _, _, _, _⟩) (v := ?_) rfl (Or.inl ⟨by rfl, ?_⟩) (by assumption) ?_
            rotate_left
            · (intro w hSw; obtain ⟨⟨t1, t2⟩, z1, z2⟩ := hSw; go_simp; (try with_reducible rfl))
            (try simp only [Act.put, List.setIfInBounds_toArray, List.set_cons_zero, List.set_cons_succ])
            refine tkO (k := 1) (o := ⟨some 64, _, _, _, _, _⟩) (v := ?_) rfl (Or.inl ⟨by rfl, ?_⟩) (by assumption) ?_
            rotate_left
            · (intro w hSw; obtain ⟨⟨t1, t2⟩, z1, z2⟩ := hSw; go_simp; (try with_reducible rfl))
            (try simp only [Act.put, List.setIfInBounds_toArray, List.set_cons_zero, List.set_cons_succ])
            refine tkO (k := 2) (o := ⟨some 65, _, _, _, _, _⟩) (v := ?_) rfl (Or.inl ⟨by rfl, ?_⟩) (by assumption) ?_
            rotate_left
            · (intro w hSw; obtain ⟨⟨t1, t2⟩, z1, z2⟩ := hSw; go_simp; (try with_reducible rfl))
            (try simp only [Act.put, List.setIfInBounds_toArray, List.set_cons_zero, List.set_cons_succ])
            refine tkO (k := 3) (o := ⟨some 66, _, _, _, _, _⟩) (v := ?_) rfl (Or.inl ⟨by rfl, ?_⟩) (by assumption) ?_
            rotate_left
            · (intro w hSw; obtain ⟨⟨t1, t2⟩, z1, z2⟩ := hSw; go_simp; (try with_reducible rfl))
            (try simp only [Act.put, List.setIfInBounds_toArray, List.set_cons_zero, List.set_cons_succ])
            refine tkO (k := 4) (o := ⟨some 67, _, _, _, _, _⟩) (v := ?_) rfl (Or.inl ⟨by rfl, ?_⟩) (by assumption) ?_
            rotate_left
            · (intro w hSw; obtain ⟨⟨t1, t2⟩, z1, z2⟩ := hSw; go_simp; (try with_reducible rfl))
            (try simp only [Act.put, List.setIfInBounds_toArray, List.set_cons_zero, List.set_cons_succ])
            refine tkO (k := 5) (o := ⟨some 68, _, _, _, _, _⟩) (v := ?_) rfl (Or.inl ⟨by rfl, ?_⟩) (by assumption) ?_
            rotate_left
            · (intro w hSw; obtain ⟨⟨t1, t2⟩, z1, z2⟩ := hSw; go_simp; (try with_reducible rfl))
            (try simp only [Act.put, List.setIfInBounds_toArray, List.set_cons_zero, List.set_cons_succ])
            refine tkO (k := 6) (o := ⟨some 69, _, _, _, _, _⟩) (v := ?_) rfl (Or.inl ⟨by rfl, ?_⟩) (by assumption) ?_
            rotate_left
            · (intro w hSw; obtain ⟨⟨t1, t2⟩, z1, z2⟩ := hSw; go_simp; (try with_reducible rfl))
            (try simp only [Act.put, List.setIfInBounds_toArray, List.set_cons_zero, List.set_cons_succ])
            refine wpE_one (k := 7) (o := ⟨some 70, _, _, _, _, _⟩) rfl (by kernel_rfl) (fun K hK => ?_)
            refine step_callG (P := Try.prog) w14.drew 84 [.tmp 65, .tmp 67, .tmp 69] _ (by rfl) (by kernel_rfl) _ (by rfl) (fun _ _ => rfl) (column20_any s hx.k hx.s rows HRB.out.1 HRB.out.2 b A2 w14.drew (HD.out.below (below_drewN w14 _ 1)).rd) ?_
            rintro e w15 ⟨B, D, E, Y, va, A3, rfl, hoc, hr, hk⟩
            refine ⟨_, rfl, ?_⟩
            have hHX := (hk.block _ (lt_of_blk HHX.out) (Ne.symm HNB.out)).trans HHX.out
            have HOC := Aside.mk (hoc.mono (show tb ≤ w14.drew.heap.size from Nat.le_of_lt (lt_of_blk HD.out.tab)))
            replace HD := Aside.mk ((HD.out.below (below_drewN w14 _ 1)).call hr hk)
            replace HHX := Aside.mk hHX
            clear hoc hr hk hHX
            obtain ⟨t0, t1, t2⟩ := box3t HD.out.tab
            obtain ⟨z0, z1, z2, z3⟩ := boxH4 HHX.out
            refine hK.out _ _ ⟨⟨t1, t2⟩, z1, z2⟩ (fun hS => ?_)
            clear hK K t0 t1 t2 z0 z1 z2 z3
            try simp only [Act.put, List.setIfInBounds_toArray, List.set_cons_zero, List.set_cons_succ]
            generalize hcr : (colR hx.k hx.s rows s).1 = cr at *
            have HCR := Aside.mk hcr
            clear hcr
            dsimp only [colV]
            refine wpE_one (k := 8) (o := ⟨some 71, _, _, _, _, _⟩) rfl (by kernel_rfl) (fun K hK => ?_)
            go_simp
            have hb16 := below_new w15 (.cells #[.int .i64 cr.k, .int .i64 cr.s, .int .i64 cr.n, .int .i64 cr.m, .slice B.a cr.bits.length B.c, .slice D.a cr.data.length D.c, .slice E.a cr.ends.length E.c, .slice Y.a cr.words.length Y.c] 43)
            have h16 := HD.out.below hb16
            obtain ⟨t0, t1, t2⟩ := box3t h16.tab
            obtain ⟨z0, z1, z2, z3⟩ := boxH4 ((hb16.block _ (lt_of_blk HHX.out)).trans HHX.out)
            refine hK.out _ _ ⟨⟨t1, t2⟩, z1, z2⟩ (fun hS => ?_)
            clear hK K t0 t1 t2 z0 z1 z2 z3 hb16 h16
            try simp only [Act.put, List.setIfInBounds_toArray, List.set_cons_zero, List.set_cons_succ]
            refine wpE_one (k := 9) (o := ⟨some 72, _, _, _, _, _⟩) rfl (by kernel_rfl) (fun K hK => ?_)
            (refine step_app2 (P := Try.prog) (w15.alloc (.cells #[.int .i64 cr.k, .int .i64 cr.s, .int .i64 cr.n, .int .i64 cr.m, .slice B.a cr.bits.length B.c, .slice D.a cr.data.length D.c, .slice E.a cr.ends.length E.c, .slice Y.a cr.words.length Y.c] 43)) (.tmp 64) (.tmp 71) 71 71 (by rfl) (by rfl) tb 43 (.agg #[.int .i64 0, .int .i64 0, .int .i64 0, .int .i64 0, .slice none 0 0, .slice none 0 0, .slice none 0 0, .slice none 0 0]) 8 128 Try.underlying71 colinfo (by rfl) (.slice C.a cs.length C.c) cs.length ys (by rfl) (HD.out.own.row.alloc _) (.slice (some ⟨w15.heap.size, 0, none⟩) 1 1) 1 (colL cr B D E Y) (by rfl) (src_col w15 cr B D E Y) (by unfold maxLen; omega) (by omega) (by have := lt_of_blk HD.out.tab; simp; omega) ?_; intro v' w17 hA)
            obtain ⟨a8, c8, rfl⟩ := hA.own.form
            have HA := Aside.mk hA
            have K17 : Kept (fun k => (Value.slice C.a cs.length C.c).ownBlock = some k) w15 w17 := (Kept.of_below (S := fun k => (Value.slice C.a cs.length C.c).ownBlock = some k) (below_new w15 _)).trans (Kept.of_grown hA.grown) (fun k e _ => e.symm)
            have htab := (K17.block _ (lt_of_blk HD.out.tab) (fun e => HD.out.own.row.blk_ne HD.out.tab (by decide) e)).trans HD.out.tab
            obtain ⟨t0, t1, t2⟩ := box3t htab
            have hft := fun k => frozen_blk (k := k) htab
            have hz17 : w17.cell? ⟨hb, 1, none⟩ = some (.int .i64 hx.k) ∧ w17.cell? ⟨hb, 2, none⟩ = some (.int .i64 hx.s) := by
              have := (K17.block _ (lt_of_blk HHX.out) (fun e => HD.out.own.row.blk_ne HHX.out (by decide) e)).trans HHX.out
              exact ⟨(boxH4 this).2.1, (boxH4 this).2.2.1⟩
            refine hK.out _ _ ⟨⟨t1, t2⟩, hz17⟩ (fun hS => ?_)
            clear hK K hA K17 htab hz17
            try simp only [Act.put, List.setIfInBounds_toArray, List.set_cons_zero, List.set_cons_succ]
            refine tkO (k := 10) (o := ⟨some 73, _, _, _, _, _⟩) (v := ?_) rfl (Or.inl ⟨by rfl, ?_⟩) (by assumption) ?_
            rotate_left
            · (intro w hSw; obtain ⟨⟨t1, t2⟩, z1, z2⟩ := hSw; go_simp; (try with_reducible rfl))
            (try simp only [Act.put, List.setIfInBounds_toArray, List.set_cons_zero, List.set_cons_succ])
            refine wpE_last (k := 11) (o := ⟨none, _, _, _, _, _⟩) rfl (by kernel_rfl) (by kernel_rfl) rfl (fun K hK => ?_)
            go_simp
            refine hK.out _ _ ?_
            clear hK K hS
            refine ⟨rfl, ?_⟩
            have hdn := HD.out.next HOC.out HA.out
            rw [← HCR.out] at hdn
            have HN := Aside.mk (HL.out.next hlt (by rw [HH.out]; exact hdn))
            clear HA HD HOC HHX t0 t1 t2 hft hdn
            go_wp2_with fail
            go_roundw
            case rel => exact ⟨i + 1, _, ⟨a8, c8⟩, _, _, A3, by omega, by go_num, HN⟩
            case measure => simp [intOf]; omega
          · obtain rfl : i = hs.length := by omega
            have hd : decide ((hs.length : Int) < (hs.length : Int)) = false := decide_eq_false (by omega)
            go_upto_region 16 with fail
            obtain ⟨hcs, hsf⟩ := HL.out.done
            obtain rfl := hcs
            obtain rfl := hsf
            have HD := Aside.mk HL.out.d
            clear HL
            obtain ⟨t0, t1, t2⟩ := box3t HD.out.tab
            rw [HPT.out] at HFT
            have HENC := Aside.mk (encode_any ⟨hs, rows, fin.1⟩ HFT.out H C wr ⟨HD.out.hd.rd, HD.out.own.rd⟩)
            have HPAR2 : Aside (∀ t, TableP t → TbE t → encT t = bs → (⟨hs, rows, fin.1⟩ : Tb) = t ∧ fin.2.short = false) := ⟨fun t h1 h2 e => by
              have := HPAR.out t h1 h2 e
              rw [HPT.out] at this
              exact ⟨this.1, this.2.2.2⟩⟩
            have HBS := Aside.mk (fun (W : World) (hb' : Below w.heap.size w W) => (show Rd W 1 (.slice (some ⟨g, off, none⟩) k Ac) k (bs.map (.int .u8)) from by rw [HK.out]; exact HR.out.below hb'))
            clear HPAR
            dsimp only [tbV] at HENC
            cases hsh : fin.2.short with
            | true =>
              have HWHY : Aside (∀ t, TableP t → TbE t → encT t ≠ bs) := ⟨fun t h1 h2 e => by have := (HPAR2.out t h1 h2 e).2; rw [hsh] at this; cases this⟩
              have HSH2 := Aside.mk hsh
              clear hsh
              have HENX := Aside.mk (HENC.out.mono (fun e w' => enc_some))
              go_upto_region 17 with (go_at_call 31; refine HENX.out.mono ?_; rintro e w20 ⟨a', n', c', er, rfl, hb20⟩; replace HD := Aside.mk (HD.out.below hb20); clear hb20 HENC HENX t0 t1 t2)
              obtain ⟨c0, c1⟩ := boxR HD.out.rd.box
              rw [HSH2.out] at c1
              have h6 := HD.out.res
              have HBL := Aside.mk HD.out.bel
              go_upto_region 18 with fail
              clear c0 c1
              have hfr := fun k => frozen_blk (k := k) h6
              obtain ⟨r0, r1, r2⟩ := box3t h6
              have ha0 := heap_setCell_at (k := 0) h6 (.slice none 0 0)
              have ha1 := heap_setCell_at (k := 1) ha0 (.int .i64 0)
              have ha2 := heap_setCell_at (k := 2) ha1 (.slice none 0 0)
              simp only [Array.setIfInBounds, List.setIfInBounds_toArray, List.set_cons_zero, List.set_cons_succ] at ha0 ha1 ha2
              obtain ⟨g0, g1, g2⟩ := box3t (by simpa using ha2)
              have HG := Aside.mk (And.intro g0 (And.intro g1 g2))
              clear ha0 ha1 ha2 g0 g1 g2 h6
              go_wp2_with fail
              all_goals
                obtain ⟨g0, g1, g2⟩ := HG.out
                refine bodyPost_ret (v := .tuple #[.agg #[.slice none 0 0, .int .i64 0, .slice none 0 0], .int .i64 250]) (by simp [results, Try.results34, go_sem, g0, g1, g2]) rfl ?_
                exact ⟨((HBL.out.setCell (Nat.le_refl _) _).setCell (Nat.le_refl _) _).setCell (Nat.le_refl _) _, .inr ⟨HWHY.out, rfl⟩⟩
            | false =>
              have HSH2 := Aside.mk hsh
              clear hsh
              by_cases hTP : TableP ⟨hs, rows, fin.1⟩
              rotate_left
              · have HWHY : Aside (∀ t, TableP t → TbE t → encT t ≠ bs) := ⟨fun t h1 h2 e => hTP (by rw [(HPAR2.out t h1 h2 e).1]; exact h1)⟩
                have HNT := Aside.mk hTP
                clear hTP
                have HENX := Aside.mk (HENC.out.mono (fun e w' => enc_no HNT.out))
                go_upto_region 17 with (go_at_call 31; refine HENX.out.mono ?_; rintro e w20 ⟨rfl, hb20⟩; replace HD := Aside.mk (HD.out.below hb20); clear hb20 HENC HENX t0 t1 t2)
                obtain ⟨c0, c1⟩ := boxR HD.out.rd.box
                rw [HSH2.out] at c1
                have h6 := HD.out.res
                have HBL := Aside.mk HD.out.bel
                go_upto_region 18 with fail
                clear c0 c1
                have hfr := fun k => frozen_blk (k := k) h6
                obtain ⟨r0, r1, r2⟩ := box3t h6
                have ha0 := heap_setCell_at (k := 0) h6 (.slice none 0 0)
                have ha1 := heap_setCell_at (k := 1) ha0 (.int .i64 0)
                have ha2 := heap_setCell_at (k := 2) ha1 (.slice none 0 0)
                simp only [Array.setIfInBounds, List.setIfInBounds_toArray, List.set_cons_zero, List.set_cons_succ] at ha0 ha1 ha2
                obtain ⟨g0, g1, g2⟩ := box3t (by simpa using ha2)
                have HG := Aside.mk (And.intro g0 (And.intro g1 g2))
                clear ha0 ha1 ha2 g0 g1 g2 h6
                go_wp2_with fail
                all_goals
                  obtain ⟨g0, g1, g2⟩ := HG.out
                  refine bodyPost_ret (v := .tuple #[.agg #[.slice none 0 0, .int .i64 0, .slice none 0 0], .int .i64 250]) (by simp [results, Try.results34, go_sem, g0, g1, g2]) rfl ?_
                  exact ⟨((HBL.out.setCell (Nat.le_refl _) _).setCell (Nat.le_refl _) _).setCell (Nat.le_refl _) _, .inr ⟨HWHY.out, rfl⟩⟩
              · have HTP := Aside.mk hTP
                clear hTP
                have HENX := Aside.mk (HENC.out.mono (fun e w' => enc_yes HTP.out))
                have HEB := Aside.mk (encT_bytes (t := ⟨hs, rows, fin.1⟩) HFT.out.ok.cok)
                by_cases hEQ : encT ⟨hs, rows, fin.1⟩ = bs
                rotate_left
                · have HWHY : Aside (∀ t, TableP t → TbE t → encT t ≠ bs) := ⟨fun t h1 h2 e => hEQ (by rw [(HPAR2.out t h1 h2 e).1]; exact e)⟩
                  have hdq := decide_eq_false hEQ
                  have HDQ := Aside.mk hdq
                  clear hEQ hdq
                  unfold EncY at HENX
                  generalize hag : encT ⟨hs, rows, fin.1⟩ = again at *
                  have HENQ := Aside.mk hag
                  clear hag
                  go_upto_region 17 with (go_at_call 31; refine HENX.out.mono ?_; rintro e w20 ⟨a2, c2, rfl, ho, hb20⟩; replace HD := Aside.mk (HD.out.below hb20); have HAG := Aside.mk ho.rd; obtain ⟨c0, c1⟩ := boxR HD.out.rd.box; rw [HSH2.out] at c1; clear hb20 HENC HENX t0 t1 t2 ho)
                  have hbe := bequal_any again bs ⟨a2, c2⟩ ⟨some ⟨g, off, none⟩, Ac⟩ HEB.out hb w20 HAG.out (by have := HBS.out w20 HD.out.bel; rw [HK.out] at this; exact this)
                  rw [← HK.out, HDQ.out] at hbe
                  have HBE := Aside.mk hbe
                  clear hbe
                  go_upto_region 18 with (go_at_call 79; refine HBE.out.mono ?_; rintro e w21 ⟨rfl, hb21⟩; replace HD := Aside.mk (HD.out.below hb21); clear hb21 HBE c0 c1)
                  have h6 := HD.out.res
                  have HBL := Aside.mk HD.out.bel
                  have hfr := fun k => frozen_blk (k := k) h6
                  obtain ⟨r0, r1, r2⟩ := box3t h6
                  have ha0 := heap_setCell_at (k := 0) h6 (.slice none 0 0)
                  have ha1 := heap_setCell_at (k := 1) ha0 (.int .i64 0)
                  have ha2 := heap_setCell_at (k := 2) ha1 (.slice none 0 0)
                  simp only [Array.setIfInBounds, List.setIfInBounds_toArray, List.set_cons_zero, List.set_cons_succ] at ha0 ha1 ha2
                  obtain ⟨g0, g1, g2⟩ := box3t (by simpa using ha2)
                  have HG := Aside.mk (And.intro g0 (And.intro g1 g2))
                  clear ha0 ha1 ha2 g0 g1 g2 h6
                  go_wp2_with fail
                  all_goals
                    obtain ⟨g0, g1, g2⟩ := HG.out
                    refine bodyPost_ret (v := .tuple #[.agg #[.slice none 0 0, .int .i64 0, .slice none 0 0], .int .i64 250]) (by simp [results, Try.results34, go_sem, g0, g1, g2]) rfl ?_
                    exact ⟨((HBL.out.setCell (Nat.le_refl _) _).setCell (Nat.le_refl _) _).setCell (Nat.le_refl _) _, .inr ⟨HWHY.out, rfl⟩⟩
                · have HEQ := Aside.mk hEQ
                  have hdq := decide_eq_true hEQ
                  have HDQ := Aside.mk hdq
                  clear hEQ hdq
                  unfold EncY at HENX
                  generalize hag : encT ⟨hs, rows, fin.1⟩ = again at *
                  have HENQ := Aside.mk hag
                  clear hag
                  go_upto_region 17 with (go_at_call 31; refine HENX.out.mono ?_; rintro e w20 ⟨a2, c2, rfl, ho, hb20⟩; replace HD := Aside.mk (HD.out.below hb20); have HAG := Aside.mk ho.rd; obtain ⟨c0, c1⟩ := boxR HD.out.rd.box; rw [HSH2.out] at c1; clear hb20 HENC HENX t0 t1 t2 ho)
                  have hbe := bequal_any again bs ⟨a2, c2⟩ ⟨some ⟨g, off, none⟩, Ac⟩ HEB.out hb w20 HAG.out (by have := HBS.out w20 HD.out.bel; rw [HK.out] at this; exact this)
                  rw [← HK.out, HDQ.out] at hbe
                  have HBE := Aside.mk hbe
                  clear hbe
                  go_upto_region 19 with (go_at_call 79; refine HBE.out.mono ?_; rintro e w21 ⟨rfl, hb21⟩; replace HD := Aside.mk (HD.out.below hb21); clear hb21 HBE c0 c1)
                  obtain ⟨t0, t1, t2⟩ := box3t HD.out.tab
                  have h6 := HD.out.res
                  have hfr := fun k => frozen_blk (k := k) h6
                  obtain ⟨r0, r1, r2⟩ := box3t h6
                  have hn1 : w.heap.size ≠ tb := HD.out.ne
                  have hn2 : tb ≠ w.heap.size := Ne.symm hn1
                  have ha0 := heap_setCell_at (k := 0) h6 (.slice H.a hs.length H.c)
                  have ha1 := heap_setCell_at (k := 1) ha0 (.int .i64 rows)
                  have ha2 := heap_setCell_at (k := 2) ha1 (.slice C.a fin.1.length C.c)
                  simp only [Array.setIfInBounds, List.setIfInBounds_toArray, List.set_cons_zero, List.set_cons_succ] at ha0 ha1 ha2
                  obtain ⟨g0, g1, g2⟩ := box3t (by simpa using ha2)
                  have HG := Aside.mk (And.intro g0 (And.intro g1 g2))
                  clear ha0 ha1 ha2 g0 g1 g2 h6
                  have K : Kept (fun k => k = w.heap.size) w21 (((w21.setCell ⟨w.heap.size, 0, none⟩ (.slice H.a hs.length H.c)).setCell ⟨w.heap.size, 1, none⟩ (.int .i64 rows)).setCell ⟨w.heap.size, 2, none⟩ (.slice C.a fin.1.length C.c)) := ((Kept.setCell _ ⟨w.heap.size, 0, none⟩ _).trans (Kept.setCell _ ⟨w.heap.size, 1, none⟩ _) (fun _ e _ => e)).trans (Kept.setCell _ ⟨w.heap.size, 2, none⟩ _) (fun _ e _ => e)
                  have HKK := Aside.mk K
                  clear K
                  go_wp2_with fail
                  all_goals
                    obtain ⟨g0, g1, g2⟩ := HG.out
                    refine bodyPost_ret (v := .tuple #[.agg #[.slice H.a hs.length H.c, .int .i64 rows, .slice C.a fin.1.length C.c], .int .i64 0]) (by simp [results, Try.results34, go_sem, g0, g1, g2]) rfl ?_
                    have ne : ∀ {T' : TypeId}, T' ≠ 73 → ∀ b' cs f, w21.heap[b']? = some (.cells cs T' f) → ¬ b' = w.heap.size := fun ht b' cs f hb => blk_ne hb HD.out.res ht
                    exact ⟨HD.out.bel.trans (HKK.out.to_below HD.out.bel.size (fun k e => Nat.le_of_eq e.symm)), .inl ⟨⟨hs, rows, fin.1⟩, H, C, ys, HTP.out, HFT.out, HENQ.out.trans HEQ.out, rfl, own_turn HD.out.hd HKK.out (ne (by decide)), (HD.out.own.turn HKK.out (ne (by decide)) (ne (by decide)) (ne (by decide)) (ne (by decide))).mono HD.out.lo.2.2.1⟩⟩
end Go.Proofs.Ytmhjjhaipcgbiaa


namespace Go.Proofs.Ytmhjjhaipcgbiaa
open Go.RowKit
set_option linter.unusedVariables false
set_option linter.unusedSimpArgs false
set_option maxRecDepth 100000
set_option maxHeartbeats 1000000
def ChkB (p : Prop) (w : World) (e : Ending) (w' : World) : Prop := ∃ r : Bool, e = .returned (.bool r) ∧ (r = true ↔ p) ∧ Below w.heap.size w w'
theorem head_neq0 (x0 y0 : ByteArray) (x1 x2 y1 y2 : Int) (x3 y3 : Bool) (W : World) : (binOp .neq 137 (.agg #[.string x0, .int .i64 x1, .int .i64 x2, .bool x3]) (.agg #[.string y0, .int .i64 y1, .int .i64 y2, .bool y3])).run Try.prog W = .ok (.bool (!(x0.toList == y0.toList && (x1 == y1 && x2 == y2 && x3 == y3)))) W := by
  have g1 : (Try.prog).stoodInHeld 137 = false := by kernel_rfl
  have g2 : (Try.prog).stoodInHeld 23 = false := by kernel_rfl
  rw [run_neq_struct, run_equalIn_agg W 9999 137 _ _ (by kernel_rfl) g1]
  simp [go_sem, Try.underlying137, Try.underlying23, Try.underlying9, Try.underlying3, Try.underlying4, g2]
  by_cases h0 : x0.toList = y0.toList <;> by_cases h1 : x1 = y1 <;> by_cases h2 : x2 = y2 <;> by_cases h3 : x3 = y3 <;> simp [h0, h1, h2, h3]
theorem head_neq (x y : Hd) (W : World) : (x = y → (binOp .neq 137 (.agg #[.string x.name, .int .i64 x.k, .int .i64 x.s, .bool x.null]) (.agg #[.string y.name, .int .i64 y.k, .int .i64 y.s, .bool y.null])).run Try.prog W = .ok (.bool false) W) ∧ (x ≠ y → (binOp .neq 137 (.agg #[.string x.name, .int .i64 x.k, .int .i64 x.s, .bool x.null]) (.agg #[.string y.name, .int .i64 y.k, .int .i64 y.s, .bool y.null])).run Try.prog W = .ok (.bool true) W) := by
  constructor
  · rintro rfl
    rw [head_neq0]; simp
  · intro h
    rw [head_neq0]
    congr 2
    rw [Bool.not_eq_true', Bool.eq_false_iff]
    intro e
    simp only [Bool.and_eq_true, beq_iff_eq] at e
    apply h
    obtain ⟨xn, xk, xs, xl⟩ := x
    obtain ⟨yn, yk, ys, yl⟩ := y
    dsimp only at e
    obtain ⟨e0, ⟨e1, e2⟩, e3⟩ := e
    rw [ByteArray.toList_eq, ByteArray.toList_eq] at e0
    have : xn = yn := by obtain ⟨⟨p⟩⟩ := xn; obtain ⟨⟨q⟩⟩ := yn; simp at e0; rw [e0]
    subst this; subst e1; subst e2; subst e3; rfl
theorem take_more {α : Type} {xs ys : List α} {i : Nat} (h1 : i < xs.length) (h2 : i < ys.length) (h : xs.take i = ys.take i) (e : xs[i] = ys[i]) : xs.take (i + 1) = ys.take (i + 1) := by
  rw [List.take_succ_eq_append_getElem h1, List.take_succ_eq_append_getElem h2, h, e]
theorem ssame_any (a b : List Hd) (hl : a.length ≤ 10000000) (A B : SL) (w : World) (h : RdH w A a) (h2 : RdH w B b) : Calls Try.prog 85 #[.slice A.a a.length A.c, .slice B.a b.length B.c] w (ChkB (a = b) w) := by
  have HA := Aside.mk h
  have HB := Aside.mk h2
  clear h h2
  by_cases he : a.length = b.length
  rotate_left
  · have hd : ((a.length : Int) == (b.length : Int)) = false := beq_eq_false_iff_ne.2 (by omega)
    have HN := Aside.mk (show ¬ a = b from fun e => he (by rw [e]))
    generalize a.length = n1 at *
    generalize b.length = n2 at *
    clear he
    go_enter Try.func85, Try.ntmps85
    go_wp2_with fail
    go_ret
    exact ⟨false, rfl, ⟨(fun e => by cases e), fun e => absurd e HN.out⟩, Below.refl _ _⟩
  · have HE := Aside.mk he
    rw [← he]
    clear he
    obtain ⟨n, hn⟩ : ∃ n, n = a.length := ⟨_, rfl⟩
    have HN := Aside.mk hn
    rw [← hn] at hl ⊢
    clear hn
    go_enter Try.func85, Try.ntmps85
    go_wp2_with fail
    go_loopw [5, 13] (fun _ iv wr => ∃ i : Nat, i ≤ n ∧ iv = .int .i64 (i : Int) ∧ Aside (Below w.heap.size w wr ∧ a.take i = b.take i)) (fun _ iv _ => n - (intOf iv).toNat)
    case atStart => exact ⟨0, Nat.zero_le _, rfl, ⟨Below.refl _ _, rfl⟩⟩
    case round =>
      obtain ⟨i, hi, rfl, HI⟩ := hrel
      by_cases hlt : i < n
      · have hd : decide ((i : Int) < (n : Int)) = true := decide_eq_true (by omega)
        have hia : i < a.length := by rw [← HN.out]; exact hlt
        have hib : i < b.length := by rw [← HE.out]; exact hia
        obtain ⟨g, off, ea, q1, q2, x0, x1, x2, x3⟩ := RdH.at (HA.out.below HI.out.1) hia
        obtain ⟨g', off', eb, q1', q2', y0, y1, y2, y3⟩ := RdH.at (HB.out.below HI.out.1) hib
        have hi0 : (0 : Int) ≤ (i : Int) := by omega
        have hi1 : (i : Int) < (n : Int) := by omega
        have hw1 : IntKind.i64.wrap ((i : Int) + 1) = (i : Int) + 1 := IntWalk.i64_in _ (by omega)
        obtain ⟨Aa, Ac⟩ := A
        obtain ⟨Ba, Bc⟩ := B
        dsimp only at ea eb q1 q1' q2 q2'
        subst ea
        subst eb
        have HTK := Aside.mk (take_more hia hib HI.out.2)
        have HNE := Aside.mk (show ¬ a[i] = b[i] → ¬ a = b from fun h e => h (by subst e; rfl))
        have HNQ := Aside.mk (head_neq a[i] b[i])
        generalize a[i] = x at *
        generalize b[i] = y at *
        by_cases hxy : x = y
        · have hq := fun W => (HNQ.out W).1 hxy
          have HXY := Aside.mk hxy
          clear hxy
          go_upto_region 6 with fail
          go_quiet (fail)
          go_wp2_with fail
          go_roundw
          case rel => exact ⟨i + 1, by omega, by go_num, ⟨HI.out.1.trans (below_drewN _ _ _), HTK.out HXY.out⟩⟩
          case measure => simp [intOf]; omega
        · have hq := fun W => (HNQ.out W).2 hxy
          have HXY := Aside.mk (HNE.out hxy)
          clear hxy
          go_upto_region 6 with fail
          go_quiet (fail)
          go_wp2_with fail
          go_ret
          exact ⟨false, rfl, ⟨(fun e => by cases e), fun e => absurd e HXY.out⟩, HI.out.1.trans (below_drewN _ _ _)⟩
      · obtain rfl : i = n := by omega
        have hd : decide ((i : Int) < (i : Int)) = false := decide_eq_false (by omega)
        have HEQ : Aside (a = b) := ⟨by
          have h := HI.out.2
          rw [HN.out, List.take_length, HE.out, List.take_length] at h
          exact h⟩
        go_wp2_with fail
        go_ret
        exact ⟨true, rfl, ⟨fun _ => HEQ.out, fun _ => rfl⟩, HI.out.1⟩
theorem rsame_heads (a b : List Hd) (hl : a.length ≤ 10000000) (A B : SL) (w : World) (h : RdH w A a) (h2 : RdH w B b) : Calls Try.prog 86 #[.slice A.a a.length A.c, .slice B.a b.length B.c] w (ChkB (a = b) w) := by
  have HA := Aside.mk h
  have HB := Aside.mk h2
  clear h h2
  by_cases he : a.length = b.length
  rotate_left
  · have hd : ((a.length : Int) == (b.length : Int)) = false := beq_eq_false_iff_ne.2 (by omega)
    have HN := Aside.mk (show ¬ a = b from fun e => he (by rw [e]))
    generalize a.length = n1 at *
    generalize b.length = n2 at *
    clear he
    go_enter Try.func86, Try.ntmps86
    go_wp2_with fail
    go_ret
    exact ⟨false, rfl, ⟨(fun e => by cases e), fun e => absurd e HN.out⟩, Below.refl _ _⟩
  · have HE := Aside.mk he
    rw [← he]
    clear he
    obtain ⟨n, hn⟩ : ∃ n, n = a.length := ⟨_, rfl⟩
    have HN := Aside.mk hn
    rw [← hn] at hl ⊢
    clear hn
    go_enter Try.func86, Try.ntmps86
    go_wp2_with fail
    go_loopw [5] (fun iv wr => ∃ i : Nat, i ≤ n ∧ iv = .int .i64 (i : Int) ∧ Aside (Below w.heap.size w wr ∧ a.take i = b.take i)) (fun iv _ => n - (intOf iv).toNat)
    case atStart => exact ⟨0, Nat.zero_le _, rfl, ⟨Below.refl _ _, rfl⟩⟩
    case round =>
      obtain ⟨i, hi, rfl, HI⟩ := hrel
      by_cases hlt : i < n
      · have hd : decide ((i : Int) < (n : Int)) = true := decide_eq_true (by omega)
        have hia : i < a.length := by rw [← HN.out]; exact hlt
        have hib : i < b.length := by rw [← HE.out]; exact hia
        obtain ⟨g, off, ea, q1, q2, x0, x1, x2, x3⟩ := RdH.at (HA.out.below HI.out.1) hia
        obtain ⟨g', off', eb, q1', q2', y0, y1, y2, y3⟩ := RdH.at (HB.out.below HI.out.1) hib
        have hi0 : (0 : Int) ≤ (i : Int) := by omega
        have hi1 : (i : Int) < (n : Int) := by omega
        have hw1 : IntKind.i64.wrap ((i : Int) + 1) = (i : Int) + 1 := IntWalk.i64_in _ (by omega)
        obtain ⟨Aa, Ac⟩ := A
        obtain ⟨Ba, Bc⟩ := B
        dsimp only at ea eb q1 q1' q2 q2'
        subst ea
        subst eb
        have HTK := Aside.mk (take_more hia hib HI.out.2)
        have HNE := Aside.mk (show ¬ a[i] = b[i] → ¬ a = b from fun h e => h (by subst e; rfl))
        have HNQ := Aside.mk (head_neq a[i] b[i])
        generalize a[i] = x at *
        generalize b[i] = y at *
        by_cases hxy : x = y
        · have hq := fun W => (HNQ.out W).1 hxy
          have HXY := Aside.mk hxy
          clear hxy
          go_upto_region 6 with fail
          go_quiet (fail)
          go_wp2_with fail
          go_roundw
          case rel => exact ⟨i + 1, by omega, by go_num, ⟨HI.out.1.trans (below_drewN _ _ _), HTK.out HXY.out⟩⟩
          case measure => simp [intOf]; omega
        · have hq := fun W => (HNQ.out W).2 hxy
          have HXY := Aside.mk (HNE.out hxy)
          clear hxy
          go_upto_region 6 with fail
          go_quiet (fail)
          go_wp2_with fail
          go_ret
          exact ⟨false, rfl, ⟨(fun e => by cases e), fun e => absurd e HXY.out⟩, HI.out.1.trans (below_drewN _ _ _)⟩
      · obtain rfl : i = n := by omega
        have hd : decide ((i : Int) < (i : Int)) = false := decide_eq_false (by omega)
        have HEQ : Aside (a = b) := ⟨by
          have h := HI.out.2
          rw [HN.out, List.take_length, HE.out, List.take_length] at h
          exact h⟩
        go_wp2_with fail
        go_ret
        exact ⟨true, rfl, ⟨fun _ => HEQ.out, fun _ => rfl⟩, HI.out.1⟩
end Go.Proofs.Ytmhjjhaipcgbiaa
