/- Texts of this claim, one behind the other: Zwk, Zed. -/
import Derived.Test.YtmhjjhaipcgbiaaGreatZemP49
import Derived.Test.YtmhjjhaipcgbiaaGreatZemP22
import Derived.Test.YtmhjjhaipcgbiaaGreatZemP39
import Derived.Test.YtmhjjhaipcgbiaaGreatZemP14

namespace Go.Proofs.YtmhjjhaipcgbiaaGreat
open Go.RowKit
set_option linter.unusedVariables false
set_option linter.unusedSimpArgs false
set_option maxRecDepth 100000
set_option maxHeartbeats 1000000
def wkC : Col := ⟨1, 0, 3, 3, [2], [255, 0, 5], [], []⟩
theorem wk_zone : zoneC wkC = ⟨3, 1, 0, true, 255, 5, [], []⟩ := zn_ext (by decide) (by decide) (by decide) (by decide) (by decide) (by decide) (by decide) (by decide)
theorem wk_check : checkC wkC = 0 := by decide
theorem wk_ok : COK wkC := ⟨(by unfold wkC; intro x hx; simp at hx; omega), (by unfold wkC; intro x hx; simp at hx; omega), (by intro x hx; cases hx), (by intro x hx; cases hx), (by decide), (by decide), (by decide), (by decide), (by unfold wkC IsI64; dsimp only; omega), (by unfold wkC IsI64; dsimp only; omega), (by unfold wkC IsI64; dsimp only; omega), (by unfold wkC IsI64; dsimp only; omega)⟩
theorem wk_small : Small18 wkC := ⟨fun _ => by decide, by decide, by intro t ht; cases ht⟩
theorem wakes19_any (w : World) : Calls Tryz.prog 43 #[] w (BoolP true w) := by
  have hb : Below w.heap.size w ((w.alloc (.cells #[.int .u8 2] 5)).alloc (.cells #[.int .u8 255, .int .u8 0, .int .u8 5] 5)) := ((Below.refl _ w).alloc (Nat.le_refl _) _).alloc (by simp) _
  have h1 : ((w.alloc (.cells #[.int .u8 2] 5)).alloc (.cells #[.int .u8 255, .int .u8 0, .int .u8 5] 5)).heap[w.heap.size]? = some (.cells #[.int .u8 2] 5) := (Below.heap_alloc _ _ _ (by simp)).trans (World.alloc_heap_new w _)
  have h2 : ((w.alloc (.cells #[.int .u8 2] 5)).alloc (.cells #[.int .u8 255, .int .u8 0, .int .u8 5] 5)).heap[w.heap.size + 1]? = some (.cells #[.int .u8 255, .int .u8 0, .int .u8 5] 5) := by
    have := World.alloc_heap_new (w.alloc (.cells #[.int .u8 2] 5)) (.cells #[.int .u8 255, .int .u8 0, .int .u8 5] 5)
    rwa [World.size_alloc] at this
  have hr : RdC ((w.alloc (.cells #[.int .u8 2] 5)).alloc (.cells #[.int .u8 255, .int .u8 0, .int .u8 5] 5)) wkC ⟨some ⟨w.heap.size, 0, none⟩, 1⟩ ⟨some ⟨w.heap.size + 1, 0, none⟩, 3⟩ ⟨none, 0⟩ ⟨none, 0⟩ [] :=
    ⟨rd_blk h1 rfl (by decide), rd_blk h2 rfl (by decide), Rd.nil _ _, Rd.nil _ _, ⟨rfl, fun i t hi => by cases hi⟩⟩
  have ho := zof_any wkC wk_ok wk_small.mod wk_check _ _ _ _ [] (.inr ⟨_, _, rfl⟩) _ hr
  rw [wk_zone] at ho
  have HO := Aside.mk ho
  have HB := Aside.mk hb
  clear ho hb h1 h2 hr
  go_enter Tryz.func43, Tryz.ntmps43
  go_wp2_with (first
    | (go_at_call 38; refine HO.out.mono ?_; rintro e w2 ⟨F, L, rfl, -, hb2⟩; have B2 := Aside.mk (below_chain HB.out hb2); clear hb2 HO; dsimp only [zV, wkC])
    | (go_at_call 41; refine (num19_any _ _).mono ?_; rintro e w3 ⟨rfl, hb3⟩; have B3 := Aside.mk (below_chain (below_chain B2.out (below_new w2 _)) hb3); obtain ⟨z0, z1, z2, z3, z4, z5, z6, z7, z8, z9⟩ := box10 ((hb3.block w2.heap.size (by simp)).trans (heap_alloc_new w2 _)); clear hb3))
  go_ret
  exact ⟨rfl, B3.out⟩
end Go.Proofs.YtmhjjhaipcgbiaaGreat


namespace Go.Proofs.YtmhjjhaipcgbiaaGreat
open Go.RowKit
set_option linter.unusedVariables false
set_option linter.unusedSimpArgs false
set_option maxRecDepth 100000
set_option maxHeartbeats 1000000
theorem box2e {w : World} {b : Nat} {x0 x1 : Value} {T : TypeId} (h : w.heap[b]? = some (.cells #[x0, x1] T (0, 0))) : w.cell? ⟨b, 0, none⟩ = some x0 ∧ w.cell? ⟨b, 1, none⟩ = some x1 := by
  refine ⟨?_, ?_⟩ <;> (rw [cell_blk h]; rfl)
theorem take_snoc {l : List V} {i : Nat} (h : i < l.length) : l.take (i + 1) = l.take i ++ [l[i]] := by rw [List.take_add_one, List.getElem?_eq_getElem h]; rfl
theorem nNull_next {l : List V} {i : Nat} (h : i < l.length) : nNull (l.take (i + 1)) = nNull (l.take i) + if l[i].null then 1 else 0 := by rw [take_snoc h, nNull_snoc]
theorem nOdd_next {k : Int} {l : List V} {i : Nat} (h : i < l.length) : nOdd k (l.take (i + 1)) = nOdd k (l.take i) + if !l[i].null && oddB k l[i].bits then 1 else 0 := by rw [take_snoc h, nOdd_snoc]
theorem nNull_le (l : List V) : nNull l ≤ l.length := List.length_filter_le _ _
theorem nOdd_le (k : Int) (l : List V) : nOdd k l ≤ l.length := List.length_filter_le _ _
theorem edgeAt_next {k : Int} {x : V} {l : List V} {i : Nat} (h : i < l.length) : edgeAt k x l (i + 1) = if (plainB k l[i] && decide (cmpV k l[i] x = 0)) && decide (edgeAt k x l i < 0) then (i : Int) else edgeAt k x l i := by
  rw [edgeAt, show l.getD i ⟨true, 0, []⟩ = l[i] by rw [List.getD_eq_getElem?_getD, List.getElem?_eq_getElem h]; rfl]
theorem edgeAt_range (k : Int) (x : V) (l : List V) : ∀ i, -1 ≤ edgeAt k x l i ∧ edgeAt k x l i ≤ (i : Int)
  | 0 => by simp [edgeAt]
  | i + 1 => by
    have := edgeAt_range k x l i
    rw [edgeAt]
    split <;> omega
structure EdC (k : Int) (v : List V) (z : Zn) (i nn no : Nat) (lv mv : Int) : Prop where
  nn : nn = nNull (v.take i)
  no : no = nOdd k (v.take i)
  lv : lv = edgeAt k (zLow z) v i
  mv : mv = edgeAt k (zHigh z) v i
theorem EdC.small {k : Int} {v : List V} {z : Zn} {i nn no : Nat} {lv mv : Int} (h : EdC k v z i nn no lv mv) : nn ≤ v.length ∧ no ≤ v.length ∧ -1 ≤ lv ∧ lv ≤ (i : Int) ∧ -1 ≤ mv ∧ mv ≤ (i : Int) := by
  have h1 := nNull_le (v.take i)
  have h2 := nOdd_le k (v.take i)
  have h3 := List.length_take_le i v
  have h4 := edgeAt_range k (zLow z) v i
  have h5 := edgeAt_range k (zHigh z) v i
  have hl : (v.take i).length ≤ v.length := List.length_take_le' i v
  have e1 := h.nn
  have e2 := h.no
  have e3 := h.lv
  have e4 := h.mv
  exact ⟨by omega, by omega, by omega, by omega, by omega, by omega⟩
theorem EdC.null {k : Int} {v : List V} {z : Zn} {i nn no : Nat} {lv mv : Int} (h : EdC k v z i nn no lv mv) (hi : i < v.length) (hn : v[i].null = true) : EdC k v z (i + 1) (nn + 1) no lv mv := by
  have hp : plainB k v[i] = false := by unfold plainB; rw [hn]; rfl
  refine ⟨by rw [nNull_next hi, hn, ← h.nn]; rfl, by rw [nOdd_next hi, hn, ← h.no]; rfl, ?_, ?_⟩ <;> rw [edgeAt_next hi, hp]
  · exact h.lv
  · exact h.mv
theorem EdC.odd {k : Int} {v : List V} {z : Zn} {i nn no : Nat} {lv mv : Int} (h : EdC k v z i nn no lv mv) (hi : i < v.length) (hn : v[i].null = false) (ho : oddB k v[i].bits = true) : EdC k v z (i + 1) nn (no + 1) lv mv := by
  have hp : plainB k v[i] = false := by unfold plainB; rw [hn, ho]; rfl
  refine ⟨by rw [nNull_next hi, hn, ← h.nn]; rfl, by rw [nOdd_next hi, hn, ho, ← h.no]; rfl, ?_, ?_⟩ <;> rw [edgeAt_next hi, hp]
  · exact h.lv
  · exact h.mv
theorem EdC.plain {k : Int} {v : List V} {z : Zn} {i nn no : Nat} {lv mv : Int} (h : EdC k v z i nn no lv mv) (hi : i < v.length) (hn : v[i].null = false) (ho : oddB k v[i].bits = false) :
    EdC k v z (i + 1) nn no (if decide (cmpV k v[i] (zLow z) = 0) && decide (lv < 0) then (i : Int) else lv) (if decide (cmpV k v[i] (zHigh z) = 0) && decide (mv < 0) then (i : Int) else mv) := by
  have hp : plainB k v[i] = true := by unfold plainB; rw [hn, ho]; rfl
  refine ⟨by rw [nNull_next hi, hn, ← h.nn]; rfl, by rw [nOdd_next hi, hn, ho, ← h.no]; rfl, ?_, ?_⟩ <;> rw [edgeAt_next hi, hp, Bool.true_and]
  · rw [h.lv]
  · rw [h.mv]
theorem plain_bytes {k : Int} {v : V} (h : PlainV k v) : IsBytes v.text := by
  cases hw : wordedB k with
  | true => exact (h.text hw).2
  | false => rw [(h.bits hw).2]; exact isBytes_nil
theorem same_self (xs : List Int) (hx : IsBytes xs) (A B : SL) (w : World) (ha : RdT w xs A) (hb : RdT w xs B) : Calls Tryz.prog 47 #[.slice A.a xs.length A.c, .slice B.a xs.length B.c] w (BoolP true w) := by
  refine (same_bytes xs xs A B hx hx w ha hb).mono ?_
  rintro e w2 ⟨rfl, rfl⟩
  exact ⟨by simp, Below.refl _ _⟩
theorem RdVs.getD {w : World} {va : Option Addr} {vc : Nat} {l : List V} (h : RdVs w ⟨va, vc⟩ l) {m : Nat} (hm : m < l.length) {b : Nat} {t : List Int} (hb : b = (l.getD m ⟨true, 0, []⟩).bits) (ht : t = (l.getD m ⟨true, 0, []⟩).text) : ∃ g off ta tc, va = some ⟨g, off, none⟩ ∧ l.length ≤ vc ∧ vc ≤ 9223372036854775807 ∧ w.cell? ⟨g, off + m * 3 + 1, none⟩ = some (.int .u64 (b : Int)) ∧ w.cell? ⟨g, off + m * 3 + 2, none⟩ = some (.slice ta t.length tc) ∧ RdT w t ⟨ta, tc⟩ := by
  obtain ⟨g, off, cap, ta, tc, e1, e2, q1, q2, v0, v1, v2, hrt⟩ := h.at hm
  have e : l.getD m ⟨true, 0, []⟩ = l[m] := by rw [List.getD_eq_getElem?_getD, List.getElem?_eq_getElem hm]; rfl
  rw [e] at hb ht
  subst hb ht
  simp only at e1 e2
  subst e2
  exact ⟨g, off, ta, tc, e1, q1, q2, v1, v2, hrt⟩
theorem tri (c l : Int) : ((c == 0) = true ∧ decide (l < 0) = true ∧ (decide (c = 0) && decide (l < 0)) = true) ∨ ((c == 0) = true ∧ decide (l < 0) = false ∧ (decide (c = 0) && decide (l < 0)) = false) ∨ ((c == 0) = false ∧ (decide (c = 0) && decide (l < 0)) = false) := by
  by_cases h : c = 0
  · by_cases h2 : l < 0
    · exact .inl ⟨by simp [h], by simp [h2], by simp [h, h2]⟩
    · exact .inr (.inl ⟨by simp [h], by simp [h2], by simp [h2]⟩)
  · exact .inr (.inr ⟨by simp [h], by simp [h]⟩)
theorem has_of {k : Int} {l : List V} {z : Zn} (h : Edge k l z) {v : V} (hv : v ∈ l) (hp : plainB k v = true) : z.has = true := by
  cases e : z.has with
  | true => rfl
  | false =>
    obtain ⟨i, hi, rfl⟩ := List.mem_iff_getElem.1 hv
    have := (h.none e).2.2.2.2 i
    rw [List.getD_eq_getElem?_getD, List.getElem?_eq_getElem hi] at this
    rw [show (some l[i]).getD ⟨true, 0, []⟩ = l[i] from rfl, hp] at this
    cases this
theorem cmpV_lb {k : Int} {a b c : V} (h1 : a.bits = b.bits) (h2 : a.text = b.text) : cmpV k a c = cmpV k b c := by unfold cmpV; rw [h1, h2]
theorem zoneEdges_walk (n : Int) (l : List V) (hl : l.length ≤ 9223372036854775807) (hv : ∀ v ∈ l, IsBytes v.text ∧ v.bits < 18446744073709551616 ∧ v.text.length ≤ 9223372036854775807) (A : SL) (w : World) (h : RdVs w A l) :
    Calls Tryz.prog 5 #[.int .i64 n, .slice A.a l.length A.c] w (BoolP true w) := by
  have HK := Aside.mk (kind_ok n)
  have HFL := Aside.mk (fun W (hb : Below w.heap.size w W) => fitsL_any (kindI n) (scaleI n) (kind_ok n) l hl hv A W (h.below hb))
  clear h hl hv
  generalize l.length = ln at *
  go_enter Tryz.func5, Tryz.ntmps5
  go_upto_region 2 with (go_at_call 24; refine (kind_any _ _).mono ?_; rintro e w1 ⟨rfl, hb1⟩; have HB1 := Aside.mk hb1; clear hb1)
  generalize kindI n = k at *
  generalize scaleI n = s at *
  have HI := Aside.mk ((show MI w w1 [] [] from ⟨HB1.out, (fun p hp => by cases hp), (fun p hp => by cases hp)⟩).new #[.int .i64 k, .int .i64 s] 23)
  generalize w1.alloc (.cells #[.int .i64 k, .int .i64 s] 23) = w2 at *
  clear HB1
  obtain ⟨t0, t1⟩ := box2e (HI.out.box _ (List.mem_cons_self ..))
  go_upto_region 3 with (go_at_call 26; refine (HFL.out _ HI.out.bel).mono ?_; rintro e w3 ⟨v, ⟨va1, vc1⟩, xs, rfl, hr1, hr2, hov, hb⟩; clear t0 t1; have HV := Aside.mk hov.rd; have HR := Aside.mk (And.intro hr1 hr2); replace HI := Aside.mk (HI.out.below hb); clear hov hr1 hr2 hb)
  clear HFL
  have hf := few_of19 HR.out.1 HR.out.2
  have HFE := Aside.mk hf
  have HED := Aside.mk (edge_fold k v.length v)
  have HZI := Aside.mk (zL_inv hf)
  have HZF := Aside.mk (fun B D E X va b W (h : OwnC W b (colOf k s v) B D E X va) => zof_list HK.out hf B D E X va W h)
  have HLY := Aside.mk (fun W (h : RdVs W ⟨va1, vc1⟩ v) => lay_any k s v HK.out hf.1 hf.2 ⟨va1, vc1⟩ W h)
  change Aside (∀ W, RdVs W ⟨va1, vc1⟩ v → Calls Tryz.prog 25 #[.agg #[.int .i64 k, .int .i64 s], .slice va1 v.length vc1] W (ColBP (colOf k s v) W)) at HLY
  obtain ⟨c, hcc⟩ : ∃ c, colOf k s v = c := ⟨_, rfl⟩
  change Aside (Edge k v (zL k v)) at HED
  change Aside (ZInv k v.length v) at HZI
  have HZK := Aside.mk (show ZOK k (zL k v) ∧ (zL k v).n = v.length from ⟨HZI.out.ok, HZI.out.nn⟩)
  obtain ⟨z, hzz⟩ : ∃ z, zL k v = z := ⟨_, rfl⟩
  rw [hcc] at HZF HLY
  rw [hzz] at HZF HED HZK
  clear hf hcc hzz HZI
  dsimp only [colV] at HZF
  obtain ⟨t0, t1⟩ := box2e (HI.out.box _ (List.mem_cons_self ..))
  go_upto_region 4 with (first
    | (go_at_call 25; refine (HLY.out _ HV.out).mono ?_; rintro e w4 ⟨B, D, E, X, va, rfl, hown, hb⟩; have HOW := Aside.mk hown; clear hown HLY t0 t1; replace HI := Aside.mk (HI.out.below hb); replace HV := Aside.mk (HV.out.below hb); clear hb; dsimp only [colV])
    | (go_at_call 38; refine (HZF.out _ _ _ _ _ _ _ HOW.out).mono ?_; rintro e w5 ⟨F, L, rfl, hz, hb⟩; have HZO := Aside.mk (And.intro hz.f.rd hz.l.rd); clear hz HZF HOW; replace HI := Aside.mk (HI.out.below hb); replace HV := Aside.mk (HV.out.below hb); clear hb; dsimp only [zV]))
  replace HI := Aside.mk ((HI.out.rds _ _ HZO.out.1).rds _ _ HZO.out.2)
  replace HV := Aside.mk (HV.out.below (below_new w5 (.cells #[.int .i64 k, .int .i64 s, .int .i64 (z.n : Int), .int .i64 (z.nulls : Int), .int .i64 (z.odd : Int), .bool z.has, .int .u64 (z.least : Int), .int .u64 (z.most : Int), .slice F.a z.first.length F.c, .slice L.a z.last.length L.c] 79)))
  replace HI := Aside.mk (HI.out.new #[.int .i64 k, .int .i64 s, .int .i64 (z.n : Int), .int .i64 (z.nulls : Int), .int .i64 (z.odd : Int), .bool z.has, .int .u64 (z.least : Int), .int .u64 (z.most : Int), .slice F.a z.first.length F.c, .slice L.a z.last.length L.c] 79)
  generalize w5.alloc (.cells #[.int .i64 k, .int .i64 s, .int .i64 (z.n : Int), .int .i64 (z.nulls : Int), .int .i64 (z.odd : Int), .bool z.has, .int .u64 (z.least : Int), .int .u64 (z.most : Int), .slice F.a z.first.length F.c, .slice L.a z.last.length L.c] 79) = w6 at *
  clear HZO
  obtain ⟨z0, z1, z2, z3, z4, z5, z6, z7, z8, z9⟩ := box10 (HI.out.box _ (List.mem_cons_self ..))
  obtain ⟨t0, t1⟩ := box2e (HI.out.box _ (List.mem_cons_of_mem _ (List.mem_cons_self ..)))
  have hzn : ((z.n : Int) != (v.length : Int)) = false := by rw [HZK.out.2]; simp
  go_upto_region 6 with (first
    | (go_at_call 41; refine (num19_any _ _).mono ?_; rintro e wn ⟨rfl, hb⟩; clear z0 z1 z2 z3 z4 z5 z6 z7 z8 z9 t0 t1; replace HI := Aside.mk (HI.out.below hb); replace HV := Aside.mk (HV.out.below hb); clear hb; obtain ⟨z0, z1, z2, z3, z4, z5, z6, z7, z8, z9⟩ := box10 (HI.out.box _ (List.mem_cons_self ..)); obtain ⟨t0, t1⟩ := box2e (HI.out.box _ (List.mem_cons_of_mem _ (List.mem_cons_self ..))))
    | (go_at_call 43; refine (wakes19_any _).mono ?_; rintro e w7 ⟨rfl, hb⟩; clear z0 z1 z2 z3 z4 z5 z6 z7 z8 z9 t0 t1; replace HI := Aside.mk (HI.out.below hb); replace HV := Aside.mk (HV.out.below hb); clear hb; obtain ⟨z0, z1, z2, z3, z4, z5, z6, z7, z8, z9⟩ := box10 (HI.out.box _ (List.mem_cons_self ..)); obtain ⟨t0, t1⟩ := box2e (HI.out.box _ (List.mem_cons_of_mem _ (List.mem_cons_self ..)))))
  clear hzn t0 t1
  have HEG := Aside.mk (fun W => edges_any k s z F L W)
  dsimp only [zV] at HEG
  go_upto_region 7 with (go_at_call 44; refine (HEG.out _).mono ?_; rintro e w8 ⟨rfl, hb⟩; clear HEG z0 z1 z2 z3 z4 z5 z6 z7 z8 z9; replace HI := Aside.mk (HI.out.below hb); replace HV := Aside.mk (HV.out.below hb); clear hb)
  have hsz : (w8.alloc (.cells #[.bool false, .int .u64 (z.least : Int), .slice F.a z.first.length F.c] 50)).heap.size = w8.heap.size + 1 := by simp
  replace HV := Aside.mk (HV.out.below (below_new w8 (.cells #[.bool false, .int .u64 (z.least : Int), .slice F.a z.first.length F.c] 50)))
  replace HI := Aside.mk (HI.out.new #[.bool false, .int .u64 (z.least : Int), .slice F.a z.first.length F.c] 50)
  generalize w8.alloc (.cells #[.bool false, .int .u64 (z.least : Int), .slice F.a z.first.length F.c] 50) = w9 at *
  replace HV := Aside.mk (HV.out.below (below_new w9 (.cells #[.bool false, .int .u64 (z.most : Int), .slice L.a z.last.length L.c] 50)))
  replace HI := Aside.mk (HI.out.newAt #[.bool false, .int .u64 (z.most : Int), .slice L.a z.last.length L.c] 50 (w8.heap.size + 1) hsz)
  clear hsz
  generalize w9.alloc (.cells #[.bool false, .int .u64 (z.most : Int), .slice L.a z.last.length L.c] 50) = w10 at *
  go_wp2_with fail
  have HR120 := Aside.mk HR.out.1
  go_loopw [11, 12, 13, 14, 15] (fun nv ov lv mv iv wr => ∃ (i nn no : Nat) (ll mm : Int), i ≤ v.length ∧ nv = .int .i64 (nn : Int) ∧ ov = .int .i64 (no : Int) ∧ lv = .int .i64 ll ∧ mv = .int .i64 mm ∧ iv = .int .i64 (i : Int) ∧ Aside (EdC k v z i nn no ll mm) ∧ Aside (MI w wr [(w8.heap.size + 1, .cells #[.bool false, .int .u64 (z.most : Int), .slice L.a z.last.length L.c] 50 (0, 0)), (w8.heap.size, .cells #[.bool false, .int .u64 (z.least : Int), .slice F.a z.first.length F.c] 50 (0, 0)), (w5.heap.size, .cells #[.int .i64 k, .int .i64 s, .int .i64 (z.n : Int), .int .i64 (z.nulls : Int), .int .i64 (z.odd : Int), .bool z.has, .int .u64 (z.least : Int), .int .u64 (z.most : Int), .slice F.a z.first.length F.c, .slice L.a z.last.length L.c] 79 (0, 0)), (w1.heap.size, .cells #[.int .i64 k, .int .i64 s] 23 (0, 0))] [(L, z.last), (F, z.first)] ∧ RdVs wr ⟨va1, vc1⟩ v)) (fun _ _ _ _ iv _ => v.length - (intOf iv).toNat)
  case atStart => exact ⟨0, 0, 0, -1, -1, by omega, rfl, rfl, rfl, rfl, rfl, ⟨⟨rfl, rfl, rfl, rfl⟩⟩, ⟨HI.out, HV.out⟩⟩
  case round =>
    clear HI HV
    obtain ⟨i, nn, no, ll, mm, hi, rfl, rfl, rfl, rfl, rfl, HE, HM⟩ := hrel
    obtain ⟨sm1, sm2, sm3, sm4, sm5, sm6⟩ := HE.out.small
    have hr120 := HR120.out
    by_cases hlt : i < v.length
    · obtain ⟨g, off, cap, ta, tc, e1, e2, q1, q2, v0, v1, v2, hrt⟩ := HM.out.2.at hlt
      simp only at e1 e2
      subst e1 e2
      have HRT := Aside.mk hrt
      clear hrt
      cases hn : v[i].null with
      | true =>
        rw [hn] at v0
        have HEN := Aside.mk (HE.out.null hlt hn)
        clear hn
        go_wp2_with fail
        exact ⟨⟨i + 1, nn + 1, no, ll, mm, by omega, by simp, rfl, rfl, rfl, by simp, HEN, HM⟩, by simp [intOf]; omega⟩
      | false =>
        rw [hn] at v0
        have hvk := HFE.out.2 _ (List.getElem_mem hlt)
        have HB64 := Aside.mk hvk.2.1
        have H32 := Aside.mk (vok_32 hvk hn)
        cases ho : oddB k v[i].bits with
        | true =>
          have HEN := Aside.mk (HE.out.odd hlt hn ho)
          have HOD := Aside.mk (fun W => by have := rodd_any k s v[i].bits (by omega) (by have := HB64.out; omega) H32.out W; rw [ho] at this; exact this)
          clear hn ho hvk
          go_upto_region 20 with fail
          refine wp_region_calm (by kernel_rfl) (by kernel_rfl) ?_
          refine calm_take (by rfl) ?v2000 (fun w' hw' => ?hy2000) ?rest2000
          case hy2000 => obtain ⟨t0, t1⟩ := box2e ((HM.out.1.below hw').box _ (List.mem_cons_of_mem _ (List.mem_cons_of_mem _ (List.mem_cons_of_mem _ (List.mem_cons_self ..))))); have u0 := (hw'.cell (p := ⟨g, off + i * 3, none⟩) (World.block_lt_of_cell? _ _ v0)).trans v0; have u1 := (hw'.cell (p := ⟨g, off + i * 3 + 1, none⟩) (World.block_lt_of_cell? _ _ v1)).trans v1; have u2 := (hw'.cell (p := ⟨g, off + i * 3 + 2, none⟩) (World.block_lt_of_cell? _ _ v2)).trans v2; go_simp <;> first | rfl | skip
          simp only [Act.put, List.setIfInBounds_toArray, List.set_cons_zero, List.set_cons_succ]
          refine calm_take (by rfl) ?v2001 (fun w' hw' => ?hy2001) ?rest2001
          case hy2001 => go_simp <;> first | rfl | skip
          simp only [Act.put, List.setIfInBounds_toArray, List.set_cons_zero, List.set_cons_succ]
          refine calm_take (by rfl) ?v2002 (fun w' hw' => ?hy2002) ?rest2002
          case hy2002 => go_simp <;> first | rfl | skip
          simp only [Act.put, List.setIfInBounds_toArray, List.set_cons_zero, List.set_cons_succ]
          refine calm_take (by rfl) ?v2003 (fun w' hw' => ?hy2003) ?rest2003
          case hy2003 => go_simp <;> first | rfl | skip
          simp only [Act.put, List.setIfInBounds_toArray, List.set_cons_zero, List.set_cons_succ]
          refine calm_take (by rfl) ?v2004 (fun w' hw' => ?hy2004) ?rest2004
          case hy2004 => go_simp <;> first | rfl | skip
          simp only [Act.put, List.setIfInBounds_toArray, List.set_cons_zero, List.set_cons_succ]
          refine calm_take (by rfl) ?v2005 (fun w' hw' => ?hy2005) ?rest2005
          case hy2005 => obtain ⟨t0, t1⟩ := box2e ((HM.out.1.below hw').box _ (List.mem_cons_of_mem _ (List.mem_cons_of_mem _ (List.mem_cons_of_mem _ (List.mem_cons_self ..))))); have u0 := (hw'.cell (p := ⟨g, off + i * 3, none⟩) (World.block_lt_of_cell? _ _ v0)).trans v0; have u1 := (hw'.cell (p := ⟨g, off + i * 3 + 1, none⟩) (World.block_lt_of_cell? _ _ v1)).trans v1; have u2 := (hw'.cell (p := ⟨g, off + i * 3 + 2, none⟩) (World.block_lt_of_cell? _ _ v2)).trans v2; go_simp <;> first | rfl | skip
          simp only [Act.put, List.setIfInBounds_toArray, List.set_cons_zero, List.set_cons_succ]
          refine' calm_call (by rfl) (.bool true) ?nx2006 (fun w' => ?hr2006) _ _ ?hn2006 (fun w' hw' => ?hc2006) ?rest2006
          case hr2006 => go_simp <;> rfl
          case hn2006 => rfl
          case hc2006 => exact (HOD.out w').mono (by rintro e w3 ⟨rfl, hb3⟩; exact ⟨rfl, below_chain hw' hb3⟩)
          simp only [Act.put, List.setIfInBounds_toArray, List.set_cons_zero, List.set_cons_succ]
          refine calm_take (by rfl) ?v2007 (fun w' hw' => ?hy2007) ?rest2007
          case hy2007 => go_simp <;> first | rfl | skip
          simp only [Act.put, List.setIfInBounds_toArray, List.set_cons_zero, List.set_cons_succ]
          refine wpQuiet_nil (fun w' hw' => ?_)
          go_wp2_with fail
          exact ⟨⟨i + 1, nn, no + 1, ll, mm, by omega, rfl, by simp, rfl, rfl, by simp, HEN, ⟨HM.out.1.below hw', HM.out.2.below hw'⟩⟩, by simp [intOf]; omega⟩
        | false =>
          have HEN := Aside.mk (HE.out.plain hlt hn ho)
          have HOD := Aside.mk (fun W => by have := rodd_any k s v[i].bits (by omega) (by have := HB64.out; omega) H32.out W; rw [ho] at this; exact this)
          have hp : plainB k v[i] = true := by unfold plainB; rw [hn, ho]; rfl
          have hlow := HED.out.low _ (List.getElem_mem hlt) hp
          have hpv := plain_of hvk hn ho
          have hzh : z.has = true := has_of HED.out (List.getElem_mem hlt) hp
          have hpz := HZK.out.1 hzh
          have hk16 : 1 ≤ k ∧ k ≤ 16 := by have := HK.out; unfold okType at this; simp at this; omega
          have HC1 := Aside.mk (fun W (hM : MI w W [(w8.heap.size + 1, .cells #[.bool false, .int .u64 (z.most : Int), .slice L.a z.last.length L.c] 50 (0, 0)), (w8.heap.size, .cells #[.bool false, .int .u64 (z.least : Int), .slice F.a z.first.length F.c] 50 (0, 0)), (w5.heap.size, .cells #[.int .i64 k, .int .i64 s, .int .i64 (z.n : Int), .int .i64 (z.nulls : Int), .int .i64 (z.odd : Int), .bool z.has, .int .u64 (z.least : Int), .int .u64 (z.most : Int), .slice F.a z.first.length F.c, .slice L.a z.last.length L.c] 79 (0, 0)), (w1.heap.size, .cells #[.int .i64 k, .int .i64 s] 23 (0, 0))] [(L, z.last), (F, z.first)]) (hr : RdT W v[i].text ⟨ta, tc⟩) => rcmp_any k s hk16 v[i] (zLow z) false false hpv hpz.1 ⟨ta, tc⟩ F W hr (hM.rd _ (List.mem_cons_of_mem _ (List.mem_cons_self ..))))
          have HC2 := Aside.mk (fun W (hM : MI w W [(w8.heap.size + 1, .cells #[.bool false, .int .u64 (z.most : Int), .slice L.a z.last.length L.c] 50 (0, 0)), (w8.heap.size, .cells #[.bool false, .int .u64 (z.least : Int), .slice F.a z.first.length F.c] 50 (0, 0)), (w5.heap.size, .cells #[.int .i64 k, .int .i64 s, .int .i64 (z.n : Int), .int .i64 (z.nulls : Int), .int .i64 (z.odd : Int), .bool z.has, .int .u64 (z.least : Int), .int .u64 (z.most : Int), .slice F.a z.first.length F.c, .slice L.a z.last.length L.c] 79 (0, 0)), (w1.heap.size, .cells #[.int .i64 k, .int .i64 s] 23 (0, 0))] [(L, z.last), (F, z.first)]) (hr : RdT W v[i].text ⟨ta, tc⟩) => rcmp_any k s hk16 v[i] (zHigh z) false false hpv hpz.2 ⟨ta, tc⟩ L W hr (hM.rd _ (List.mem_cons_self ..)))
          obtain ⟨c1, hc1⟩ : ∃ c, cmpV k v[i] (zLow z) = c := ⟨_, rfl⟩
          obtain ⟨c2, hc2⟩ : ∃ c, cmpV k v[i] (zHigh z) = c := ⟨_, rfl⟩
          rw [hc1] at HC1 HEN hlow
          rw [hc2] at HC2 HEN hlow
          dsimp only [zLow, zHigh] at HC1 HC2
          obtain ⟨hl1, hl2⟩ := hlow
          have HCC := Aside.mk (And.intro hl1 hl2)
          clear hn ho hvk hp hpv hzh hpz hk16 hc1 hc2 hl1 hl2
          go_upto_region 20 with fail
          refine wp_region_calm (by kernel_rfl) (by kernel_rfl) ?_
          refine calm_take (by rfl) ?v3000 (fun w' hw' => ?hy3000) ?rest3000
          case hy3000 => obtain ⟨t0, t1⟩ := box2e ((HM.out.1.below hw').box _ (List.mem_cons_of_mem _ (List.mem_cons_of_mem _ (List.mem_cons_of_mem _ (List.mem_cons_self ..))))); have u0 := (hw'.cell (p := ⟨g, off + i * 3, none⟩) (World.block_lt_of_cell? _ _ v0)).trans v0; have u1 := (hw'.cell (p := ⟨g, off + i * 3 + 1, none⟩) (World.block_lt_of_cell? _ _ v1)).trans v1; have u2 := (hw'.cell (p := ⟨g, off + i * 3 + 2, none⟩) (World.block_lt_of_cell? _ _ v2)).trans v2; go_simp <;> first | rfl | skip
          simp only [Act.put, List.setIfInBounds_toArray, List.set_cons_zero, List.set_cons_succ]
          refine calm_take (by rfl) ?v3001 (fun w' hw' => ?hy3001) ?rest3001
          case hy3001 => go_simp <;> first | rfl | skip
          simp only [Act.put, List.setIfInBounds_toArray, List.set_cons_zero, List.set_cons_succ]
          refine calm_take (by rfl) ?v3002 (fun w' hw' => ?hy3002) ?rest3002
          case hy3002 => go_simp <;> first | rfl | skip
          simp only [Act.put, List.setIfInBounds_toArray, List.set_cons_zero, List.set_cons_succ]
          refine calm_take (by rfl) ?v3003 (fun w' hw' => ?hy3003) ?rest3003
          case hy3003 => go_simp <;> first | rfl | skip
          simp only [Act.put, List.setIfInBounds_toArray, List.set_cons_zero, List.set_cons_succ]
          refine calm_take (by rfl) ?v3004 (fun w' hw' => ?hy3004) ?rest3004
          case hy3004 => go_simp <;> first | rfl | skip
          simp only [Act.put, List.setIfInBounds_toArray, List.set_cons_zero, List.set_cons_succ]
          refine calm_take (by rfl) ?v3005 (fun w' hw' => ?hy3005) ?rest3005
          case hy3005 => obtain ⟨t0, t1⟩ := box2e ((HM.out.1.below hw').box _ (List.mem_cons_of_mem _ (List.mem_cons_of_mem _ (List.mem_cons_of_mem _ (List.mem_cons_self ..))))); have u0 := (hw'.cell (p := ⟨g, off + i * 3, none⟩) (World.block_lt_of_cell? _ _ v0)).trans v0; have u1 := (hw'.cell (p := ⟨g, off + i * 3 + 1, none⟩) (World.block_lt_of_cell? _ _ v1)).trans v1; have u2 := (hw'.cell (p := ⟨g, off + i * 3 + 2, none⟩) (World.block_lt_of_cell? _ _ v2)).trans v2; go_simp <;> first | rfl | skip
          simp only [Act.put, List.setIfInBounds_toArray, List.set_cons_zero, List.set_cons_succ]
          refine' calm_call (by rfl) (.bool false) ?nx3006 (fun w' => ?hr3006) _ _ ?hn3006 (fun w' hw' => ?hc3006) ?rest3006
          case hr3006 => go_simp <;> rfl
          case hn3006 => rfl
          case hc3006 => exact (HOD.out w').mono (by rintro e w3 ⟨rfl, hb3⟩; exact ⟨rfl, below_chain hw' hb3⟩)
          simp only [Act.put, List.setIfInBounds_toArray, List.set_cons_zero, List.set_cons_succ]
          refine calm_take (by rfl) ?v3007 (fun w' hw' => ?hy3007) ?rest3007
          case hy3007 => go_simp <;> first | rfl | skip
          simp only [Act.put, List.setIfInBounds_toArray, List.set_cons_zero, List.set_cons_succ]
          refine wpQuiet_nil (fun w' hw' => ?_)
          have HMx := Aside.mk (And.intro (HM.out.1.below hw') (HM.out.2.below hw'))
          have HRTx := Aside.mk (HRT.out.below hw')
          have n0 := (hw'.cell (p := ⟨g, off + i * 3, none⟩) (World.block_lt_of_cell? _ _ v0)).trans v0
          have n1 := (hw'.cell (p := ⟨g, off + i * 3 + 1, none⟩) (World.block_lt_of_cell? _ _ v1)).trans v1
          have n2 := (hw'.cell (p := ⟨g, off + i * 3 + 2, none⟩) (World.block_lt_of_cell? _ _ v2)).trans v2
          clear HM HRT HOD
          go_upto_region 11 with fail
          clear v0 v1 v2
          refine wp_region_calm (by kernel_rfl) (by kernel_rfl) ?_
          refine calm_take (by rfl) ?v4000 (fun w' hw' => ?hy4000) ?rest4000
          case hy4000 => obtain ⟨t0, t1⟩ := box2e ((HMx.out.1.below hw').box _ (List.mem_cons_of_mem _ (List.mem_cons_of_mem _ (List.mem_cons_of_mem _ (List.mem_cons_self ..))))); have u0 := (hw'.cell (p := ⟨g, off + i * 3, none⟩) (World.block_lt_of_cell? _ _ n0)).trans n0; have u1 := (hw'.cell (p := ⟨g, off + i * 3 + 1, none⟩) (World.block_lt_of_cell? _ _ n1)).trans n1; have u2 := (hw'.cell (p := ⟨g, off + i * 3 + 2, none⟩) (World.block_lt_of_cell? _ _ n2)).trans n2; obtain ⟨l0, l1, l2⟩ := box3 ((HMx.out.1.below hw').box _ (List.mem_cons_of_mem _ (List.mem_cons_self ..))); obtain ⟨h0, h1, h2⟩ := box3 ((HMx.out.1.below hw').box _ (List.mem_cons_self ..)); go_simp <;> first | rfl | skip
          simp only [Act.put, List.setIfInBounds_toArray, List.set_cons_zero, List.set_cons_succ]
          refine calm_take (by rfl) ?v4001 (fun w' hw' => ?hy4001) ?rest4001
          case hy4001 => go_simp <;> first | rfl | skip
          simp only [Act.put, List.setIfInBounds_toArray, List.set_cons_zero, List.set_cons_succ]
          refine calm_take (by rfl) ?v4002 (fun w' hw' => ?hy4002) ?rest4002
          case hy4002 => go_simp <;> first | rfl | skip
          simp only [Act.put, List.setIfInBounds_toArray, List.set_cons_zero, List.set_cons_succ]
          refine calm_take (by rfl) ?v4003 (fun w' hw' => ?hy4003) ?rest4003
          case hy4003 => go_simp <;> first | rfl | skip
          simp only [Act.put, List.setIfInBounds_toArray, List.set_cons_zero, List.set_cons_succ]
          refine calm_take (by rfl) ?v4004 (fun w' hw' => ?hy4004) ?rest4004
          case hy4004 => obtain ⟨t0, t1⟩ := box2e ((HMx.out.1.below hw').box _ (List.mem_cons_of_mem _ (List.mem_cons_of_mem _ (List.mem_cons_of_mem _ (List.mem_cons_self ..))))); have u0 := (hw'.cell (p := ⟨g, off + i * 3, none⟩) (World.block_lt_of_cell? _ _ n0)).trans n0; have u1 := (hw'.cell (p := ⟨g, off + i * 3 + 1, none⟩) (World.block_lt_of_cell? _ _ n1)).trans n1; have u2 := (hw'.cell (p := ⟨g, off + i * 3 + 2, none⟩) (World.block_lt_of_cell? _ _ n2)).trans n2; obtain ⟨l0, l1, l2⟩ := box3 ((HMx.out.1.below hw').box _ (List.mem_cons_of_mem _ (List.mem_cons_self ..))); obtain ⟨h0, h1, h2⟩ := box3 ((HMx.out.1.below hw').box _ (List.mem_cons_self ..)); go_simp <;> first | rfl | skip
          simp only [Act.put, List.setIfInBounds_toArray, List.set_cons_zero, List.set_cons_succ]
          refine calm_take (by rfl) ?v4005 (fun w' hw' => ?hy4005) ?rest4005
          case hy4005 => obtain ⟨t0, t1⟩ := box2e ((HMx.out.1.below hw').box _ (List.mem_cons_of_mem _ (List.mem_cons_of_mem _ (List.mem_cons_of_mem _ (List.mem_cons_self ..))))); have u0 := (hw'.cell (p := ⟨g, off + i * 3, none⟩) (World.block_lt_of_cell? _ _ n0)).trans n0; have u1 := (hw'.cell (p := ⟨g, off + i * 3 + 1, none⟩) (World.block_lt_of_cell? _ _ n1)).trans n1; have u2 := (hw'.cell (p := ⟨g, off + i * 3 + 2, none⟩) (World.block_lt_of_cell? _ _ n2)).trans n2; obtain ⟨l0, l1, l2⟩ := box3 ((HMx.out.1.below hw').box _ (List.mem_cons_of_mem _ (List.mem_cons_self ..))); obtain ⟨h0, h1, h2⟩ := box3 ((HMx.out.1.below hw').box _ (List.mem_cons_self ..)); go_simp <;> first | rfl | skip
          simp only [Act.put, List.setIfInBounds_toArray, List.set_cons_zero, List.set_cons_succ]
          refine' calm_call (by rfl) (.int .i64 c1) ?nx4006 (fun w' => ?hr4006) _ _ ?hn4006 (fun w' hw' => ?hc4006) ?rest4006
          case hr4006 => go_simp <;> rfl
          case hn4006 => rfl
          case hc4006 => exact (HC1.out w' (HMx.out.1.below hw') (HRTx.out.below hw')).mono (by rintro e w3 ⟨rfl, hb3⟩; exact ⟨rfl, below_chain hw' hb3⟩)
          simp only [Act.put, List.setIfInBounds_toArray, List.set_cons_zero, List.set_cons_succ]
          refine calm_take (by rfl) ?v4007 (fun w' hw' => ?hy4007) ?rest4007
          case hy4007 => obtain ⟨t0, t1⟩ := box2e ((HMx.out.1.below hw').box _ (List.mem_cons_of_mem _ (List.mem_cons_of_mem _ (List.mem_cons_of_mem _ (List.mem_cons_self ..))))); have u0 := (hw'.cell (p := ⟨g, off + i * 3, none⟩) (World.block_lt_of_cell? _ _ n0)).trans n0; have u1 := (hw'.cell (p := ⟨g, off + i * 3 + 1, none⟩) (World.block_lt_of_cell? _ _ n1)).trans n1; have u2 := (hw'.cell (p := ⟨g, off + i * 3 + 2, none⟩) (World.block_lt_of_cell? _ _ n2)).trans n2; obtain ⟨l0, l1, l2⟩ := box3 ((HMx.out.1.below hw').box _ (List.mem_cons_of_mem _ (List.mem_cons_self ..))); obtain ⟨h0, h1, h2⟩ := box3 ((HMx.out.1.below hw').box _ (List.mem_cons_self ..)); go_simp <;> first | rfl | skip
          simp only [Act.put, List.setIfInBounds_toArray, List.set_cons_zero, List.set_cons_succ]
          refine calm_take (by rfl) ?v4008 (fun w' hw' => ?hy4008) ?rest4008
          case hy4008 => go_simp <;> first | rfl | skip
          simp only [Act.put, List.setIfInBounds_toArray, List.set_cons_zero, List.set_cons_succ]
          refine calm_take (by rfl) ?v4009 (fun w' hw' => ?hy4009) ?rest4009
          case hy4009 => go_simp <;> first | rfl | skip
          simp only [Act.put, List.setIfInBounds_toArray, List.set_cons_zero, List.set_cons_succ]
          refine calm_take (by rfl) ?v4010 (fun w' hw' => ?hy4010) ?rest4010
          case hy4010 => go_simp <;> first | rfl | skip
          simp only [Act.put, List.setIfInBounds_toArray, List.set_cons_zero, List.set_cons_succ]
          refine calm_take (by rfl) ?v4011 (fun w' hw' => ?hy4011) ?rest4011
          case hy4011 => obtain ⟨t0, t1⟩ := box2e ((HMx.out.1.below hw').box _ (List.mem_cons_of_mem _ (List.mem_cons_of_mem _ (List.mem_cons_of_mem _ (List.mem_cons_self ..))))); have u0 := (hw'.cell (p := ⟨g, off + i * 3, none⟩) (World.block_lt_of_cell? _ _ n0)).trans n0; have u1 := (hw'.cell (p := ⟨g, off + i * 3 + 1, none⟩) (World.block_lt_of_cell? _ _ n1)).trans n1; have u2 := (hw'.cell (p := ⟨g, off + i * 3 + 2, none⟩) (World.block_lt_of_cell? _ _ n2)).trans n2; obtain ⟨l0, l1, l2⟩ := box3 ((HMx.out.1.below hw').box _ (List.mem_cons_of_mem _ (List.mem_cons_self ..))); obtain ⟨h0, h1, h2⟩ := box3 ((HMx.out.1.below hw').box _ (List.mem_cons_self ..)); go_simp <;> first | rfl | skip
          simp only [Act.put, List.setIfInBounds_toArray, List.set_cons_zero, List.set_cons_succ]
          refine calm_take (by rfl) ?v4012 (fun w' hw' => ?hy4012) ?rest4012
          case hy4012 => obtain ⟨t0, t1⟩ := box2e ((HMx.out.1.below hw').box _ (List.mem_cons_of_mem _ (List.mem_cons_of_mem _ (List.mem_cons_of_mem _ (List.mem_cons_self ..))))); have u0 := (hw'.cell (p := ⟨g, off + i * 3, none⟩) (World.block_lt_of_cell? _ _ n0)).trans n0; have u1 := (hw'.cell (p := ⟨g, off + i * 3 + 1, none⟩) (World.block_lt_of_cell? _ _ n1)).trans n1; have u2 := (hw'.cell (p := ⟨g, off + i * 3 + 2, none⟩) (World.block_lt_of_cell? _ _ n2)).trans n2; obtain ⟨l0, l1, l2⟩ := box3 ((HMx.out.1.below hw').box _ (List.mem_cons_of_mem _ (List.mem_cons_self ..))); obtain ⟨h0, h1, h2⟩ := box3 ((HMx.out.1.below hw').box _ (List.mem_cons_self ..)); go_simp <;> first | rfl | skip
          simp only [Act.put, List.setIfInBounds_toArray, List.set_cons_zero, List.set_cons_succ]
          refine' calm_call (by rfl) (.int .i64 c2) ?nx4013 (fun w' => ?hr4013) _ _ ?hn4013 (fun w' hw' => ?hc4013) ?rest4013
          case hr4013 => go_simp <;> rfl
          case hn4013 => rfl
          case hc4013 => exact (HC2.out w' (HMx.out.1.below hw') (HRTx.out.below hw')).mono (by rintro e w3 ⟨rfl, hb3⟩; exact ⟨rfl, below_chain hw' hb3⟩)
          simp only [Act.put, List.setIfInBounds_toArray, List.set_cons_zero, List.set_cons_succ]
          refine calm_take (by rfl) ?v4014 (fun w' hw' => ?hy4014) ?rest4014
          case hy4014 => go_simp <;> first | rfl | skip
          simp only [Act.put, List.setIfInBounds_toArray, List.set_cons_zero, List.set_cons_succ]
          refine calm_take (by rfl) ?v4015 (fun w' hw' => ?hy4015) ?rest4015
          case hy4015 => go_simp <;> first | rfl | skip
          simp only [Act.put, List.setIfInBounds_toArray, List.set_cons_zero, List.set_cons_succ]
          refine wpQuiet_nil (fun w' hw' => ?_)
          have HMy := Aside.mk (And.intro (HMx.out.1.below hw') (HMx.out.2.below hw'))
          have d1 : decide (c1 < 0) = false := decide_eq_false (by have := HCC.out.1; omega)
          have d2 : decide (c2 > 0) = false := decide_eq_false (by have := HCC.out.2; omega)
          have d3 : decide (0 < c2) = false := d2
          clear n0 n1 n2 HMx HRTx HC1 HC2
          rcases tri c1 ll with ⟨x1, x2, x3⟩ | ⟨x1, x2, x3⟩ | ⟨x1, x3⟩
          all_goals rcases tri c2 mm with ⟨y1, y2, y3⟩ | ⟨y1, y2, y3⟩ | ⟨y1, y3⟩
          all_goals
            rw [x3, y3] at HEN
            clear x3 y3
            go_wp2_with fail
            exact ⟨⟨i + 1, nn, no, _, _, by omega, rfl, rfl, rfl, rfl, by simp, HEN, HMy⟩, by simp [intOf]; omega⟩
    · obtain rfl : i = v.length := by omega
      obtain ⟨e1, e2, e3, e4⟩ := HE.out
      rw [List.take_length] at e1 e2
      have n1 : ((z.nulls : Int) != (nn : Int)) = false := by rw [HED.out.nulls, e1]; simp
      have n2 : ((z.odd : Int) != (no : Int)) = false := by rw [HED.out.odd, e2]; simp
      have n3 : z.has = decide ((nn : Int) + (no : Int) < (v.length : Int)) := by rw [HED.out.has, e1, e2]; exact decide_eq_decide.2 (by omega)
      have HE34 := Aside.mk (And.intro e3 e4)
      clear e1 e2 e3 e4 HE
      obtain ⟨z0, z1, z2, z3, z4, z5, z6, z7, z8, z9⟩ := box10 (HM.out.1.box _ (List.mem_cons_of_mem _ (List.mem_cons_of_mem _ (List.mem_cons_self ..))))
      cases hzh : z.has with
      | false =>
        rw [hzh] at z5 n3
        have n3' := n3.symm
        obtain ⟨p1, p2, p3, p4, _⟩ := HED.out.none hzh
        have g1 : ((z.least : Int) == 0) = true := by rw [p1]; rfl
        have g2 : ((z.most : Int) == 0) = true := by rw [p2]; rfl
        have g3 : ((z.first.length : Int) == 0) = true := by rw [p3]; rfl
        have g4 : ((z.last.length : Int) == 0) = true := by rw [p4]; rfl
        clear n3 p1 p2 p3 p4 hzh
        go_wp2_with fail
        go_ret
        exact ⟨rfl, HM.out.1.bel⟩
      | true =>
        rw [hzh] at z5 n3
        have n3' := n3.symm
        obtain ⟨m1, a1, a2, a3, a4, a5⟩ := HED.out.least hzh
        obtain ⟨m2, b1, b2, b3, b4, b5⟩ := HED.out.most hzh
        obtain ⟨hpl, hph⟩ := HZK.out.1 hzh
        have HB1 := Aside.mk (plain_bytes hpl)
        have HB2 := Aside.mk (plain_bytes hph)
        have k1 := edgeAt_at a2 (by rw [← cmpV_self k (zLow z)]; exact cmpV_lb (show (v.getD m1 ⟨true, 0, []⟩).bits = (zLow z).bits from a3.symm) (show (v.getD m1 ⟨true, 0, []⟩).text = (zLow z).text from a4.symm)) a5 v.length
        have k2 := edgeAt_at b2 (by rw [← cmpV_self k (zHigh z)]; exact cmpV_lb (show (v.getD m2 ⟨true, 0, []⟩).bits = (zHigh z).bits from b3.symm) (show (v.getD m2 ⟨true, 0, []⟩).text = (zHigh z).text from b4.symm)) b5 v.length
        rw [if_neg (by omega)] at k1 k2
        obtain rfl : ll = (m1 : Int) := HE34.out.1.trans k1
        obtain rfl : mm = (m2 : Int) := HE34.out.2.trans k2
        obtain ⟨g, off, ta, tc, x1, x2, x3, u1, u2, ut⟩ := HM.out.2.getD a1 a3 a4
        obtain ⟨g', off', ta', tc', y1, y2, y3, w1', w2', wt'⟩ := HM.out.2.getD b1 b3 b4
        subst x1
        simp only [Option.some.injEq, Addr.mk.injEq, and_true] at y1
        obtain ⟨rfl, rfl⟩ := y1
        have HSA := Aside.mk (fun W (hM : MI w W [(w8.heap.size + 1, .cells #[.bool false, .int .u64 (z.most : Int), .slice L.a z.last.length L.c] 50 (0, 0)), (w8.heap.size, .cells #[.bool false, .int .u64 (z.least : Int), .slice F.a z.first.length F.c] 50 (0, 0)), (w5.heap.size, .cells #[.int .i64 k, .int .i64 s, .int .i64 (z.n : Int), .int .i64 (z.nulls : Int), .int .i64 (z.odd : Int), .bool z.has, .int .u64 (z.least : Int), .int .u64 (z.most : Int), .slice F.a z.first.length F.c, .slice L.a z.last.length L.c] 79 (0, 0)), (w1.heap.size, .cells #[.int .i64 k, .int .i64 s] 23 (0, 0))] [(L, z.last), (F, z.first)]) (hr : RdT W z.first ⟨ta, tc⟩) => same_self z.first HB1.out F ⟨ta, tc⟩ W (hM.rd _ (List.mem_cons_of_mem _ (List.mem_cons_self ..))) hr)
        have HSB := Aside.mk (fun W (hM : MI w W [(w8.heap.size + 1, .cells #[.bool false, .int .u64 (z.most : Int), .slice L.a z.last.length L.c] 50 (0, 0)), (w8.heap.size, .cells #[.bool false, .int .u64 (z.least : Int), .slice F.a z.first.length F.c] 50 (0, 0)), (w5.heap.size, .cells #[.int .i64 k, .int .i64 s, .int .i64 (z.n : Int), .int .i64 (z.nulls : Int), .int .i64 (z.odd : Int), .bool z.has, .int .u64 (z.least : Int), .int .u64 (z.most : Int), .slice F.a z.first.length F.c, .slice L.a z.last.length L.c] 79 (0, 0)), (w1.heap.size, .cells #[.int .i64 k, .int .i64 s] 23 (0, 0))] [(L, z.last), (F, z.first)]) (hr : RdT W z.last ⟨ta', tc'⟩) => same_self z.last HB2.out L ⟨ta', tc'⟩ W (hM.rd _ (List.mem_cons_self ..)) hr)
        have HUT := Aside.mk (And.intro ut wt')
        clear n3 hzh a2 a3 a4 a5 b2 b3 b4 b5 hpl hph k1 k2 ut wt' HE34 x2 y2 y3
        go_upto_region 28 with fail
        refine wp_region_calm (by kernel_rfl) (by kernel_rfl) ?_
        refine calm_take (by rfl) ?v1000 (fun w' hw' => ?hy1000) ?rest1000
        case hy1000 => go_simp <;> first | rfl | skip
        simp only [Act.put, List.setIfInBounds_toArray, List.set_cons_zero, List.set_cons_succ]
        refine calm_take (by rfl) ?v1001 (fun w' hw' => ?hy1001) ?rest1001
        case hy1001 => obtain ⟨z0, z1, z2, z3, z4, z5, z6, z7, z8, z9⟩ := box10 ((HM.out.1.below hw').box _ (List.mem_cons_of_mem _ (List.mem_cons_of_mem _ (List.mem_cons_self ..)))); have p1 := (hw'.cell (p := ⟨g, off + m1 * 3 + 1, none⟩) (World.block_lt_of_cell? _ _ u1)).trans u1; have p2 := (hw'.cell (p := ⟨g, off + m1 * 3 + 2, none⟩) (World.block_lt_of_cell? _ _ u2)).trans u2; have p3 := (hw'.cell (p := ⟨g, off + m2 * 3 + 1, none⟩) (World.block_lt_of_cell? _ _ w1')).trans w1'; have p4 := (hw'.cell (p := ⟨g, off + m2 * 3 + 2, none⟩) (World.block_lt_of_cell? _ _ w2')).trans w2'; go_simp <;> first | rfl | skip
        simp only [Act.put, List.setIfInBounds_toArray, List.set_cons_zero, List.set_cons_succ]
        refine calm_take (by rfl) ?v1002 (fun w' hw' => ?hy1002) ?rest1002
        case hy1002 => go_simp <;> first | rfl | skip
        simp only [Act.put, List.setIfInBounds_toArray, List.set_cons_zero, List.set_cons_succ]
        refine calm_take (by rfl) ?v1003 (fun w' hw' => ?hy1003) ?rest1003
        case hy1003 => go_simp <;> first | rfl | skip
        simp only [Act.put, List.setIfInBounds_toArray, List.set_cons_zero, List.set_cons_succ]
        refine calm_take (by rfl) ?v1004 (fun w' hw' => ?hy1004) ?rest1004
        case hy1004 => go_simp <;> first | rfl | skip
        simp only [Act.put, List.setIfInBounds_toArray, List.set_cons_zero, List.set_cons_succ]
        refine calm_take (by rfl) ?v1005 (fun w' hw' => ?hy1005) ?rest1005
        case hy1005 => go_simp <;> first | rfl | skip
        simp only [Act.put, List.setIfInBounds_toArray, List.set_cons_zero, List.set_cons_succ]
        refine calm_take (by rfl) ?v1006 (fun w' hw' => ?hy1006) ?rest1006
        case hy1006 => obtain ⟨z0, z1, z2, z3, z4, z5, z6, z7, z8, z9⟩ := box10 ((HM.out.1.below hw').box _ (List.mem_cons_of_mem _ (List.mem_cons_of_mem _ (List.mem_cons_self ..)))); have p1 := (hw'.cell (p := ⟨g, off + m1 * 3 + 1, none⟩) (World.block_lt_of_cell? _ _ u1)).trans u1; have p2 := (hw'.cell (p := ⟨g, off + m1 * 3 + 2, none⟩) (World.block_lt_of_cell? _ _ u2)).trans u2; have p3 := (hw'.cell (p := ⟨g, off + m2 * 3 + 1, none⟩) (World.block_lt_of_cell? _ _ w1')).trans w1'; have p4 := (hw'.cell (p := ⟨g, off + m2 * 3 + 2, none⟩) (World.block_lt_of_cell? _ _ w2')).trans w2'; go_simp <;> first | rfl | skip
        simp only [Act.put, List.setIfInBounds_toArray, List.set_cons_zero, List.set_cons_succ]
        refine calm_take (by rfl) ?v1007 (fun w' hw' => ?hy1007) ?rest1007
        case hy1007 => go_simp <;> first | rfl | skip
        simp only [Act.put, List.setIfInBounds_toArray, List.set_cons_zero, List.set_cons_succ]
        refine calm_take (by rfl) ?v1008 (fun w' hw' => ?hy1008) ?rest1008
        case hy1008 => go_simp <;> first | rfl | skip
        simp only [Act.put, List.setIfInBounds_toArray, List.set_cons_zero, List.set_cons_succ]
        refine calm_take (by rfl) ?v1009 (fun w' hw' => ?hy1009) ?rest1009
        case hy1009 => go_simp <;> first | rfl | skip
        simp only [Act.put, List.setIfInBounds_toArray, List.set_cons_zero, List.set_cons_succ]
        refine calm_take (by rfl) ?v1010 (fun w' hw' => ?hy1010) ?rest1010
        case hy1010 => obtain ⟨z0, z1, z2, z3, z4, z5, z6, z7, z8, z9⟩ := box10 ((HM.out.1.below hw').box _ (List.mem_cons_of_mem _ (List.mem_cons_of_mem _ (List.mem_cons_self ..)))); have p1 := (hw'.cell (p := ⟨g, off + m1 * 3 + 1, none⟩) (World.block_lt_of_cell? _ _ u1)).trans u1; have p2 := (hw'.cell (p := ⟨g, off + m1 * 3 + 2, none⟩) (World.block_lt_of_cell? _ _ u2)).trans u2; have p3 := (hw'.cell (p := ⟨g, off + m2 * 3 + 1, none⟩) (World.block_lt_of_cell? _ _ w1')).trans w1'; have p4 := (hw'.cell (p := ⟨g, off + m2 * 3 + 2, none⟩) (World.block_lt_of_cell? _ _ w2')).trans w2'; go_simp <;> first | rfl | skip
        simp only [Act.put, List.setIfInBounds_toArray, List.set_cons_zero, List.set_cons_succ]
        refine calm_take (by rfl) ?v1011 (fun w' hw' => ?hy1011) ?rest1011
        case hy1011 => go_simp <;> first | rfl | skip
        simp only [Act.put, List.setIfInBounds_toArray, List.set_cons_zero, List.set_cons_succ]
        refine calm_take (by rfl) ?v1012 (fun w' hw' => ?hy1012) ?rest1012
        case hy1012 => go_simp <;> first | rfl | skip
        simp only [Act.put, List.setIfInBounds_toArray, List.set_cons_zero, List.set_cons_succ]
        refine calm_take (by rfl) ?v1013 (fun w' hw' => ?hy1013) ?rest1013
        case hy1013 => go_simp <;> first | rfl | skip
        simp only [Act.put, List.setIfInBounds_toArray, List.set_cons_zero, List.set_cons_succ]
        refine calm_take (by rfl) ?v1014 (fun w' hw' => ?hy1014) ?rest1014
        case hy1014 => go_simp <;> first | rfl | skip
        simp only [Act.put, List.setIfInBounds_toArray, List.set_cons_zero, List.set_cons_succ]
        refine calm_take (by rfl) ?v1015 (fun w' hw' => ?hy1015) ?rest1015
        case hy1015 => obtain ⟨z0, z1, z2, z3, z4, z5, z6, z7, z8, z9⟩ := box10 ((HM.out.1.below hw').box _ (List.mem_cons_of_mem _ (List.mem_cons_of_mem _ (List.mem_cons_self ..)))); have p1 := (hw'.cell (p := ⟨g, off + m1 * 3 + 1, none⟩) (World.block_lt_of_cell? _ _ u1)).trans u1; have p2 := (hw'.cell (p := ⟨g, off + m1 * 3 + 2, none⟩) (World.block_lt_of_cell? _ _ u2)).trans u2; have p3 := (hw'.cell (p := ⟨g, off + m2 * 3 + 1, none⟩) (World.block_lt_of_cell? _ _ w1')).trans w1'; have p4 := (hw'.cell (p := ⟨g, off + m2 * 3 + 2, none⟩) (World.block_lt_of_cell? _ _ w2')).trans w2'; go_simp <;> first | rfl | skip
        simp only [Act.put, List.setIfInBounds_toArray, List.set_cons_zero, List.set_cons_succ]
        refine calm_take (by rfl) ?v1016 (fun w' hw' => ?hy1016) ?rest1016
        case hy1016 => go_simp <;> first | rfl | skip
        simp only [Act.put, List.setIfInBounds_toArray, List.set_cons_zero, List.set_cons_succ]
        refine calm_take (by rfl) ?v1017 (fun w' hw' => ?hy1017) ?rest1017
        case hy1017 => go_simp <;> first | rfl | skip
        simp only [Act.put, List.setIfInBounds_toArray, List.set_cons_zero, List.set_cons_succ]
        refine calm_take (by rfl) ?v1018 (fun w' hw' => ?hy1018) ?rest1018
        case hy1018 => go_simp <;> first | rfl | skip
        simp only [Act.put, List.setIfInBounds_toArray, List.set_cons_zero, List.set_cons_succ]
        refine calm_take (by rfl) ?v1019 (fun w' hw' => ?hy1019) ?rest1019
        case hy1019 => go_simp <;> first | rfl | skip
        simp only [Act.put, List.setIfInBounds_toArray, List.set_cons_zero, List.set_cons_succ]
        refine calm_take (by rfl) ?v1020 (fun w' hw' => ?hy1020) ?rest1020
        case hy1020 => obtain ⟨z0, z1, z2, z3, z4, z5, z6, z7, z8, z9⟩ := box10 ((HM.out.1.below hw').box _ (List.mem_cons_of_mem _ (List.mem_cons_of_mem _ (List.mem_cons_self ..)))); have p1 := (hw'.cell (p := ⟨g, off + m1 * 3 + 1, none⟩) (World.block_lt_of_cell? _ _ u1)).trans u1; have p2 := (hw'.cell (p := ⟨g, off + m1 * 3 + 2, none⟩) (World.block_lt_of_cell? _ _ u2)).trans u2; have p3 := (hw'.cell (p := ⟨g, off + m2 * 3 + 1, none⟩) (World.block_lt_of_cell? _ _ w1')).trans w1'; have p4 := (hw'.cell (p := ⟨g, off + m2 * 3 + 2, none⟩) (World.block_lt_of_cell? _ _ w2')).trans w2'; go_simp <;> first | rfl | skip
        simp only [Act.put, List.setIfInBounds_toArray, List.set_cons_zero, List.set_cons_succ]
        refine calm_take (by rfl) ?v1021 (fun w' hw' => ?hy1021) ?rest1021
        case hy1021 => go_simp <;> first | rfl | skip
        simp only [Act.put, List.setIfInBounds_toArray, List.set_cons_zero, List.set_cons_succ]
        refine calm_take (by rfl) ?v1022 (fun w' hw' => ?hy1022) ?rest1022
        case hy1022 => go_simp <;> first | rfl | skip
        simp only [Act.put, List.setIfInBounds_toArray, List.set_cons_zero, List.set_cons_succ]
        refine calm_take (by rfl) ?v1023 (fun w' hw' => ?hy1023) ?rest1023
        case hy1023 => go_simp <;> first | rfl | skip
        simp only [Act.put, List.setIfInBounds_toArray, List.set_cons_zero, List.set_cons_succ]
        refine calm_take (by rfl) ?v1024 (fun w' hw' => ?hy1024) ?rest1024
        case hy1024 => go_simp <;> first | rfl | skip
        simp only [Act.put, List.setIfInBounds_toArray, List.set_cons_zero, List.set_cons_succ]
        refine calm_take (by rfl) ?v1025 (fun w' hw' => ?hy1025) ?rest1025
        case hy1025 => obtain ⟨z0, z1, z2, z3, z4, z5, z6, z7, z8, z9⟩ := box10 ((HM.out.1.below hw').box _ (List.mem_cons_of_mem _ (List.mem_cons_of_mem _ (List.mem_cons_self ..)))); have p1 := (hw'.cell (p := ⟨g, off + m1 * 3 + 1, none⟩) (World.block_lt_of_cell? _ _ u1)).trans u1; have p2 := (hw'.cell (p := ⟨g, off + m1 * 3 + 2, none⟩) (World.block_lt_of_cell? _ _ u2)).trans u2; have p3 := (hw'.cell (p := ⟨g, off + m2 * 3 + 1, none⟩) (World.block_lt_of_cell? _ _ w1')).trans w1'; have p4 := (hw'.cell (p := ⟨g, off + m2 * 3 + 2, none⟩) (World.block_lt_of_cell? _ _ w2')).trans w2'; go_simp <;> first | rfl | skip
        simp only [Act.put, List.setIfInBounds_toArray, List.set_cons_zero, List.set_cons_succ]
        refine' calm_call (by rfl) (.bool true) ?nx1026 (fun w' => ?hr1026) _ _ ?hn1026 (fun w' hw' => ?hc1026) ?rest1026
        case hr1026 => go_simp <;> rfl
        case hn1026 => rfl
        case hc1026 => exact (HSA.out w' (HM.out.1.below hw') (HUT.out.1.below hw')).mono (by rintro e w3 ⟨rfl, hb3⟩; exact ⟨rfl, below_chain hw' hb3⟩)
        simp only [Act.put, List.setIfInBounds_toArray, List.set_cons_zero, List.set_cons_succ]
        refine calm_take (by rfl) ?v1027 (fun w' hw' => ?hy1027) ?rest1027
        case hy1027 => go_simp <;> first | rfl | skip
        simp only [Act.put, List.setIfInBounds_toArray, List.set_cons_zero, List.set_cons_succ]
        refine calm_take (by rfl) ?v1028 (fun w' hw' => ?hy1028) ?rest1028
        case hy1028 => go_simp <;> first | rfl | skip
        simp only [Act.put, List.setIfInBounds_toArray, List.set_cons_zero, List.set_cons_succ]
        refine calm_take (by rfl) ?v1029 (fun w' hw' => ?hy1029) ?rest1029
        case hy1029 => go_simp <;> first | rfl | skip
        simp only [Act.put, List.setIfInBounds_toArray, List.set_cons_zero, List.set_cons_succ]
        refine calm_take (by rfl) ?v1030 (fun w' hw' => ?hy1030) ?rest1030
        case hy1030 => obtain ⟨z0, z1, z2, z3, z4, z5, z6, z7, z8, z9⟩ := box10 ((HM.out.1.below hw').box _ (List.mem_cons_of_mem _ (List.mem_cons_of_mem _ (List.mem_cons_self ..)))); have p1 := (hw'.cell (p := ⟨g, off + m1 * 3 + 1, none⟩) (World.block_lt_of_cell? _ _ u1)).trans u1; have p2 := (hw'.cell (p := ⟨g, off + m1 * 3 + 2, none⟩) (World.block_lt_of_cell? _ _ u2)).trans u2; have p3 := (hw'.cell (p := ⟨g, off + m2 * 3 + 1, none⟩) (World.block_lt_of_cell? _ _ w1')).trans w1'; have p4 := (hw'.cell (p := ⟨g, off + m2 * 3 + 2, none⟩) (World.block_lt_of_cell? _ _ w2')).trans w2'; go_simp <;> first | rfl | skip
        simp only [Act.put, List.setIfInBounds_toArray, List.set_cons_zero, List.set_cons_succ]
        refine calm_take (by rfl) ?v1031 (fun w' hw' => ?hy1031) ?rest1031
        case hy1031 => go_simp <;> first | rfl | skip
        simp only [Act.put, List.setIfInBounds_toArray, List.set_cons_zero, List.set_cons_succ]
        refine calm_take (by rfl) ?v1032 (fun w' hw' => ?hy1032) ?rest1032
        case hy1032 => go_simp <;> first | rfl | skip
        simp only [Act.put, List.setIfInBounds_toArray, List.set_cons_zero, List.set_cons_succ]
        refine calm_take (by rfl) ?v1033 (fun w' hw' => ?hy1033) ?rest1033
        case hy1033 => go_simp <;> first | rfl | skip
        simp only [Act.put, List.setIfInBounds_toArray, List.set_cons_zero, List.set_cons_succ]
        refine calm_take (by rfl) ?v1034 (fun w' hw' => ?hy1034) ?rest1034
        case hy1034 => go_simp <;> first | rfl | skip
        simp only [Act.put, List.setIfInBounds_toArray, List.set_cons_zero, List.set_cons_succ]
        refine calm_take (by rfl) ?v1035 (fun w' hw' => ?hy1035) ?rest1035
        case hy1035 => obtain ⟨z0, z1, z2, z3, z4, z5, z6, z7, z8, z9⟩ := box10 ((HM.out.1.below hw').box _ (List.mem_cons_of_mem _ (List.mem_cons_of_mem _ (List.mem_cons_self ..)))); have p1 := (hw'.cell (p := ⟨g, off + m1 * 3 + 1, none⟩) (World.block_lt_of_cell? _ _ u1)).trans u1; have p2 := (hw'.cell (p := ⟨g, off + m1 * 3 + 2, none⟩) (World.block_lt_of_cell? _ _ u2)).trans u2; have p3 := (hw'.cell (p := ⟨g, off + m2 * 3 + 1, none⟩) (World.block_lt_of_cell? _ _ w1')).trans w1'; have p4 := (hw'.cell (p := ⟨g, off + m2 * 3 + 2, none⟩) (World.block_lt_of_cell? _ _ w2')).trans w2'; go_simp <;> first | rfl | skip
        simp only [Act.put, List.setIfInBounds_toArray, List.set_cons_zero, List.set_cons_succ]
        refine' calm_call (by rfl) (.bool true) ?nx1036 (fun w' => ?hr1036) _ _ ?hn1036 (fun w' hw' => ?hc1036) ?rest1036
        case hr1036 => go_simp <;> rfl
        case hn1036 => rfl
        case hc1036 => exact (HSB.out w' (HM.out.1.below hw') (HUT.out.2.below hw')).mono (by rintro e w3 ⟨rfl, hb3⟩; exact ⟨rfl, below_chain hw' hb3⟩)
        simp only [Act.put, List.setIfInBounds_toArray, List.set_cons_zero, List.set_cons_succ]
        refine calm_take (by rfl) ?v1037 (fun w' hw' => ?hy1037) ?rest1037
        case hy1037 => go_simp <;> first | rfl | skip
        simp only [Act.put, List.setIfInBounds_toArray, List.set_cons_zero, List.set_cons_succ]
        refine calm_take (by rfl) ?v1038 (fun w' hw' => ?hy1038) ?rest1038
        case hy1038 => go_simp <;> first | rfl | skip
        simp only [Act.put, List.setIfInBounds_toArray, List.set_cons_zero, List.set_cons_succ]
        refine wpQuiet_nil (fun w' hw' => ?_)
        go_wp2_with fail
        go_ret
        exact ⟨rfl, (HM.out.1.below hw').bel⟩
end Go.Proofs.YtmhjjhaipcgbiaaGreat
