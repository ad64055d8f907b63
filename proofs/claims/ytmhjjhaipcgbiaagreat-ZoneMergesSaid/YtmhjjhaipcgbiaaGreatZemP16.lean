/- Texts of this claim, one behind the other: CheckA, Val, ValR. -/
import Derived.Test.YtmhjjhaipcgbiaaGreatZemP15

namespace Go.Proofs.YtmhjjhaipcgbiaaGreat
open Go.RowKit
set_option linter.unusedVariables false
set_option linter.unusedSimpArgs false
set_option maxRecDepth 100000
set_option maxHeartbeats 1000000
theorem width_eight {k s : Int} (h : okType k s = true) (h1 : k ≠ 15) : ∃ W : Nat, widthOf k = (W : Int) ∧ (W = 1 ∨ W = 2 ∨ W = 4 ∨ W = 8) := by
  unfold okType at h
  simp only [decide_eq_true_eq] at h
  unfold widthOf
  split
  · exact ⟨1, rfl, by omega⟩
  split
  · exact ⟨2, rfl, by omega⟩
  split
  · exact ⟨4, rfl, by omega⟩
  split
  · exact ⟨8, rfl, by omega⟩
  · omega
theorem check_any (c : Col) (hc : COK c) (B D E X : SL) (vals : List Value) (w : World) (h : RdC w c B D E X vals) : Calls Tryz.prog 82 #[colV c B D E X] w (IntP (checkC c) w) := by
  cases ho : okType c.k c.s with
  | false => exact check_no c ho B D E X w
  | true =>
    by_cases h15 : c.k = 15
    · exact check_r c h15 ho hc B D E X vals w h
    by_cases h16 : c.k = 16
    · exact check_c c h16 ho hc B D E X vals w h
    obtain ⟨W, hW, hW8⟩ := width_eight ho h15
    exact check_f c h15 h16 hW hW8 ho hc B D E X vals w h
theorem check_zero {c : Col} (h : checkC c = 0) : okType c.k c.s = true ∧ maskOK c.m c.bits = true ∧ c.m = c.n ∧ mayB c = true := by
  unfold checkC at h
  split at h
  · cases h
  · rename_i h1
    split at h
    · rename_i h2
      simp only [Bool.and_eq_true, beq_iff_eq] at h2
      exact ⟨by simpa using h1, h2.1.1, h2.1.2, h2.2⟩
    · cases h
theorem check_bits {c : Col} (h : checkC c = 0) {i : Nat} (hi : (i : Int) < c.n) : i / 8 < c.bits.length := by
  obtain ⟨_, h2, h3, _⟩ := check_zero h
  have := mask_room h2
  omega
theorem check_room {c : Col} (h : checkC c = 0) (h1 : c.k ≠ 15) (h2 : c.k ≠ 16) {W : Nat} (hW : widthOf c.k = (W : Int)) {i : Nat} (hi : (i : Int) < c.n) : i * W + W ≤ c.data.length := by
  obtain ⟨_, _, _, h4⟩ := check_zero h
  unfold mayB at h4
  rw [if_neg h1, if_neg h2, hW, Int.toNat_natCast, mayFixed_eq] at h4
  simp only [Bool.and_eq_true] at h4
  exact sized_room h4.1.1 i (by omega)
theorem coded_facts {c : Col} (h : checkC c = 0) (h2 : c.k = 16) : sizedB 4 c = true ∧ codedRun c c.n.toNat = some c.words.length := by
  obtain ⟨_, _, _, h4⟩ := check_zero h
  unfold mayB at h4
  rw [if_neg (by omega), if_pos h2] at h4
  unfold mayCoded at h4
  simp only [Bool.and_eq_true, beq_iff_eq] at h4
  exact ⟨h4.1.1, h4.2⟩
theorem codedRun_le {c : Col} : ∀ (n i : Nat) {a b : Nat}, i ≤ n → codedRun c i = some a → codedRun c n = some b → a ≤ b
  | 0, i, a, b, hi, h1, h2 => by
    obtain rfl : i = 0 := by omega
    rw [h1] at h2; cases h2; exact Nat.le_refl _
  | n + 1, i, a, b, hi, h1, h2 => by
    by_cases e : i = n + 1
    · subst e; rw [h1] at h2; cases h2; exact Nat.le_refl _
    · rw [codedRun] at h2
      cases h3 : codedRun c n with
      | none => rw [h3] at h2; cases h2
      | some m =>
        rw [h3, Option.bind_some] at h2
        refine Nat.le_trans (codedRun_le n i (by omega) h1 h3) ?_
        unfold codedStep at h2
        dsimp only at h2
        split at h2
        · cases h2
        split at h2 <;> (cases h2; omega)
theorem codedRun_pre {c : Col} : ∀ (n i : Nat) {b : Nat}, i ≤ n → codedRun c n = some b → ∃ a, codedRun c i = some a
  | 0, i, b, hi, h => by obtain rfl : i = 0 := by omega
                         exact ⟨_, h⟩
  | n + 1, i, b, hi, h => by
    by_cases e : i = n + 1
    · subst e; exact ⟨_, h⟩
    · rw [codedRun] at h
      cases h3 : codedRun c n with
      | none => rw [h3] at h; cases h
      | some m => exact codedRun_pre n i (by omega) h3
theorem check_code {c : Col} (h : checkC c = 0) (h2 : c.k = 16) {i : Nat} (hi : (i : Int) < c.n) (hn : nullB c.bits i = false) : wordAt c.data (i * 4) 4 < c.words.length := by
  obtain ⟨_, hr⟩ := coded_facts h h2
  obtain ⟨a, ha⟩ := codedRun_pre c.n.toNat (i + 1) (by omega) hr
  have hle := codedRun_le c.n.toNat (i + 1) (by omega) ha hr
  obtain ⟨m, hm⟩ := codedRun_pre (i + 1) i (by omega) ha
  rw [codedRun, hm, Option.bind_some] at ha
  unfold codedStep at ha
  rw [hn] at ha
  simp only [Bool.false_and, Bool.false_or, Bool.not_false, Bool.true_and] at ha
  split at ha
  · cases ha
  · rename_i h5
    simp at h5
    split at ha
    · rename_i h6
      simp at h6
      cases ha; omega
    · rename_i h6
      simp at h6
      cases ha; omega
theorem running_facts {c : Col} (h : checkC c = 0) (h2 : c.k = 15) : (c.ends.length : Int) = c.n ∧ (∀ i, i < c.ends.length → okR c i = true) := by
  obtain ⟨_, _, _, h4⟩ := check_zero h
  unfold mayB at h4
  rw [if_pos h2, mayRunning_eq] at h4
  simp only [Bool.and_eq_true, beq_iff_eq, List.all_eq_true] at h4
  exact ⟨h4.1.1.1, fun i hi => h4.1.2 i (List.mem_range.2 hi)⟩
theorem check_ends {c : Col} (h : checkC c = 0) (h2 : c.k = 15) : ∀ i, i < c.ends.length → ∃ f t : Nat, aheadI c.ends i = (f : Int) ∧ c.ends.getD i 0 = (t : Int) ∧ f ≤ t ∧ t ≤ c.data.length := by
  obtain ⟨_, hr⟩ := running_facts h h2
  have step : ∀ i, i < c.ends.length → 0 ≤ aheadI c.ends i → ∃ f t : Nat, aheadI c.ends i = (f : Int) ∧ c.ends.getD i 0 = (t : Int) ∧ f ≤ t ∧ t ≤ c.data.length := fun i hi h0 => by
    have := hr i hi
    unfold okR at this
    simp only [Bool.not_eq_true', Bool.or_eq_false_iff, decide_eq_false_iff_not] at this
    obtain ⟨⟨h5, h6⟩, _⟩ := this
    exact ⟨(aheadI c.ends i).toNat, (c.ends.getD i 0).toNat, by omega, by omega, by omega, by omega⟩
  intro i
  induction i with
  | zero => intro hi; exact step 0 hi (by simp [aheadI])
  | succ i ih =>
    intro hi
    obtain ⟨f, t, _, e2, _, _⟩ := ih (by omega)
    exact step (i + 1) hi (by rw [aheadI, if_neg (by omega), Nat.add_sub_cancel, e2]; omega)
end Go.Proofs.YtmhjjhaipcgbiaaGreat


namespace Go.Proofs.YtmhjjhaipcgbiaaGreat
open Go.RowKit
set_option linter.unusedVariables false
set_option linter.unusedSimpArgs false
set_option maxRecDepth 100000
set_option maxHeartbeats 2000000
def ValP (b : Nat) (tx : List Int) (w : World) (e : Ending) (w' : World) : Prop :=
  ∃ a cap, e = .returned (.agg #[.int .u64 (b : Int), .slice a tx.length cap, .bool false]) ∧ Own w' w.heap.size 5 1 (.slice a tx.length cap) tx.length (tx.map (.int .u8)) ∧ Below w.heap.size w w'
theorem three_new (w : World) (x1 x2 x3 : Array Value) (t1 t2 t3 : TypeId) :
    Below w.heap.size w (((w.alloc (.cells x1 t1)).alloc (.cells x2 t2)).alloc (.cells x3 t3)) ∧
    (((w.alloc (.cells x1 t1)).alloc (.cells x2 t2)).alloc (.cells x3 t3)).heap[w.heap.size]? = some (.cells x1 t1 (0, 0)) ∧
    (((w.alloc (.cells x1 t1)).alloc (.cells x2 t2)).alloc (.cells x3 t3)).heap[w.heap.size + 1]? = some (.cells x2 t2 (0, 0)) ∧
    (((w.alloc (.cells x1 t1)).alloc (.cells x2 t2)).alloc (.cells x3 t3)).heap[w.heap.size + 1 + 1]? = some (.cells x3 t3 (0, 0)) ∧
    (((w.alloc (.cells x1 t1)).alloc (.cells x2 t2)).alloc (.cells x3 t3)).heap.size = w.heap.size + 3 := by
  refine ⟨(((Below.refl _ _).alloc (Nat.le_refl _) _).alloc (by simp) _).alloc (by simp; omega) _, ?_, ?_, ?_, by simp⟩
  · rw [Below.heap_alloc _ _ _ (by simp; omega), Below.heap_alloc _ _ _ (by simp)]; exact heap_alloc_new _ _
  · rw [Below.heap_alloc _ _ _ (by simp)]
    simpa using heap_alloc_new (w.alloc (.cells x1 t1)) (.cells x2 t2)
  · simpa using heap_alloc_new ((w.alloc (.cells x1 t1)).alloc (.cells x2 t2)) (.cells x3 t3)
theorem rd_cut {w : World} {g off n cap i j : Nat} {xs : List Value} (h : Rd w 1 (.slice (some ⟨g, off, none⟩) n cap) n xs) (hij : i ≤ j) (hj : j ≤ n) : Rd w 1 (.slice (some ⟨g, off + i, none⟩) (j - i) (cap - i)) (j - i) ((xs.drop i).take (j - i)) := by
  obtain ⟨hl, a, cap', e, h1, h2, h3, h4⟩ := h
  simp only [Value.slice.injEq, true_and] at e
  obtain ⟨rfl, rfl⟩ := e
  refine ⟨by rw [List.length_take, List.length_drop, hl]; omega, _, _, rfl, by omega, by omega, (fun e => by cases e), fun k u hu => ?_⟩
  have hk := (List.getElem?_eq_some_iff.1 hu).1
  rw [List.length_take, List.length_drop, hl] at hk
  rw [List.getElem?_take, if_pos (by omega), List.getElem?_drop] at hu
  obtain ⟨b, o, e, hc⟩ := h4 (i + k) u hu
  simp only [Option.some.injEq, Addr.mk.injEq, and_true] at e
  obtain ⟨rfl, rfl⟩ := e
  exact ⟨_, _, rfl, by rw [Nat.add_assoc]; exact hc⟩
theorem val_below {w w3 w4 : World} {x1 x2 x3 : Value} (b3 : Below w.heap.size w w3) (b4 : Below w3.heap.size w3 w4) : Below w.heap.size w (((w4.setCell ⟨w.heap.size + 1 + 1, 0, none⟩ x1).setCell ⟨w.heap.size + 1 + 1, 1, none⟩ x2).setCell ⟨w.heap.size + 1 + 1, 2, none⟩ x3) :=
  (((b3.trans (b4.mono b3.size)).setCell (by simp; omega) _).setCell (by simp; omega) _).setCell (by simp; omega) _
theorem val_own {w w3 w4 : World} {x1 x2 x3 v : Value} {n : Nat} {xs : List Value} (hs : w3.heap.size = w.heap.size + 3) (h : Own w4 w3.heap.size 5 1 v n xs) : Own (((w4.setCell ⟨w.heap.size + 1 + 1, 0, none⟩ x1).setCell ⟨w.heap.size + 1 + 1, 1, none⟩ x2).setCell ⟨w.heap.size + 1 + 1, 2, none⟩ x3) w.heap.size 5 1 v n xs := by
  have hne : v.ownBlock ≠ some (w.heap.size + 1 + 1) := fun e => by have := (h.lt _ e).1; omega
  exact (((h.set_other (a := ⟨w.heap.size + 1 + 1, 0, none⟩) hne _).set_other (a := ⟨w.heap.size + 1 + 1, 1, none⟩) hne _).set_other (a := ⟨w.heap.size + 1 + 1, 2, none⟩) hne _).mono (by omega)
theorem value_f (W : Nat) (hW : W = 1 ∨ W = 2 ∨ W = 4 ∨ W = 8) (c : Col) (hc : COK c) (B D E X : SL) (vals : List Value) (i : Nat) (hi : i * W + W ≤ c.data.length) (w : World) (h : RdC w c B D E X vals) :
    Calls Tryz.prog 221 #[.agg #[.int .i64 (W : Int)], colV c B D E X, .int .i64 (i : Int)] w (ValP (wordAt c.data (i * W) W) [] w) := by
  have HR := Aside.mk h
  have HC := Aside.mk hc
  have hword := Aside.mk (fun (w2 : World) (hb : Below w.heap.size w w2) => fword_any W hW c B D E X i hi HC.out.data HC.out.ld w2 (HR.out.data.below hb))
  clear h hc
  dsimp only [colV] at hword ⊢
  go_enter Tryz.func221, Tryz.ntmps221
  go_wp2_with fail
  obtain ⟨b3, _, _, hr3, hs3⟩ := three_new w #[.int .i64 (W : Int)] #[.int .i64 c.k, .int .i64 c.s, .int .i64 c.n, .int .i64 c.m, .slice B.a c.bits.length B.c, .slice D.a c.data.length D.c, .slice E.a c.ends.length E.c, .slice X.a c.words.length X.c] #[.int .u64 0, .slice none 0 0, .bool false] 165 63 145
  have B3 := Aside.mk b3
  have HR3 := Aside.mk hr3
  have HS3 := Aside.mk hs3
  clear b3 hr3 hs3
  generalize (((w.alloc (.cells #[.int .i64 (W : Int)] 165)).alloc (.cells #[.int .i64 c.k, .int .i64 c.s, .int .i64 c.n, .int .i64 c.m, .slice B.a c.bits.length B.c, .slice D.a c.data.length D.c, .slice E.a c.ends.length E.c, .slice X.a c.words.length X.c] 63)).alloc (.cells #[.int .u64 0, .slice none 0 0, .bool false] 145)) = w3 at *
  generalize wordAt c.data (i * W) W = x at *
  refine (hword.out _ B3.out).mono ?_
  rintro e w4 ⟨rfl, hb4⟩
  have hr4 := (hb4.block _ (lt_of_blk HR3.out)).trans HR3.out
  have q0 := cell_blk (k := 0) hr4
  have q1 := cell_blk (k := 1) hr4
  have q2 := cell_blk (k := 2) hr4
  have z0 := frozen_blk (k := 0) hr4
  have z1 := frozen_blk (k := 1) hr4
  have z2 := frozen_blk (k := 2) hr4
  have hlt := lt_of_blk hr4
  simp at q0 q1 q2
  have B4 := Aside.mk hb4
  clear hb4 hr4
  go_wp2
  refine bodyPost_ret (v := .agg #[.int .u64 (x : Int), .slice none 0 0, .bool false]) (by simp [results, Tryz.results221, go_sem, q0, q1, q2]) rfl ?_
  exact ⟨none, 0, rfl, Own.nil _ _ _ _, val_below B3.out B4.out⟩
theorem cell_set3 {W : World} {R g o : Nat} {a b c v : Value} (hne : g ≠ R) (h : W.cell? ⟨g, o, none⟩ = some v) : (((W.setCell ⟨R, 0, none⟩ a).setCell ⟨R, 1, none⟩ b).setCell ⟨R, 2, none⟩ c).cell? ⟨g, o, none⟩ = some v := by
  have h1 := Below.heap_setCell W ⟨R, 0, none⟩ a g hne
  have h2 := Below.heap_setCell (W.setCell ⟨R, 0, none⟩ a) ⟨R, 1, none⟩ b g hne
  have h3 := Below.heap_setCell ((W.setCell ⟨R, 0, none⟩ a).setCell ⟨R, 1, none⟩ b) ⟨R, 2, none⟩ c g hne
  exact (World.cell?_of_block (w := W) (h3.trans (h2.trans h1))).trans h
theorem value_c (c : Col) (hc : COK c) (B D E X : SL) (vals : List Value) (i : Nat) (hi : i * 4 + 4 ≤ c.data.length) (hx : wordAt c.data (i * 4) 4 < c.words.length) (w : World) (h : RdC w c B D E X vals) :
    Calls Tryz.prog 224 #[.agg #[.int .i64 4], colV c B D E X, .int .i64 (i : Int)] w (ValP 0 (c.words.getD (wordAt c.data (i * 4) 4) []) w) := by
  obtain ⟨xa, xc⟩ := X
  have HR := Aside.mk h
  have HC := Aside.mk hc
  have hword := Aside.mk (fun (w2 : World) (hb : Below w.heap.size w w2) => fword_4 c B D E ⟨xa, xc⟩ i hi HC.out.data HC.out.ld w2 (HR.out.data.below hb))
  have hlw := HC.out.lw
  clear h hc
  dsimp only [colV] at hword ⊢
  obtain ⟨ta, tc, hv, ht⟩ := HR.out.each.2 _ _ (List.getElem?_eq_getElem hx)
  have hvl := HR.out.each.1
  obtain ⟨eb, eo, ecap, hs, hel, hecap, hcE⟩ := HR.out.words.some_ (by omega)
  simp only [Value.slice.injEq, true_and] at hs
  obtain ⟨rfl, rfl⟩ := hs
  have HCE := Aside.mk (hcE _ _ hv)
  have HT := Aside.mk ht
  have hgd : c.words.getD (wordAt c.data (i * 4) 4) [] = c.words[wordAt c.data (i * 4) 4] := by rw [List.getD_eq_getElem?_getD, List.getElem?_eq_getElem hx]; rfl
  have htl : c.words[wordAt c.data (i * 4) 4].length ≤ 1000000000 := Nat.le_trans (HC.out.words _ (List.getElem_mem hx)).2 (by decide)
  rw [hgd]
  clear hgd hcE hv ht hvl
  generalize c.words[wordAt c.data (i * 4) 4] = t at *
  generalize wordAt c.data (i * 4) 4 = x at *
  have HCL := Aside.mk (fun (w2 : World) (hb : Below w.heap.size w w2) => clone_bytes (.slice ta t.length tc) t.length _ w2 htl (HT.out.below hb) (one_map (fun x : Int => Value.int .u8 x) (fun _ => rfl) t))
  have heb : eb < w.heap.size := World.block_lt_of_cell? _ _ HCE.out
  have hne : eb ≠ w.heap.size + 1 + 1 := by omega
  go_enter Tryz.func224, Tryz.ntmps224
  go_wp2_with fail
  obtain ⟨b3, hf3, hx3, hr3, hs3⟩ := three_new w #[.int .i64 4] #[.int .i64 c.k, .int .i64 c.s, .int .i64 c.n, .int .i64 c.m, .slice B.a c.bits.length B.c, .slice D.a c.data.length D.c, .slice E.a c.ends.length E.c, .slice (some ⟨eb, eo, none⟩) c.words.length xc] #[.int .u64 0, .slice none 0 0, .bool false] 167 63 145
  have B3 := Aside.mk b3
  have HF3 := Aside.mk hf3
  have HX3 := Aside.mk hx3
  have HR3 := Aside.mk hr3
  have HS3 := Aside.mk hs3
  have HE3 := Aside.mk ((b3.cell (p := ⟨eb, eo + x, none⟩) (World.block_lt_of_cell? _ _ HCE.out)).trans HCE.out)
  clear b3 hf3 hx3 hr3 hs3
  generalize (((w.alloc (.cells #[.int .i64 4] 167)).alloc (.cells #[.int .i64 c.k, .int .i64 c.s, .int .i64 c.n, .int .i64 c.m, .slice B.a c.bits.length B.c, .slice D.a c.data.length D.c, .slice E.a c.ends.length E.c, .slice (some ⟨eb, eo, none⟩) c.words.length xc] 63)).alloc (.cells #[.int .u64 0, .slice none 0 0, .bool false] 145)) = w3 at *
  obtain ⟨p0, p1, p2, p3, p4, p5, p6, p7⟩ := box8 HX3.out
  have pf := cell_blk (k := 0) HF3.out
  have pe := HE3.out
  simp at pf
  go_region_held3 (fun w' => w'.cell? ⟨w.heap.size + 1, 0, none⟩ = some (.int .i64 c.k) ∧ w'.cell? ⟨w.heap.size + 1, 1, none⟩ = some (.int .i64 c.s) ∧ w'.cell? ⟨w.heap.size + 1, 2, none⟩ = some (.int .i64 c.n) ∧ w'.cell? ⟨w.heap.size + 1, 3, none⟩ = some (.int .i64 c.m) ∧ w'.cell? ⟨w.heap.size + 1, 4, none⟩ = some (.slice B.a c.bits.length B.c) ∧ w'.cell? ⟨w.heap.size + 1, 5, none⟩ = some (.slice D.a c.data.length D.c) ∧ w'.cell? ⟨w.heap.size + 1, 6, none⟩ = some (.slice E.a c.ends.length E.c) ∧ w'.cell? ⟨w.heap.size + 1, 7, none⟩ = some (.slice (some ⟨eb, eo, none⟩) c.words.length xc) ∧ w'.cell? ⟨w.heap.size, 0, none⟩ = some (.int .i64 4) ∧ w'.cell? ⟨eb, eo + x, none⟩ = some (.slice ta t.length tc))
    (first | (refine ⟨?_, ?_, ?_, ?_, ?_, ?_, ?_, ?_, ?_, ?_⟩ <;> assumption) | (refine ⟨?_, ?_, ?_, ?_, ?_, ?_, ?_, ?_, ?_, ?_⟩ <;> exact cell_set3 (by omega) (by assumption)))
    (first
      | (go_at_call 88; refine (hword.out _ (below_chain B3.out (by repeat (first | exact Below.refl _ _ | exact below_drew1 _ | (refine below_chain ?_ (by assumption)))))).mono ?_; rintro e wK ⟨rfl, hbK⟩; (first | (replace hbK := undrew hbK) | skip); have hcK : Below w3.heap.size w3 wK := (by repeat (first | exact Below.refl _ _ | exact below_drew1 _ | (refine below_chain ?_ (by assumption)))); obtain ⟨k0, k1, k2, k3, k4, k5, k6, k7⟩ := box8 ((hcK.block _ (lt_of_blk HX3.out)).trans HX3.out); have kf := cell_blk (k := 0) ((hcK.block _ (lt_of_blk HF3.out)).trans HF3.out); have ke := (hcK.cell (p := ⟨eb, eo + x, none⟩) (World.block_lt_of_cell? _ _ HE3.out)).trans HE3.out; simp at kf; clear hcK)
      | (go_at_call 91; refine (HCL.out _ (below_chain B3.out (by repeat (first | exact Below.refl _ _ | exact below_drew1 _ | (refine below_chain ?_ (by assumption)))))).mono ?_; rintro e wL ⟨v', rfl, ho, hbL⟩; obtain ⟨va, vc, rfl⟩ := ho.form; have HO := Aside.mk ho; clear ho; (first | (replace hbL := undrew hbL) | skip); have hcL : Below w3.heap.size w3 wL := (by repeat (first | exact Below.refl _ _ | exact below_drew1 _ | (refine below_chain ?_ (by assumption)))); have B4 := Aside.mk hcL; obtain ⟨l0, l1, l2, l3, l4, l5, l6, l7⟩ := box8 ((hcL.block _ (lt_of_blk HX3.out)).trans HX3.out); have lf := cell_blk (k := 0) ((hcL.block _ (lt_of_blk HF3.out)).trans HF3.out); have le := (hcL.cell (p := ⟨eb, eo + x, none⟩) (World.block_lt_of_cell? _ _ HE3.out)).trans HE3.out; have hr4 := (hcL.block _ (lt_of_blk HR3.out)).trans HR3.out; have q0 := cell_blk (k := 0) hr4; have q1 := cell_blk (k := 1) hr4; have q2 := cell_blk (k := 2) hr4; have z0 := frozen_blk (k := 0) hr4; have z1 := frozen_blk (k := 1) hr4; have z2 := frozen_blk (k := 2) hr4; simp at q0 q1 q2 lf; clear hcL hr4))
  go_wp2
  refine bodyPost_ret (v := .agg #[.int .u64 0, .slice va t.length vc, .bool false]) (by simp [results, Tryz.results224, go_sem, q0, q1, q2]) rfl ?_
  exact ⟨va, vc, rfl, val_own HS3.out (HO.out.mono hbK.size), val_below B3.out B4.out⟩
end Go.Proofs.YtmhjjhaipcgbiaaGreat


namespace Go.Proofs.YtmhjjhaipcgbiaaGreat
open Go.RowKit
set_option linter.unusedVariables false
set_option linter.unusedSimpArgs false
set_option maxRecDepth 100000
set_option maxHeartbeats 3000000
theorem rd_cut2 {w : World} {g off n cap i j : Nat} {xs : List Value} (h : Rd w 1 (.slice (some ⟨g, off, none⟩) n cap) n xs) (hij : i ≤ j) (hj : j ≤ n) : Rd w 1 (.slice (if cap = i then some ⟨g, off, none⟩ else some ⟨g, off + i, none⟩) (j - i) (cap - i)) (j - i) ((xs.drop i).take (j - i)) := by
  split
  · rename_i e
    obtain ⟨hl, a, cap', e', h1, h2, h3, h4⟩ := h
    simp only [Value.slice.injEq, true_and] at e'
    obtain ⟨rfl, rfl⟩ := e'
    obtain rfl : j = i := by omega
    rw [Nat.sub_self, List.take_zero, ← e]
    exact ⟨by simp, _, _, rfl, Nat.zero_le _, by omega, (fun e => by cases e), fun k u hu => by simp at hu⟩
  · exact rd_cut h hij hj
theorem value_r (c : Col) (hc : COK c) (B D E X : SL) (vals : List Value) (i f t : Nat) (hi : i < c.ends.length) (hf : aheadI c.ends i = (f : Int)) (ht : c.ends.getD i 0 = (t : Int)) (hft : f ≤ t) (htd : t ≤ c.data.length) (g off : Nat) (hD : D.a = some ⟨g, off, none⟩) (w : World) (h : RdC w c B D E X vals) :
    Calls Tryz.prog 219 #[.agg #[], colV c B D E X, .int .i64 (i : Int)] w (ValP 0 ((c.data.drop f).take (t - f)) w) := by
  obtain ⟨ea, ec⟩ := E
  obtain ⟨da, dc⟩ := D
  obtain rfl : da = some ⟨g, off, none⟩ := hD
  have HR := Aside.mk h
  have HC := Aside.mk hc
  have hah := Aside.mk (fun (w2 : World) (hb : Below w.heap.size w w2) => show Calls Tryz.prog 87 _ w2 (IntP (f : Int) w2) from hf ▸ cahead_any c B ⟨some ⟨g, off, none⟩, dc⟩ ⟨ea, ec⟩ X i (by omega) HC.out.le w2 (HR.out.ends.below hb))
  have hle := HC.out.le
  have hld := HC.out.ld
  clear h hc
  dsimp only [colV] at hah ⊢
  obtain ⟨eb, eo, ecap, hs, hel, hecap, hcE⟩ := rd_get HR.out.ends i hi
  simp only [Value.slice.injEq, true_and] at hs
  obtain ⟨rfl, rfl⟩ := hs
  rw [ht] at hcE
  have HCE := Aside.mk hcE
  have hdm := HR.out.data.max
  obtain ⟨_, da', dcap', hds, hdl, hdc, _, _⟩ := HR.out.data
  simp only [Value.slice.injEq, true_and] at hds
  obtain ⟨hda, hdcc⟩ := hds
  rw [← hdcc] at hdl hdc
  have hdc2 : dc ≤ 9223372036854775807 := by unfold maxLen at hdc; omega
  clear hda hdcc hdc hdm
  have htc : t ≤ dc := Nat.le_trans htd hdl
  have HT := Aside.mk (rd_cut2 HR.out.data hft htd)
  have hxl : ((c.data.drop f).take (t - f)).length = t - f := by rw [List.length_take, List.length_drop]; omega
  have e1 : ((c.data.map (Value.int .u8)).drop f).take (t - f) = ((c.data.drop f).take (t - f)).map (Value.int .u8) := by rw [List.map_take, List.map_drop]
  rw [e1] at HT
  have HXL := Aside.mk hxl
  have HCL := Aside.mk (fun (w2 : World) (hb : Below w.heap.size w w2) => clone_bytes (.slice (if dc = f then some ⟨g, off, none⟩ else some ⟨g, off + f, none⟩) (t - f) (dc - f)) (t - f) _ w2 (by omega) (HT.out.below hb) (one_map (fun x : Int => Value.int .u8 x) (fun _ => rfl) ((c.data.drop f).take (t - f))))
  clear hf ht hcE hxl e1
  generalize (c.data.drop f).take (t - f) = tx at *
  have heb : eb < w.heap.size := World.block_lt_of_cell? _ _ HCE.out
  have hne : eb ≠ w.heap.size + 1 + 1 := by omega
  go_enter Tryz.func219, Tryz.ntmps219
  go_wp2_with fail
  obtain ⟨b3, hf3, hx3, hr3, hs3⟩ := three_new w #[] #[.int .i64 c.k, .int .i64 c.s, .int .i64 c.n, .int .i64 c.m, .slice B.a c.bits.length B.c, .slice (some ⟨g, off, none⟩) c.data.length dc, .slice (some ⟨eb, eo, none⟩) c.ends.length ec, .slice X.a c.words.length X.c] #[.int .u64 0, .slice none 0 0, .bool false] 162 63 145
  have B3 := Aside.mk b3
  have HX3 := Aside.mk hx3
  have HR3 := Aside.mk hr3
  have HS3 := Aside.mk hs3
  have HE3 := Aside.mk ((b3.cell (p := ⟨eb, eo + i, none⟩) (World.block_lt_of_cell? _ _ HCE.out)).trans HCE.out)
  clear b3 hf3 hx3 hr3 hs3
  generalize (((w.alloc (.cells #[] 162)).alloc (.cells #[.int .i64 c.k, .int .i64 c.s, .int .i64 c.n, .int .i64 c.m, .slice B.a c.bits.length B.c, .slice (some ⟨g, off, none⟩) c.data.length dc, .slice (some ⟨eb, eo, none⟩) c.ends.length ec, .slice X.a c.words.length X.c] 63)).alloc (.cells #[.int .u64 0, .slice none 0 0, .bool false] 145)) = w3 at *
  obtain ⟨p0, p1, p2, p3, p4, p5, p6, p7⟩ := box8 HX3.out
  have pe := HE3.out
  go_region_law (first
    | (refine step_call (P := Tryz.prog) w3.drew (by rfl) 87 [.tmp 9, .tmp 10] _ (by rfl) [.agg #[.int .i64 c.k, .int .i64 c.s, .int .i64 c.n, .int .i64 c.m, .slice B.a c.bits.length B.c, .slice (some ⟨g, off, none⟩) c.data.length dc, .slice (some ⟨eb, eo, none⟩) c.ends.length ec, .slice X.a c.words.length X.c], .int .i64 (i : Int)] (by rfl) (fun _ _ => rfl) (hah.out w3.drew (B3.out.trans (below_drewN _ _ 1))) ?_; rintro e wK ⟨rfl, hbK⟩; replace hbK := undrew hbK; have hcK : Below w3.heap.size w3 wK := hbK; obtain ⟨k0, k1, k2, k3, k4, k5, k6, k7⟩ := box8 ((hcK.block _ (lt_of_blk HX3.out)).trans HX3.out); have ke := (hcK.cell (p := ⟨eb, eo + i, none⟩) (World.block_lt_of_cell? _ _ HE3.out)).trans HE3.out; have HBK := Aside.mk hbK; clear hcK hbK; refine ⟨_, rfl, ?_⟩)
    | (refine step_call (P := Tryz.prog) wK (by rfl) 91 [.tmp 17] _ (by rfl) [.slice (if dc = f then some ⟨g, off, none⟩ else some ⟨g, off + f, none⟩) (t - f) (dc - f)] (by rfl) (fun _ _ => rfl) (HCL.out wK (B3.out.trans (HBK.out.mono B3.out.size))) ?_; rintro e wL ⟨v', rfl, ho, hbL⟩; obtain ⟨va, vc, rfl⟩ := ho.form; have HO := Aside.mk ho; clear ho; have B4 := Aside.mk (HBK.out.trans (hbL.mono HBK.out.size)); have hr4 := (B4.out.block _ (lt_of_blk HR3.out)).trans HR3.out; have q0 := cell_blk (k := 0) hr4; have q1 := cell_blk (k := 1) hr4; have q2 := cell_blk (k := 2) hr4; have z0 := frozen_blk (k := 0) hr4; have z1 := frozen_blk (k := 1) hr4; have z2 := frozen_blk (k := 2) hr4; simp at q0 q1 q2; clear hr4 hbL; refine ⟨_, rfl, ?_⟩))
  all_goals
    go_wp2
    all_goals refine bodyPost_ret (v := .agg #[.int .u64 0, .slice va (t - f) vc, .bool false]) (by simp [results, Tryz.results219, go_sem, q0, q1, q2]) rfl ?_
    all_goals exact ⟨va, vc, by rw [HXL.out]; rfl, by rw [HXL.out]; exact val_own HS3.out (HO.out.mono HBK.out.size), val_below B3.out B4.out⟩
end Go.Proofs.YtmhjjhaipcgbiaaGreat
