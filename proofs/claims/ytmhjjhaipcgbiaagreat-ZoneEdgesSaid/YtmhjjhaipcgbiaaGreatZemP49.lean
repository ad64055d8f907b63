/- Texts of this claim, one behind the other: AskA, Zla, Zsa. -/
import Derived.Test.YtmhjjhaipcgbiaaGreatZemP45
import Derived.Test.YtmhjjhaipcgbiaaGreatZemP48
import Derived.Test.YtmhjjhaipcgbiaaGreatZemP23
import Derived.Test.YtmhjjhaipcgbiaaGreatZemP22
import Derived.Test.YtmhjjhaipcgbiaaGreatZemP37

namespace Go.Proofs.YtmhjjhaipcgbiaaGreat
open Go.RowKit
set_option linter.unusedVariables false
set_option linter.unusedSimpArgs false
set_option maxRecDepth 100000
set_option maxHeartbeats 4000000
def FVals (k s : Int) (v : Value) (w' : World) : Prop := ∃ (r : List V) (A : SL), v = .slice A.a r.length A.c ∧ (r.length ≤ 120 ∧ ∀ v ∈ r, vOK k s v ∧ v.text.length ≤ 40) ∧ RdVs w' A r
def FCol (B0 : Nat) (c : Col) (v : Value) (w' : World) : Prop := ∃ B D E X va, v = colV c B D E X ∧ OwnC w' B0 c B D E X va
def FLay (B0 : Nat) (k s : Int) (v : Value) (w' : World) : Prop := ∃ r : List V, (r.length ≤ 120 ∧ ∀ v ∈ r, vOK k s v ∧ v.text.length ≤ 40) ∧ FCol B0 (colOf k s r) v w'
def FSp (B0 : Nat) (k s wh wat wby : Int) (v : Value) (w' : World) : Prop := ∃ r : List V, (r.length ≤ 120 ∧ ∀ v ∈ r, vOK k s v ∧ v.text.length ≤ 40) ∧ FCol B0 (spoilC (colOf k s r) wh wat wby) v w'
abbrev zeroB : Obj := .cells #[.int .i64 0, .int .i64 0, .int .i64 0, .int .i64 0, .slice none 0 0, .slice none 0 0, .slice none 0 0, .slice none 0 0] 63 (0, 0)
def FBox (B0 : Nat) (v : Value) (w' : World) : Prop := ∃ b : Nat, v = .pointer (some ⟨b, 0, none⟩) ∧ B0 ≤ b ∧ w'.heap[b]? = some zeroB
def FA (B0 : Nat) (k s wh wat wby : Int) (j : Nat) (v : Value) (w' : World) : Prop :=
  (j = 4 → FVals k s v w') ∧ (j = 5 → FLay B0 k s v w') ∧ (j = 8 → FSp B0 k s wh wat wby v w') ∧ (j = 13 → FVals k s v w') ∧ (j = 14 → FLay B0 k s v w') ∧ (j = 15 → FBox B0 v w') ∧ (j = 16 → FBox B0 v w')
theorem FVals.below {k s : Int} {v : Value} {w w' : World} (h : FVals k s v w) (hb : Below w.heap.size w w') : FVals k s v w' := by
  obtain ⟨r, A, e, h1, h2⟩ := h; exact ⟨r, A, e, h1, h2.below hb⟩
theorem FCol.below {B0 : Nat} {c : Col} {v : Value} {w w' : World} (h : FCol B0 c v w) (hb : Below w.heap.size w w') : FCol B0 c v w' := by
  obtain ⟨B, D, E, X, va, e, h1⟩ := h; exact ⟨B, D, E, X, va, e, h1.below hb⟩
theorem FLay.below {B0 : Nat} {k s : Int} {v : Value} {w w' : World} (h : FLay B0 k s v w) (hb : Below w.heap.size w w') : FLay B0 k s v w' := by
  obtain ⟨r, h1, h2⟩ := h; exact ⟨r, h1, h2.below hb⟩
theorem FSp.below {B0 : Nat} {k s wh wat wby : Int} {v : Value} {w w' : World} (h : FSp B0 k s wh wat wby v w) (hb : Below w.heap.size w w') : FSp B0 k s wh wat wby v w' := by
  obtain ⟨r, h1, h2⟩ := h; exact ⟨r, h1, h2.below hb⟩
theorem FBox.below {B0 : Nat} {v : Value} {w w' : World} (h : FBox B0 v w) (hb : Below w.heap.size w w') : FBox B0 v w' := by
  obtain ⟨b, e, h1, h2⟩ := h; exact ⟨b, e, h1, (hb.block _ (lt_of_blk h2)).trans h2⟩
theorem FA.below {B0 : Nat} {k s wh wat wby : Int} (j : Nat) (v : Value) (w w' : World) (h : FA B0 k s wh wat wby j v w) (hb : Below w.heap.size w w') : FA B0 k s wh wat wby j v w' :=
  ⟨fun e => (h.1 e).below hb, fun e => (h.2.1 e).below hb, fun e => (h.2.2.1 e).below hb, fun e => (h.2.2.2.1 e).below hb, fun e => (h.2.2.2.2.1 e).below hb, fun e => (h.2.2.2.2.2.1 e).below hb, fun e => (h.2.2.2.2.2.2 e).below hb⟩
def F3 (B0 : Nat) (c d : Col) (j : Nat) (v : Value) (w' : World) : Prop := (j = 1 → FCol B0 c v w') ∧ (j = 3 → FCol B0 d v w') ∧ (j = 4 → FBox B0 v w') ∧ (j = 5 → FBox B0 v w')
theorem F3.below {B0 : Nat} {c d : Col} (j : Nat) (v : Value) (w w' : World) (h : F3 B0 c d j v w) (hb : Below w.heap.size w w') : F3 B0 c d j v w' :=
  ⟨fun e => (h.1 e).below hb, fun e => (h.2.1 e).below hb, fun e => (h.2.2.1 e).below hb, fun e => (h.2.2.2 e).below hb⟩
def Two (l : Array Bool) (x y : Nat) (vals : Nat → Value) : Prop := l.getD x false = true → l.getD y false = true → vals x ≠ vals y
theorem Two.set {l : Array Bool} {x y k : Nat} {vals : Nat → Value} (h : Two l x y vals) (h1 : k ≠ x) (h2 : k ≠ y) (v : Value) : Two (l.setIfInBounds k true) x y (upd vals k v) := fun a b => by
  rw [getD_set_ne false h1] at a
  rw [getD_set_ne false h2] at b
  simp only [upd, if_neg (Ne.symm h1), if_neg (Ne.symm h2)]
  exact h a b
end Go.Proofs.YtmhjjhaipcgbiaaGreat


namespace Go.Proofs.YtmhjjhaipcgbiaaGreat
open Go.RowKit
set_option linter.unusedVariables false
set_option linter.unusedSimpArgs false
set_option maxRecDepth 100000
set_option maxHeartbeats 1000000
theorem kept8l (w : World) (b : Nat) (y0 y1 y2 y3 y4 y5 y6 y7 : Value) : Kept (fun k => k = b) w ((((((((w.setCell ⟨b, 0, none⟩ y0).setCell ⟨b, 1, none⟩ y1).setCell ⟨b, 2, none⟩ y2).setCell ⟨b, 3, none⟩ y3).setCell ⟨b, 4, none⟩ y4).setCell ⟨b, 5, none⟩ y5).setCell ⟨b, 6, none⟩ y6).setCell ⟨b, 7, none⟩ y7) := by
  repeat (refine Kept.trans ?_ (Kept.setCell _ _ _) (fun _ e _ => e))
  exact Kept.refl _ _
theorem few_of19 {k s : Int} {r : List V} (h1 : r.length ≤ 120) (h2 : ∀ v ∈ r, vOK k s v ∧ v.text.length ≤ 40) : Few r ∧ ∀ v ∈ r, vOK k s v :=
  ⟨⟨by omega, fun v hv => Nat.le_trans (h2 v hv).2 (by decide)⟩, fun v hv => (h2 v hv).1⟩
def LayP (n : Int) (w : World) (e : Ending) (w' : World) : Prop := ∃ r : List V, (r.length ≤ 120 ∧ ∀ v ∈ r, vOK (kindI n) (scaleI n) v ∧ v.text.length ≤ 40) ∧ ColBP (colOf (kindI n) (scaleI n) r) w e w'
theorem lay19_any (n : Int) (l : List V) (hl : l.length ≤ 9223372036854775807) (hv : ∀ v ∈ l, IsBytes v.text ∧ v.bits < 18446744073709551616 ∧ v.text.length ≤ 9223372036854775807) (A : SL) (w : World) (h : RdVs w A l) : Calls Tryz.prog 37 #[.int .i64 n, .slice A.a l.length A.c] w (LayP n w) := by
  have HFL := Aside.mk (fun W (hb : Below w.heap.size w W) => fitsL_any (kindI n) (scaleI n) (kind_ok n) l hl hv A W (h.below hb))
  clear h hl hv
  go_enter Tryz.func37, Tryz.ntmps37
  go_upto_region 2 with (go_at_call 24; refine (kind_any n _).mono ?_; rintro e w1 ⟨rfl, hb1⟩; have HBX := Aside.mk ((hb1.block w.heap.size (by simp)).trans (heap_alloc_new w _)); have B1 := Aside.mk (below_chain (below_new w _) hb1); clear hb1)
  have hb2 := below_new w1 (.cells #[.int .i64 (kindI n), .int .i64 (scaleI n)] 23)
  have ht2 := heap_alloc_new w1 (.cells #[.int .i64 (kindI n), .int .i64 (scaleI n)] 23)
  generalize w1.alloc (.cells #[.int .i64 (kindI n), .int .i64 (scaleI n)] 23) = w2 at *
  have B2 := Aside.mk (below_chain B1.out hb2)
  replace HBX := Aside.mk ((hb2.block _ (lt_of_blk HBX.out)).trans HBX.out)
  have c0 := cell_blk (k := 0) ht2
  have c1 := cell_blk (k := 1) ht2
  simp at c0 c1
  have HLW := Aside.mk (show w.heap.size < w2.heap.size from lt_of_blk HBX.out)
  clear hb2 ht2
  refine wp_regionO (fun U : World => U.cell? ⟨w1.heap.size, 0, none⟩ = some (.int .i64 (kindI n)) ∧ U.cell? ⟨w1.heap.size, 1, none⟩ = some (.int .i64 (scaleI n))) 5 6 (by kernel_rfl) rfl ?_
  have hS : (fun U : World => U.cell? ⟨w1.heap.size, 0, none⟩ = some (.int .i64 (kindI n)) ∧ U.cell? ⟨w1.heap.size, 1, none⟩ = some (.int .i64 (scaleI n))) w2.drew := ⟨c0, c1⟩
  refine wpE_take (k := 0) (o := ⟨some 8, _, _, _, _, _⟩) (v := ?_) rfl (by kernel_rfl) (by kernel_rfl) (by kernel_rfl) (by kernel_rfl) (fun _ _ _ h => absurd h.1 (by simp)) (Or.inl ⟨by rfl, ?_⟩) (by assumption) ?_
  rotate_left
  · (intro w hSw; (try dsimp only at hSw); go_simp; (try with_reducible rfl))
  (try simp only [Act.put, List.setIfInBounds_toArray, List.set_cons_zero, List.set_cons_succ])
  refine wpE_take (k := 1) (o := ⟨some 9, _, _, _, _, _⟩) (v := ?_) rfl (by kernel_rfl) (by kernel_rfl) (by kernel_rfl) (by kernel_rfl) (fun _ _ _ h => absurd h.1 (by simp)) (Or.inl ⟨by rfl, ?_⟩) (by assumption) ?_
  rotate_left
  · (intro w hSw; (try dsimp only at hSw); go_simp; (try with_reducible rfl))
  (try simp only [Act.put, List.setIfInBounds_toArray, List.set_cons_zero, List.set_cons_succ])
  refine wpE_take (k := 2) (o := ⟨some 10, _, _, _, _, _⟩) (v := ?_) rfl (by kernel_rfl) (by kernel_rfl) (by kernel_rfl) (by kernel_rfl) (fun _ _ _ h => absurd h.1 (by simp)) (Or.inl ⟨by rfl, ?_⟩) (by assumption) ?_
  rotate_left
  · (intro w hSw; (try dsimp only at hSw); go_simp; (try with_reducible rfl))
  (try simp only [Act.put, List.setIfInBounds_toArray, List.set_cons_zero, List.set_cons_succ])
  refine wpE_one (k := 3) (o := ⟨some 11, _, _, _, _, _⟩) rfl (by kernel_rfl) (fun K hK => ?_)
  refine step_call (P := Tryz.prog) w2.drew (by rfl) 26 [.tmp 9, .tmp 10] _ (by rfl) [.agg #[.int .i64 (kindI n), .int .i64 (scaleI n)], .slice A.a l.length A.c] (by rfl) (fun _ _ => rfl) (HFL.out w2.drew (B2.out.trans (below_drewN _ _ 1))) ?_
  rintro e w3 ⟨r, RA, xs, rfl, hr1, hr2, hov, hb3⟩
  refine ⟨_, rfl, ?_⟩
  have HB3 := Aside.mk hb3
  have HRR := Aside.mk (And.intro hr1 hr2)
  have HLA := Aside.mk (lay_any (kindI n) (scaleI n) r (kind_ok n) (few_of19 hr1 hr2).1 (few_of19 hr1 hr2).2 RA w3 hov.rd)
  replace HBX := Aside.mk ((hb3.block _ (lt_of_blk HBX.out)).trans HBX.out)
  clear hov hr1 hr2 hb3
  refine hK.out _ _ (⟨(HB3.out.cell (p := ⟨w1.heap.size, 0, none⟩) (World.block_lt_of_cell? _ _ hS.1)).trans hS.1, (HB3.out.cell (p := ⟨w1.heap.size, 1, none⟩) (World.block_lt_of_cell? _ _ hS.2)).trans hS.2⟩) (fun hS => ?_)
  clear hK K
  try simp only [Act.put, List.setIfInBounds_toArray, List.set_cons_zero, List.set_cons_succ]
  refine wpE_one (k := 4) (o := ⟨some 12, _, _, _, _, _⟩) rfl (by kernel_rfl) (fun K hK => ?_)
  refine step_call (P := Tryz.prog) w3 (by rfl) 25 [.tmp 8, .tmp 11] _ (by rfl) [.agg #[.int .i64 (kindI n), .int .i64 (scaleI n)], .slice RA.a r.length RA.c] (by rfl) (fun _ _ => rfl) HLA.out ?_
  rintro e w4 ⟨B, D, E, X, va, rfl, hown, hb4⟩
  refine ⟨_, rfl, ?_⟩
  have HB4 := Aside.mk hb4
  have HOW := Aside.mk hown
  replace HBX := Aside.mk ((hb4.block _ (lt_of_blk HBX.out)).trans HBX.out)
  clear hown hb4 HLA HFL
  generalize hcc : (CS.of (kindI n) r).col (kindI n) (scaleI n) = c at *
  have HCC := Aside.mk hcc
  clear hcc
  dsimp only [colV]
  obtain ⟨r0, r1, r2, r3, r4, r5, r6, r7⟩ := box8 HBX.out
  have rf := fun k => frozen_blk (k := k) HBX.out
  have rl := lt_of_blk HBX.out
  refine hK.out _ _ (⟨(HB4.out.cell (p := ⟨w1.heap.size, 0, none⟩) (World.block_lt_of_cell? _ _ hS.1)).trans hS.1, (HB4.out.cell (p := ⟨w1.heap.size, 1, none⟩) (World.block_lt_of_cell? _ _ hS.2)).trans hS.2⟩) (fun hS => ?_)
  clear hK K
  try simp only [Act.put, List.setIfInBounds_toArray, List.set_cons_zero, List.set_cons_succ]
  refine wpE_last (k := 5) (o := ⟨none, _, _, _, _, _⟩) rfl (by kernel_rfl) (by kernel_rfl) rfl (fun K hK => ?_)
  go_simp
  refine hK.out _ _ ?_
  clear hK K
  refine ⟨rfl, ?_⟩
  clear hS
  go_wp2_with fail
  have K8 := kept8l w4 w.heap.size (.int .i64 c.k) (.int .i64 c.s) (.int .i64 c.n) (.int .i64 c.m) (.slice B.a c.bits.length B.c) (.slice D.a c.data.length D.c) (.slice E.a c.ends.length E.c) (.slice X.a c.words.length X.c)
  have hs1 := B1.out.size
  have hs3 := HB3.out.size
  have hs4 := HB4.out.size
  have hb4 := (below_chain (below_chain B2.out (undrew HB3.out)) HB4.out)
  refine bodyPost_ret (v := .agg #[.int .i64 c.k, .int .i64 c.s, .int .i64 c.n, .int .i64 c.m, .slice B.a c.bits.length B.c, .slice D.a c.data.length D.c, .slice E.a c.ends.length E.c, .slice X.a c.words.length X.c]) (by simp [results, Tryz.results37, go_sem, r0, r1, r2, r3, r4, r5, r6, r7]) rfl ?_
  refine ⟨r, HRR.out, B, D, E, X, va, ?_, ?_, hb4.trans (K8.to_below hb4.size (fun k e => by omega))⟩
  · rw [show colOf (kindI n) (scaleI n) r = c from HCC.out]; rfl
  · rw [show colOf (kindI n) (scaleI n) r = c from HCC.out]
    have hlw := HLW.out
    have hs3' : w2.heap.size ≤ w3.heap.size := hs3
    exact (HOW.out.kept K8 (fun b hb e => by omega)).mono (by omega)
end Go.Proofs.YtmhjjhaipcgbiaaGreat


namespace Go.Proofs.YtmhjjhaipcgbiaaGreat
open Go.RowKit
set_option linter.unusedVariables false
set_option linter.unusedSimpArgs false
set_option maxRecDepth 100000
set_option maxHeartbeats 1000000
theorem num19_any (x : Int) (w : World) : Calls Tryz.prog 41 #[.int .i64 x] w (IntP x w) := by
  go_enter Tryz.func41, Tryz.ntmps41
  go_wp2
  go_ret
  exact ⟨by first | rfl | (simp; done), Below.refl _ _⟩
theorem rsame_any (k s : Int) (z : Zn) (F L F2 L2 : SL) (w : World) (h1 : RdT w z.first F) (h2 : RdT w z.last L) (h3 : RdT w z.first F2) (h4 : RdT w z.last L2) : Calls Tryz.prog 40 #[zV k s z F L, zV k s z F2 L2] w (BoolP true w) := by
  have hb : Below w.heap.size w ((w.alloc (.cells #[.int .i64 k, .int .i64 s, .int .i64 (z.n : Int), .int .i64 (z.nulls : Int), .int .i64 (z.odd : Int), .bool z.has, .int .u64 (z.least : Int), .int .u64 (z.most : Int), .slice F.a z.first.length F.c, .slice L.a z.last.length L.c] 79)).alloc (.cells #[.int .i64 k, .int .i64 s, .int .i64 (z.n : Int), .int .i64 (z.nulls : Int), .int .i64 (z.odd : Int), .bool z.has, .int .u64 (z.least : Int), .int .u64 (z.most : Int), .slice F2.a z.first.length F2.c, .slice L2.a z.last.length L2.c] 79)) := ((Below.refl _ w).alloc (Nat.le_refl _) _).alloc (by simp) _
  have c1 := conv_any F.a _ F.c z.first rfl _ (h1.below hb)
  have c2 := conv_any L.a _ L.c z.last rfl _ (h2.below hb)
  have c3 := conv_any F2.a _ F2.c z.first rfl _ (h3.below hb)
  have c4 := conv_any L2.a _ L2.c z.last rfl _ (h4.below hb)
  have hg1 : ((strOfNums z.first).toList == (strOfNums z.first).toList) = true := by simp
  have hg2 : ((strOfNums z.last).toList == (strOfNums z.last).toList) = true := by simp
  have HB := Aside.mk hb
  clear h1 h2 h3 h4 hb
  dsimp only [zV]
  go_enter Tryz.func40, Tryz.ntmps40
  go_wp2_with fail
  go_ret
  exact ⟨rfl, HB.out⟩
end Go.Proofs.YtmhjjhaipcgbiaaGreat
