/- Texts of this claim, one behind the other: AskA. -/
import Derived.Test.YtmhjjhaipcgbiaaGreatAsqP8
import Derived.Test.YtmhjjhaipcgbiaaGreatAsqP11
import Derived.Test.YtmhjjhaipcgbiaaGreatAsqP5
import Derived.Test.YtmhjjhaipcgbiaaGreatAsqP4

namespace Go.Proofs.YtmhjjhaipcgbiaaGreat
open Go.RowKit
set_option linter.unusedVariables false
set_option linter.unusedSimpArgs false
set_option maxRecDepth 100000
set_option maxHeartbeats 4000000
def FVals (k s : Int) (v : Value) (w' : World) : Prop := ∃ (r : List V) (A : SL), v = .slice A.a r.length A.c ∧ (r.length ≤ 120 ∧ ∀ v ∈ r, vOK k s v ∧ v.text.length ≤ 40) ∧ RdVs w' A r
def FCol (B0 : Nat) (c : Col) (v : Value) (w' : World) : Prop := ∃ B D E X va, v = colV c B D E X ∧ OwnC w' B0 c B D E X va
def FLay (B0 : Nat) (k s : Int) (v : Value) (w' : World) : Prop := ∃ r : List V, (r.length ≤ 120 ∧ ∀ v ∈ r, vOK k s v ∧ v.text.length ≤ 40) ∧ FCol B0 (colOf k s r) v w'
def FSp (B0 : Nat) (k s wh wat wby : Int) (v : Value) (w' : World) : Prop := ∃ r : List V, (r.length ≤ 120 ∧ ∀ v ∈ r, vOK k s v ∧ v.text.length ≤ 40) ∧ FCol B0 (spoilC (colOf k s r) wh wat wby) v w'
abbrev zeroB : Obj := .cells #[.int .i64 0, .int .i64 0, .int .i64 0, .int .i64 0, .slice none 0 0, .slice none 0 0, .slice none 0 0, .slice none 0 0] 63 (0, 0)
def FBox (B0 : Nat) (v : Value) (w' : World) : Prop := ∃ b : Nat, v = .pointer (some ⟨b, 0, none⟩) ∧ B0 ≤ b ∧ w'.heap[b]? = some zeroB
def FA (B0 : Nat) (k s wh wat wby : Int) (j : Nat) (v : Value) (w' : World) : Prop :=
  (j = 4 → FVals k s v w') ∧ (j = 5 → FLay B0 k s v w') ∧ (j = 8 → FSp B0 k s wh wat wby v w') ∧ (j = 13 → FVals k s v w') ∧ (j = 14 → FLay B0 k s v w') ∧ (j = 15 → FBox B0 v w') ∧ (j = 16 → FBox B0 v w')
theorem FVals.below {k s : Int} {v : Value} {w w' : World} (h : FVals k s v w) (hb : Below w.heap.size w w') : FVals k s v w' := by
  obtain ⟨r, A, e, h1, h2⟩ := h; exact ⟨r, A, e, h1, h2.below hb⟩
theorem FCol.below {B0 : Nat} {c : Col} {v : Value} {w w' : World} (h : FCol B0 c v w) (hb : Below w.heap.size w w') : FCol B0 c v w' := by
  obtain ⟨B, D, E, X, va, e, h1⟩ := h; exact ⟨B, D, E, X, va, e, h1.below hb⟩
theorem FLay.below {B0 : Nat} {k s : Int} {v : Value} {w w' : World} (h : FLay B0 k s v w) (hb : Below w.heap.size w w') : FLay B0 k s v w' := by
  obtain ⟨r, h1, h2⟩ := h; exact ⟨r, h1, h2.below hb⟩
theorem FSp.below {B0 : Nat} {k s wh wat wby : Int} {v : Value} {w w' : World} (h : FSp B0 k s wh wat wby v w) (hb : Below w.heap.size w w') : FSp B0 k s wh wat wby v w' := by
  obtain ⟨r, h1, h2⟩ := h; exact ⟨r, h1, h2.below hb⟩
theorem FBox.below {B0 : Nat} {v : Value} {w w' : World} (h : FBox B0 v w) (hb : Below w.heap.size w w') : FBox B0 v w' := by
  obtain ⟨b, e, h1, h2⟩ := h; exact ⟨b, e, h1, (hb.block _ (lt_of_blk h2)).trans h2⟩
theorem FA.below {B0 : Nat} {k s wh wat wby : Int} (j : Nat) (v : Value) (w w' : World) (h : FA B0 k s wh wat wby j v w) (hb : Below w.heap.size w w') : FA B0 k s wh wat wby j v w' :=
  ⟨fun e => (h.1 e).below hb, fun e => (h.2.1 e).below hb, fun e => (h.2.2.1 e).below hb, fun e => (h.2.2.2.1 e).below hb, fun e => (h.2.2.2.2.1 e).below hb, fun e => (h.2.2.2.2.2.1 e).below hb, fun e => (h.2.2.2.2.2.2 e).below hb⟩
def F3 (B0 : Nat) (c d : Col) (j : Nat) (v : Value) (w' : World) : Prop := (j = 1 → FCol B0 c v w') ∧ (j = 3 → FCol B0 d v w') ∧ (j = 4 → FBox B0 v w') ∧ (j = 5 → FBox B0 v w')
theorem F3.below {B0 : Nat} {c d : Col} (j : Nat) (v : Value) (w w' : World) (h : F3 B0 c d j v w) (hb : Below w.heap.size w w') : F3 B0 c d j v w' :=
  ⟨fun e => (h.1 e).below hb, fun e => (h.2.1 e).below hb, fun e => (h.2.2.1 e).below hb, fun e => (h.2.2.2 e).below hb⟩
def Two (l : Array Bool) (x y : Nat) (vals : Nat → Value) : Prop := l.getD x false = true → l.getD y false = true → vals x ≠ vals y
theorem Two.set {l : Array Bool} {x y k : Nat} {vals : Nat → Value} (h : Two l x y vals) (h1 : k ≠ x) (h2 : k ≠ y) (v : Value) : Two (l.setIfInBounds k true) x y (upd vals k v) := fun a b => by
  rw [getD_set_ne false h1] at a
  rw [getD_set_ne false h2] at b
  simp only [upd, if_neg (Ne.symm h1), if_neg (Ne.symm h2)]
  exact h a b
theorem two_new {l : Array Bool} {x y B0 : Nat} {vals : Nat → Value} {w : World} (hxy : x ≠ y) (h : l.getD y false = true → FBox B0 (vals y) w) : Two (l.setIfInBounds x true) x y (upd vals x (.pointer (some ⟨w.heap.size, 0, none⟩))) := fun _ b => by
  rw [getD_set_ne false hxy] at b
  obtain ⟨b5, e, _, h5⟩ := h b
  simp only [upd, if_true, if_neg (Ne.symm hxy), e]
  intro e2
  cases e2
  exact Nat.lt_irrefl _ (lt_of_blk h5)
theorem two_new2 {l : Array Bool} {x y B0 : Nat} {vals : Nat → Value} {w : World} (hxy : x ≠ y) (h : l.getD x false = true → FBox B0 (vals x) w) : Two (l.setIfInBounds y true) x y (upd vals y (.pointer (some ⟨w.heap.size, 0, none⟩))) := fun a _ => by
  rw [getD_set_ne false (Ne.symm hxy)] at a
  obtain ⟨b5, e, _, h5⟩ := h a
  simp only [upd, if_true, if_neg hxy, e]
  intro e2
  cases e2
  exact Nat.lt_irrefl _ (lt_of_blk h5)
theorem Taken.open_at {n : Nat} {ks : List Nat} {l : Array Bool} (h : Taken n ks l) {k : Nat} (hk : k < n) (he : l.getD k false = false) : l[k]? = some false := by
  have hl : k < l.size := by rw [h.1]; exact hk
  rw [Array.getElem?_eq_getElem hl]
  simpa [hl] using he
theorem getD_set_true_same {l : Array Bool} {k : Nat} (h : k < l.size) : (l.setIfInBounds k true).getD k false = true := by simp [h]
theorem spoil_sizes {k s : Int} {l : List V} (h : l.length ≤ 120 ∧ ∀ v ∈ l, vOK k s v ∧ v.text.length ≤ 40) : (colOf k s l).bits.length ≤ 1000000 ∧ (colOf k s l).data.length ≤ 1000000 ∧ (colOf k s l).ends.length ≤ 1000000 := by
  obtain ⟨h1, h2⟩ := data_max k l 40 (by decide) (fun v hv => (h.2 v hv).2)
  obtain ⟨g1, g2, g3, g4⟩ := of_sizes k l (fun v hv => Nat.le_trans (h.2 v hv).2 (by decide))
  have h5 := h.1
  have h4 : l.length * 40 ≤ 120 * 40 := Nat.mul_le_mul_right _ h5
  have hm := mof_len (CS.of k l).nulls
  refine ⟨?_, ?_, ?_⟩
  · show (mof (CS.of k l).nulls).length ≤ _; omega
  · show (CS.of k l).data.length ≤ _; omega
  · show (CS.of k l).ends.length ≤ _; omega
theorem OwnC.turnT {w w' : World} {base : Nat} {c : Col} {B D E X : SL} {va : List Value} {b : Nat} {cs : Array Value} (h : OwnC w base c B D E X va) (hb : w.heap[b]? = some (.cells cs 63 (0, 0))) (hk : Kept (fun k => k = b) w w') : OwnC w' base c B D E X va := by
  have ty : ∀ {F : TypeId}, F ≠ 63 → ∀ x, x = b → x < w.heap.size → ∀ cs, w.heap[x]? ≠ some (.cells cs F (0, 0)) := by
    rintro F hF x rfl hx cs hc
    rw [hb] at hc; cases hc; exact hF rfl
  exact ⟨h.bits.keptT hk (ty (by decide)), h.data.keptT hk (ty (by decide)), h.ends.keptT hk (ty (by decide)), h.words.keptT hk (ty (by decide)), h.len, fun i t hi ht => by
    obtain ⟨a, cp, q1, q2⟩ := h.each i t hi ht
    exact ⟨a, cp, q1, q2.keptT hk (ty (by decide))⟩, h.sep⟩
theorem ask_box {w w1 : World} {cs : Array Value} {T : TypeId} (hb : Below (w.alloc (.cells cs T)).heap.size (w.alloc (.cells cs T)) w1) : w1.heap[w.heap.size]? = some (.cells cs T (0, 0)) ∧ Below w.heap.size w w1 :=
  ⟨(hb.block _ (by simp)).trans (heap_alloc_new w _), (below_new w _).trans (hb.mono (by simp))⟩
theorem asksA (ty wh wat wby i j : Int) (h1 : IsI64 wh) (h2 : IsI64 wat) (h3 : IsI64 wby) (l m : List V) (A A2 : SL) (w : World) (hrl : RdVs w A l) (hrm : RdVs w A2 m) (hll : l.length ≤ 9223372036854775807) (hlm : m.length ≤ 9223372036854775807)
    (hvl : ∀ v ∈ l, IsBytes v.text ∧ v.bits < 18446744073709551616 ∧ v.text.length ≤ 9223372036854775807) (hvm : ∀ v ∈ m, IsBytes v.text ∧ v.bits < 18446744073709551616 ∧ v.text.length ≤ 9223372036854775807) :
    Calls Tryz.prog 6 #[.agg #[.int .i64 ty, .slice A.a l.length A.c, .slice A2.a m.length A2.c, .int .i64 wh, .int .i64 wat, .int .i64 wby, .int .i64 i, .int .i64 j]] w (fun e w' => e = .returned (.bool true) ∧ Below w.heap.size w w') := by
  have HK := Aside.mk (kind_ok ty)
  have HKD := Aside.mk (fun W => kind_any ty W)
  have HRL := Aside.mk hrl
  have HRM := Aside.mk hrm
  have HFL := Aside.mk (fun W hb => fitsL_any (kindI ty) (scaleI ty) HK.out l hll hvl A W (HRL.out.below hb))
  have HFM := Aside.mk (fun W hb => fitsL_any (kindI ty) (scaleI ty) HK.out m hlm hvm A2 W (HRM.out.below hb))
  have H123 := Aside.mk (And.intro h1 (And.intro h2 h3))
  clear hrl hrm hvl hvm hll hlm h1 h2 h3
  generalize kindI ty = k at *
  generalize scaleI ty = s at *
  generalize l.length = ln at *
  generalize m.length = mn at *
  go_enter Tryz.func6, Tryz.ntmps6
  go_upto_region 2 with (go_at_call 24; refine (HKD.out _).mono ?_; rintro e w1 ⟨rfl, hb1⟩; have HB1 := Aside.mk hb1; obtain ⟨e0, e1⟩ := ask_box hb1; clear hb1)
  -- REGION 2
  have ht1 := heap_alloc_new w1 (.cells #[.int .i64 k, .int .i64 s] 23)
  have hb2 := below_new w1 (.cells #[.int .i64 k, .int .i64 s] 23)
  generalize w1.alloc (.cells #[.int .i64 k, .int .i64 s] 23) = w2 at *
  have hx2 := (hb2.block _ (lt_of_blk e0)).trans e0
  have HX2 := Aside.mk hx2
  have HT2 := Aside.mk ht1
  have HB2 := Aside.mk (e1.trans (hb2.mono e1.size))
  obtain ⟨x0, x1, x2, x3, x4, x5, x6, x7⟩ := box8 hx2
  have t0 : w2.cell? ⟨w1.heap.size, 0, none⟩ = some (.int .i64 k) := by rw [cell_blk ht1]; rfl
  have t1 : w2.cell? ⟨w1.heap.size, 1, none⟩ = some (.int .i64 s) := by rw [cell_blk ht1]; rfl
  have HSA : Aside (∀ w', Below w2.heap.size w2 w' → (fun w' => w'.cell? ⟨w1.heap.size, 0, none⟩ = some (.int .i64 k) ∧ w'.cell? ⟨w1.heap.size, 1, none⟩ = some (.int .i64 s) ∧ w'.cell? ⟨w.heap.size, 1, none⟩ = some (.slice A.a ln A.c) ∧ w'.cell? ⟨w.heap.size, 2, none⟩ = some (.slice A2.a mn A2.c) ∧ w'.cell? ⟨w.heap.size, 3, none⟩ = some (.int .i64 wh) ∧ w'.cell? ⟨w.heap.size, 4, none⟩ = some (.int .i64 wat) ∧ w'.cell? ⟨w.heap.size, 5, none⟩ = some (.int .i64 wby)) w') := ⟨fun w' hb => ⟨(hb.cell (p := ⟨w1.heap.size, 0, none⟩) (lt_of_blk ht1)).trans t0, (hb.cell (p := ⟨w1.heap.size, 1, none⟩) (lt_of_blk ht1)).trans t1, (hb.cell (p := ⟨w.heap.size, 1, none⟩) (lt_of_blk hx2)).trans x1, (hb.cell (p := ⟨w.heap.size, 2, none⟩) (lt_of_blk hx2)).trans x2, (hb.cell (p := ⟨w.heap.size, 3, none⟩) (lt_of_blk hx2)).trans x3, (hb.cell (p := ⟨w.heap.size, 4, none⟩) (lt_of_blk hx2)).trans x4, (hb.cell (p := ⟨w.heap.size, 5, none⟩) (lt_of_blk hx2)).trans x5⟩⟩
  clear e0 e1 hb2 HB1 HKD
  refine wp_regionE (fun w' => w'.cell? ⟨w1.heap.size, 0, none⟩ = some (.int .i64 k) ∧ w'.cell? ⟨w1.heap.size, 1, none⟩ = some (.int .i64 s) ∧ w'.cell? ⟨w.heap.size, 1, none⟩ = some (.slice A.a ln A.c) ∧ w'.cell? ⟨w.heap.size, 2, none⟩ = some (.slice A2.a mn A2.c) ∧ w'.cell? ⟨w.heap.size, 3, none⟩ = some (.int .i64 wh) ∧ w'.cell? ⟨w.heap.size, 4, none⟩ = some (.int .i64 wat) ∧ w'.cell? ⟨w.heap.size, 5, none⟩ = some (.int .i64 wby)) 18 19 (by kernel_rfl) rfl ?_
  have hS : (fun w' => w'.cell? ⟨w1.heap.size, 0, none⟩ = some (.int .i64 k) ∧ w'.cell? ⟨w1.heap.size, 1, none⟩ = some (.int .i64 s) ∧ w'.cell? ⟨w.heap.size, 1, none⟩ = some (.slice A.a ln A.c) ∧ w'.cell? ⟨w.heap.size, 2, none⟩ = some (.slice A2.a mn A2.c) ∧ w'.cell? ⟨w.heap.size, 3, none⟩ = some (.int .i64 wh) ∧ w'.cell? ⟨w.heap.size, 4, none⟩ = some (.int .i64 wat) ∧ w'.cell? ⟨w.heap.size, 5, none⟩ = some (.int .i64 wby)) w2.drew := HSA.out _ (below_drewN w2 _ 1)
  clear x0 x1 x2 x3 x4 x5 x6 x7 t0 t1 hx2 ht1
  refine wpE_take (k := 0) (o := ⟨some 12, _, _, _, _, _⟩) (v := ?_) rfl (by kernel_rfl) (by kernel_rfl) (by kernel_rfl) (by kernel_rfl) (fun _ _ _ h => h) (Or.inl ⟨by rfl, ?_⟩) (by assumption) ?_
  rotate_left
  · (intro w hSw; (try dsimp only at hSw); go_simp; (try with_reducible rfl))
  (try simp only [Act.put, List.setIfInBounds_toArray, List.set_cons_zero, List.set_cons_succ])
  refine wpE_take (k := 1) (o := ⟨some 13, _, _, _, _, _⟩) (v := ?_) rfl (by kernel_rfl) (by kernel_rfl) (by kernel_rfl) (by kernel_rfl) (fun _ _ _ h => h) (Or.inl ⟨by rfl, ?_⟩) (by assumption) ?_
  rotate_left
  · (intro w hSw; (try dsimp only at hSw); go_simp; (try with_reducible rfl))
  (try simp only [Act.put, List.setIfInBounds_toArray, List.set_cons_zero, List.set_cons_succ])
  refine wpE_take (k := 2) (o := ⟨some 14, _, _, _, _, _⟩) (v := ?_) rfl (by kernel_rfl) (by kernel_rfl) (by kernel_rfl) (by kernel_rfl) (fun _ _ _ h => h) (Or.inl ⟨by rfl, ?_⟩) (by assumption) ?_
  rotate_left
  · (intro w hSw; (try dsimp only at hSw); go_simp; (try with_reducible rfl))
  (try simp only [Act.put, List.setIfInBounds_toArray, List.set_cons_zero, List.set_cons_succ])
  refine wpE_take (k := 3) (o := ⟨some 15, _, _, _, _, _⟩) (v := ?_) rfl (by kernel_rfl) (by kernel_rfl) (by kernel_rfl) (by kernel_rfl) (fun _ _ _ h => h) (Or.inl ⟨by rfl, ?_⟩) (by assumption) ?_
  rotate_left
  · (intro w hSw; (try dsimp only at hSw); go_simp; (try with_reducible rfl))
  (try simp only [Act.put, List.setIfInBounds_toArray, List.set_cons_zero, List.set_cons_succ])
  refine wpE_take (k := 6) (o := ⟨some 18, _, _, _, _, _⟩) (v := ?_) rfl (by kernel_rfl) (by kernel_rfl) (by kernel_rfl) (by kernel_rfl) (fun _ _ _ h => h) (Or.inl ⟨by rfl, ?_⟩) (by assumption) ?_
  rotate_left
  · (intro w hSw; (try dsimp only at hSw); go_simp; (try with_reducible rfl))
  (try simp only [Act.put, List.setIfInBounds_toArray, List.set_cons_zero, List.set_cons_succ])
  refine wpE_take (k := 7) (o := ⟨some 19, _, _, _, _, _⟩) (v := ?_) rfl (by kernel_rfl) (by kernel_rfl) (by kernel_rfl) (by kernel_rfl) (fun _ _ _ h => h) (Or.inl ⟨by rfl, ?_⟩) (by assumption) ?_
  rotate_left
  · (intro w hSw; (try dsimp only at hSw); go_simp; (try with_reducible rfl))
  (try simp only [Act.put, List.setIfInBounds_toArray, List.set_cons_zero, List.set_cons_succ])
  refine wpE_take (k := 9) (o := ⟨some 21, _, _, _, _, _⟩) (v := ?_) rfl (by kernel_rfl) (by kernel_rfl) (by kernel_rfl) (by kernel_rfl) (fun _ _ _ h => h) (Or.inl ⟨by rfl, ?_⟩) (by assumption) ?_
  rotate_left
  · (intro w hSw; (try dsimp only at hSw); go_simp; (try with_reducible rfl))
  (try simp only [Act.put, List.setIfInBounds_toArray, List.set_cons_zero, List.set_cons_succ])
  refine wpE_take (k := 10) (o := ⟨some 22, _, _, _, _, _⟩) (v := ?_) rfl (by kernel_rfl) (by kernel_rfl) (by kernel_rfl) (by kernel_rfl) (fun _ _ _ h => h) (Or.inl ⟨by rfl, ?_⟩) (by assumption) ?_
  rotate_left
  · (intro w hSw; (try dsimp only at hSw); go_simp; (try with_reducible rfl))
  (try simp only [Act.put, List.setIfInBounds_toArray, List.set_cons_zero, List.set_cons_succ])
  refine wpE_take (k := 11) (o := ⟨some 23, _, _, _, _, _⟩) (v := ?_) rfl (by kernel_rfl) (by kernel_rfl) (by kernel_rfl) (by kernel_rfl) (fun _ _ _ h => h) (Or.inl ⟨by rfl, ?_⟩) (by assumption) ?_
  rotate_left
  · (intro w hSw; (try dsimp only at hSw); go_simp; (try with_reducible rfl))
  (try simp only [Act.put, List.setIfInBounds_toArray, List.set_cons_zero, List.set_cons_succ])
  refine wpE_take (k := 12) (o := ⟨some 24, _, _, _, _, _⟩) (v := ?_) rfl (by kernel_rfl) (by kernel_rfl) (by kernel_rfl) (by kernel_rfl) (fun _ _ _ h => h) (Or.inl ⟨by rfl, ?_⟩) (by assumption) ?_
  rotate_left
  · (intro w hSw; (try dsimp only at hSw); go_simp; (try with_reducible rfl))
  (try simp only [Act.put, List.setIfInBounds_toArray, List.set_cons_zero, List.set_cons_succ])
  refine wpE_until (q := 17) (Inv := fun l a w' => ∃ vals : Nat → Value, a = { tmps := #[.agg #[.int .i64 ty, .slice A.a ln A.c, .slice A2.a mn A2.c, .int .i64 wh, .int .i64 wat, .int .i64 wby, .int .i64 i, .int .i64 j], .pointer (some ⟨w.heap.size, 0, none⟩), .bool false, .pointer (some ⟨w1.heap.size, 0, none⟩), vals 15, vals 16, undef, undef, undef, .pointer (some ⟨w.heap.size, 0, none⟩), .int .i64 ty, .agg #[.int .i64 k, .int .i64 s], .agg #[.int .i64 k, .int .i64 s], .agg #[.int .i64 k, .int .i64 s], .pointer (some ⟨w.heap.size, 1, none⟩), .slice A.a ln A.c, vals 4, vals 5, .pointer (some ⟨w.heap.size, 3, none⟩), .agg #[.int .i64 wh, .int .i64 wat, .int .i64 wby], vals 8, .agg #[.int .i64 k, .int .i64 s], .agg #[.int .i64 k, .int .i64 s], .pointer (some ⟨w.heap.size, 2, none⟩), .slice A2.a mn A2.c, vals 13, vals 14, undef, undef, undef, undef, undef, undef, undef, undef, undef, undef, undef, undef, undef, undef, undef, undef, undef, undef, undef, undef, undef, undef, undef, undef, undef, undef, undef, undef, undef, undef, undef, undef, undef, undef, undef, undef, undef, undef, undef, undef, undef, undef, undef], defers := [] } ∧ Taken 19 [0, 1, 2, 3, 6, 7, 9, 10, 11, 12] l ∧ Below w2.heap.size w2 w' ∧ (∀ j, l.getD j false = true → FA w2.heap.size k s wh wat wby j (vals j) w') ∧ Two l 15 16 vals ∧ (l.getD 14 false = true → l.getD 13 false = true) ∧ l.getD 17 false = false ∧ l.getD 18 false = false) ?step ?some ?last 9 _ _ _ (Nat.le_of_eq (by kernel_rfl)) ?start
  case start =>
    refine ⟨fun _ => undef, rfl, ⟨by kernel_rfl, by simp⟩, below_drewN w2 _ 1, fun j hj => ?_, fun h => ?_, fun h => ?_, by kernel_rfl, by kernel_rfl⟩
    · exact ⟨fun e => by subst e; exact absurd hj (by decide), fun e => by subst e; exact absurd hj (by decide), fun e => by subst e; exact absurd hj (by decide), fun e => by subst e; exact absurd hj (by decide), fun e => by subst e; exact absurd hj (by decide), fun e => by subst e; exact absurd hj (by decide), fun e => by subst e; exact absurd hj (by decide)⟩
    · exact absurd h (by decide)
    · exact absurd h (by decide)
  case some =>
    rintro l a wr ⟨vals, rfl, hT, hb, hf, hd, hc, h17, h18⟩
    exact ready_some 19 (by kernel_rfl) 17 (by decide) (hT.open_at (by decide) h17)
  case step =>
    rintro l _ wr ⟨vals, rfl, hT, hb, hf, hd, hc, h17, h18⟩ kk hkk hq
    have h19 := hT.lt hkk
    obtain rfl | rfl | rfl | rfl | rfl | rfl | rfl | rfl | rfl | rfl | rfl | rfl | rfl | rfl | rfl | rfl | rfl | rfl | rfl : kk = 0 ∨ kk = 1 ∨ kk = 2 ∨ kk = 3 ∨ kk = 4 ∨ kk = 5 ∨ kk = 6 ∨ kk = 7 ∨ kk = 8 ∨ kk = 9 ∨ kk = 10 ∨ kk = 11 ∨ kk = 12 ∨ kk = 13 ∨ kk = 14 ∨ kk = 15 ∨ kk = 16 ∨ kk = 17 ∨ kk = 18 := by omega
    · exact (hT.no hkk (by decide)).elim
    · exact (hT.no hkk (by decide)).elim
    · exact (hT.no hkk (by decide)).elim
    · exact (hT.no hkk (by decide)).elim
    · refine wpOp_step (o := ⟨some 16, _, _, _, _, _⟩) rfl (fun K hK => ?_)
      refine step_call (P := Tryz.prog) wr (by rfl) 26 [.tmp 13, .tmp 15] _ (by rfl) [.agg #[.int .i64 k, .int .i64 s], .slice A.a ln A.c] (by rfl) (fun _ _ => rfl) (HFL.out wr (below_chain HB2.out hb)) ?_
      rintro e wc ⟨r, RA, rxs, rfl, hr1, hr2, hov, hbc⟩
      refine ⟨_, rfl, ?_⟩
      have hb' := below_chain hb hbc
      exact hK _ _ ⟨HSA.out _ hb', upd vals 4 (.slice RA.a r.length RA.c), by rfl, hT.set 4, hb', facts_set FA.below hf hbc ⟨fun _ => ⟨r, RA, rfl, ⟨hr1, hr2⟩, hov.rd⟩, (fun e => absurd e (by decide)), (fun e => absurd e (by decide)), (fun e => absurd e (by decide)), (fun e => absurd e (by decide)), (fun e => absurd e (by decide)), (fun e => absurd e (by decide))⟩, hd.set (by decide) (by decide) _, fun h => by rw [getD_set_ne false (by decide)] at h ⊢; exact hc h, by rw [getD_set_ne false (by decide)]; exact h17, by rw [getD_set_ne false (by decide)]; exact h18⟩
    · refine wpOp_step (o := ⟨some 17, _, _, _, _, _⟩) rfl (fun K hK => ?_)
      obtain ⟨r, RA, ev, hr, hrd⟩ := (hf 4 (waits_spec hkk (by kernel_rfl))).1 rfl
      have hfw : Few r ∧ ∀ v ∈ r, vOK k s v := ⟨⟨by omega, fun v hv => Nat.le_trans (hr.2 v hv).2 (by decide)⟩, fun v hv => (hr.2 v hv).1⟩
      have hcall : Calls Tryz.prog 25 #[.agg #[.int .i64 k, .int .i64 s], vals 4] wr (ColBP (colOf k s r) wr) := by rw [ev]; exact lay_any k s r HK.out hfw.1 hfw.2 RA wr hrd
      refine step_call (P := Tryz.prog) wr (by rfl) 25 [.tmp 12, .tmp 16] _ (by rfl) [.agg #[.int .i64 k, .int .i64 s], vals 4] (by rfl) (fun _ _ => rfl) (hcall) ?_
      rintro e wc ⟨B, D, E, X, va, rfl, ho, hbc⟩
      refine ⟨_, rfl, ?_⟩
      have hb' := below_chain hb hbc
      exact hK _ _ ⟨HSA.out _ hb', upd vals 5 (colV (colOf k s r) B D E X), by rfl, hT.set 5, hb', facts_set FA.below hf hbc ⟨(fun e => absurd e (by decide)), fun _ => ⟨r, hr, B, D, E, X, va, rfl, ho.mono hb.size⟩, (fun e => absurd e (by decide)), (fun e => absurd e (by decide)), (fun e => absurd e (by decide)), (fun e => absurd e (by decide)), (fun e => absurd e (by decide))⟩, hd.set (by decide) (by decide) _, fun h => by rw [getD_set_ne false (by decide)] at h ⊢; exact hc h, by rw [getD_set_ne false (by decide)]; exact h17, by rw [getD_set_ne false (by decide)]; exact h18⟩
    · exact (hT.no hkk (by decide)).elim
    · exact (hT.no hkk (by decide)).elim
    · refine wpOp_step (o := ⟨some 20, _, _, _, _, _⟩) rfl (fun K hK => ?_)
      obtain ⟨r, hr, B, D, E, X, va, ev, ho⟩ := (hf 5 (waits_spec hkk (by kernel_rfl))).2.1 rfl
      obtain ⟨hck, _, _, _⟩ := spoil_col (wh := wh) (wat := wat) (wby := wby) HK.out hr H123.out.2.2
      have hcall : Calls Tryz.prog 48 #[vals 5, .agg #[.int .i64 wh, .int .i64 wat, .int .i64 wby]] wr (ColBP (spoilC (colOf k s r) wh wat wby) wr) := by rw [ev]; exact spoilt_any _ hck (spoil_sizes hr) wh wat wby H123.out.1 H123.out.2.1 H123.out.2.2 B D E X va wr ho.rd
      refine step_call (P := Tryz.prog) wr (by rfl) 48 [.tmp 17, .tmp 19] _ (by rfl) [vals 5, .agg #[.int .i64 wh, .int .i64 wat, .int .i64 wby]] (by rfl) (fun _ _ => rfl) (hcall) ?_
      rintro e wc ⟨B', D', E', X', va', rfl, ho', hbc⟩
      refine ⟨_, rfl, ?_⟩
      have hb' := below_chain hb hbc
      exact hK _ _ ⟨HSA.out _ hb', upd vals 8 (colV (spoilC (colOf k s r) wh wat wby) B' D' E' X'), by rfl, hT.set 8, hb', facts_set FA.below hf hbc ⟨(fun e => absurd e (by decide)), (fun e => absurd e (by decide)), fun _ => ⟨r, hr, B', D', E', X', va', rfl, ho'.mono hb.size⟩, (fun e => absurd e (by decide)), (fun e => absurd e (by decide)), (fun e => absurd e (by decide)), (fun e => absurd e (by decide))⟩, hd.set (by decide) (by decide) _, fun h => by rw [getD_set_ne false (by decide)] at h ⊢; exact hc h, by rw [getD_set_ne false (by decide)]; exact h17, by rw [getD_set_ne false (by decide)]; exact h18⟩
    · exact (hT.no hkk (by decide)).elim
    · exact (hT.no hkk (by decide)).elim
    · exact (hT.no hkk (by decide)).elim
    · exact (hT.no hkk (by decide)).elim
    · refine wpOp_step (o := ⟨some 25, _, _, _, _, _⟩) rfl (fun K hK => ?_)
      refine step_call (P := Tryz.prog) wr (by rfl) 26 [.tmp 22, .tmp 24] _ (by rfl) [.agg #[.int .i64 k, .int .i64 s], .slice A2.a mn A2.c] (by rfl) (fun _ _ => rfl) (HFM.out wr (below_chain HB2.out hb)) ?_
      rintro e wc ⟨r, RA, rxs, rfl, hr1, hr2, hov, hbc⟩
      refine ⟨_, rfl, ?_⟩
      have hb' := below_chain hb hbc
      exact hK _ _ ⟨HSA.out _ hb', upd vals 13 (.slice RA.a r.length RA.c), by rfl, hT.set 13, hb', facts_set FA.below hf hbc ⟨(fun e => absurd e (by decide)), (fun e => absurd e (by decide)), (fun e => absurd e (by decide)), fun _ => ⟨r, RA, rfl, ⟨hr1, hr2⟩, hov.rd⟩, (fun e => absurd e (by decide)), (fun e => absurd e (by decide)), (fun e => absurd e (by decide))⟩, hd.set (by decide) (by decide) _, fun h => getD_set_true_same (by rw [hT.1]; decide), by rw [getD_set_ne false (by decide)]; exact h17, by rw [getD_set_ne false (by decide)]; exact h18⟩
    · refine wpOp_step (o := ⟨some 26, _, _, _, _, _⟩) rfl (fun K hK => ?_)
      obtain ⟨r, RA, ev, hr, hrd⟩ := (hf 13 (waits_spec hkk (by kernel_rfl))).2.2.2.1 rfl
      have hfw : Few r ∧ ∀ v ∈ r, vOK k s v := ⟨⟨by omega, fun v hv => Nat.le_trans (hr.2 v hv).2 (by decide)⟩, fun v hv => (hr.2 v hv).1⟩
      have hcall : Calls Tryz.prog 25 #[.agg #[.int .i64 k, .int .i64 s], vals 13] wr (ColBP (colOf k s r) wr) := by rw [ev]; exact lay_any k s r HK.out hfw.1 hfw.2 RA wr hrd
      refine step_call (P := Tryz.prog) wr (by rfl) 25 [.tmp 21, .tmp 25] _ (by rfl) [.agg #[.int .i64 k, .int .i64 s], vals 13] (by rfl) (fun _ _ => rfl) (hcall) ?_
      rintro e wc ⟨B, D, E, X, va, rfl, ho, hbc⟩
      refine ⟨_, rfl, ?_⟩
      have hb' := below_chain hb hbc
      exact hK _ _ ⟨HSA.out _ hb', upd vals 14 (colV (colOf k s r) B D E X), by rfl, hT.set 14, hb', facts_set FA.below hf hbc ⟨(fun e => absurd e (by decide)), (fun e => absurd e (by decide)), (fun e => absurd e (by decide)), (fun e => absurd e (by decide)), fun _ => ⟨r, hr, B, D, E, X, va, rfl, ho.mono hb.size⟩, (fun e => absurd e (by decide)), (fun e => absurd e (by decide))⟩, hd.set (by decide) (by decide) _, fun h => by rw [getD_set_ne false (by decide)]; exact waits_spec hkk (by kernel_rfl), by rw [getD_set_ne false (by decide)]; exact h17, by rw [getD_set_ne false (by decide)]; exact h18⟩
    · refine wpOp_step (o := ⟨some 4, _, _, _, _, _⟩) rfl (fun K hK => ?_)
      go_simp
      have hbc := below_new wr (.cells #[.int .i64 0, .int .i64 0, .int .i64 0, .int .i64 0, .slice none 0 0, .slice none 0 0, .slice none 0 0, .slice none 0 0] 63)
      have hb' := below_chain hb hbc
      refine hK _ _ ⟨HSA.out _ hb', upd vals 15 (.pointer (some ⟨wr.heap.size, 0, none⟩)), by rfl, hT.set 15, hb', facts_set FA.below hf hbc ⟨(fun e => absurd e (by decide)), (fun e => absurd e (by decide)), (fun e => absurd e (by decide)), (fun e => absurd e (by decide)), (fun e => absurd e (by decide)), fun _ => ⟨wr.heap.size, rfl, hb.size, heap_alloc_new wr _⟩, (fun e => absurd e (by decide))⟩, two_new (by decide) (fun h => (hf 16 h).2.2.2.2.2.2 rfl), fun h => by rw [getD_set_ne false (by decide)] at h ⊢; exact hc h, by rw [getD_set_ne false (by decide)]; exact h17, by rw [getD_set_ne false (by decide)]; exact h18⟩
    · refine wpOp_step (o := ⟨some 5, _, _, _, _, _⟩) rfl (fun K hK => ?_)
      go_simp
      have hbc := below_new wr (.cells #[.int .i64 0, .int .i64 0, .int .i64 0, .int .i64 0, .slice none 0 0, .slice none 0 0, .slice none 0 0, .slice none 0 0] 63)
      have hb' := below_chain hb hbc
      refine hK _ _ ⟨HSA.out _ hb', upd vals 16 (.pointer (some ⟨wr.heap.size, 0, none⟩)), by rfl, hT.set 16, hb', facts_set FA.below hf hbc ⟨(fun e => absurd e (by decide)), (fun e => absurd e (by decide)), (fun e => absurd e (by decide)), (fun e => absurd e (by decide)), (fun e => absurd e (by decide)), (fun e => absurd e (by decide)), fun _ => ⟨wr.heap.size, rfl, hb.size, heap_alloc_new wr _⟩⟩, two_new2 (by decide) (fun h => (hf 15 h).2.2.2.2.2.1 rfl), fun h => by rw [getD_set_ne false (by decide)] at h ⊢; exact hc h, by rw [getD_set_ne false (by decide)]; exact h17, by rw [getD_set_ne false (by decide)]; exact h18⟩
    · exact absurd rfl hq
    · have := waits_spec (j := 17) hkk (by kernel_rfl)
      rw [h17] at this; cases this
  case last =>
    rintro n l _ wr ⟨vals, rfl, hT, hb, hf, hd, hc, h17, h18⟩ hkk hn
    have hall : l = #[true, true, true, true, true, true, true, true, true, true, true, true, true, true, true, true, true, false, false] := array_at hT.1 (fun j hj => by
      have hj19 : j < 19 := hj
      obtain rfl | rfl | rfl | rfl | rfl | rfl | rfl | rfl | rfl | rfl | rfl | rfl | rfl | rfl | rfl | rfl | rfl | rfl | rfl : j = 0 ∨ j = 1 ∨ j = 2 ∨ j = 3 ∨ j = 4 ∨ j = 5 ∨ j = 6 ∨ j = 7 ∨ j = 8 ∨ j = 9 ∨ j = 10 ∨ j = 11 ∨ j = 12 ∨ j = 13 ∨ j = 14 ∨ j = 15 ∨ j = 16 ∨ j = 17 ∨ j = 18 := by omega
      · exact hT.2 _ (by decide)
      · exact hT.2 _ (by decide)
      · exact hT.2 _ (by decide)
      · exact hT.2 _ (by decide)
      · exact waits_spec hkk (by kernel_rfl)
      · exact waits_spec hkk (by kernel_rfl)
      · exact hT.2 _ (by decide)
      · exact hT.2 _ (by decide)
      · exact waits_spec hkk (by kernel_rfl)
      · exact hT.2 _ (by decide)
      · exact hT.2 _ (by decide)
      · exact hT.2 _ (by decide)
      · exact hT.2 _ (by decide)
      · exact hc (waits_spec hkk (by kernel_rfl))
      · exact waits_spec hkk (by kernel_rfl)
      · exact waits_spec hkk (by kernel_rfl)
      · exact waits_spec hkk (by kernel_rfl)
      · exact h17
      · exact h18)
    subst hall
    clear hT hc h17 h18 hkk
    obtain ⟨n, rfl⟩ : ∃ n', n = n' + 2 := ⟨n - 2, by have h2 : open_ #[true, true, true, true, true, true, true, true, true, true, true, true, true, true, true, true, true, false, false] = 2 := (by kernel_rfl); rw [h2] at hn; omega⟩
    clear hn
    obtain ⟨r, hr, B, D, E, X, va, e8, ho8⟩ := (hf 8 rfl).2.2.1 rfl
    obtain ⟨r2, hr2, B2, D2, E2, X2, vb, e14, ho14⟩ := (hf 14 rfl).2.2.2.2.1 rfl
    obtain ⟨b4, e15, hb4, hz4⟩ := (hf 15 rfl).2.2.2.2.2.1 rfl
    obtain ⟨b5, e16, hb5, hz5⟩ := (hf 16 rfl).2.2.2.2.2.2 rfl
    have hne : b5 ≠ b4 := fun e => hd rfl rfl (by rw [e15, e16, e])
    obtain ⟨_, hck, hcs, hcn⟩ := spoil_col (wh := wh) (wat := wat) (wby := wby) HK.out hr H123.out.2.2
    have hdk : COK (colOf k s r2) := (spoil_col (wh := 0) (wat := 0) (wby := 0) HK.out hr2 (by unfold IsI64; omega)).1
    have hds := small_col hr2
    have hdn : (colOf k s r2).n ≤ 120 := by
      show ((CS.of k r2).nulls.length : Int) ≤ 120
      rw [nulls_of, List.length_map]; have := hr2.1; omega
    generalize spoilC (colOf k s r) wh wat wby = c at *
    generalize colOf k s r2 = d at *
    rw [e15, e16, e8, e14]
    generalize vals 4 = u4
    generalize vals 5 = u5
    generalize vals 13 = u13
    clear hf hd e15 e16 e8 e14 hr hr2
    have HCF := Aside.mk (And.intro hck (And.intro hcs hcn))
    have HDF := Aside.mk (And.intro hdk (And.intro hds hdn))
    clear hck hcs hcn hdk hds hdn
    dsimp only [colV]
    have K8 := kept8 wr b4 (.int .i64 c.k) (.int .i64 c.s) (.int .i64 c.n) (.int .i64 c.m) (.slice B.a c.bits.length B.c) (.slice D.a c.data.length D.c) (.slice E.a c.ends.length E.c) (.slice X.a c.words.length X.c)
    have h4 := set8 hz4 (.int .i64 c.k) (.int .i64 c.s) (.int .i64 c.n) (.int .i64 c.m) (.slice B.a c.bits.length B.c) (.slice D.a c.data.length D.c) (.slice E.a c.ends.length E.c) (.slice X.a c.words.length X.c)
    have hS4 := set8_below hb hb4 (.int .i64 c.k) (.int .i64 c.s) (.int .i64 c.n) (.int .i64 c.m) (.slice B.a c.bits.length B.c) (.slice D.a c.data.length D.c) (.slice E.a c.ends.length E.c) (.slice X.a c.words.length X.c)
    have hz5' := (K8.block b5 (lt_of_blk hz5) hne).trans hz5
    have hoc := ho8.turnT hz4 K8
    have hod := ho14.turnT hz4 K8
    have HF4 := Aside.mk (And.intro h4 (And.intro hS4 (And.intro hz5' (And.intro hoc hod))))
    have HL := Aside.mk (And.intro hb4 (And.intro hb5 hne))
    obtain ⟨z0, z1, z2, z3, z4, z5, z6, z7⟩ := box8 hz4
    have zf := fun k => frozen_blk (k := k) hz4
    have zl := lt_of_blk hz4
    clear K8 h4 hS4 hz5' hoc hod ho8 ho14 hz5 hz4 hb hb4 hb5 hne
    refine wpE_one (k := 17) (o := ⟨none, _, _, _, _, _⟩) rfl (by kernel_rfl) (fun K hK => ?_)
    go_simp
    refine hK.out _ _ (HSA.out _ HF4.out.2.1) (fun hS => ?_)
    clear hK K z0 z1 z2 z3 z4 z5 z6 z7 zf zl hS
    try simp only [Act.put, List.setIfInBounds_toArray, List.set_cons_zero, List.set_cons_succ]
    generalize ((((((((wr.setCell ⟨b4, 0, none⟩ (.int .i64 c.k)).setCell ⟨b4, 1, none⟩ (.int .i64 c.s)).setCell ⟨b4, 2, none⟩ (.int .i64 c.n)).setCell ⟨b4, 3, none⟩ (.int .i64 c.m)).setCell ⟨b4, 4, none⟩ (.slice B.a c.bits.length B.c)).setCell ⟨b4, 5, none⟩ (.slice D.a c.data.length D.c)).setCell ⟨b4, 6, none⟩ (.slice E.a c.ends.length E.c)).setCell ⟨b4, 7, none⟩ (.slice X.a c.words.length X.c)) = w3 at *
    obtain ⟨z0, z1, z2, z3, z4, z5, z6, z7⟩ := box8 HF4.out.2.2.1
    have zf := fun k => frozen_blk (k := k) HF4.out.2.2.1
    have zl := lt_of_blk HF4.out.2.2.1
    refine wpE_last (k := 18) (o := ⟨none, _, _, _, _, _⟩) rfl (by kernel_rfl) (by kernel_rfl) rfl (fun K hK => ?_)
    go_simp
    refine hK.out _ _ ?_
    clear hK K z0 z1 z2 z3 z4 z5 z6 z7 zf zl
    have K8 := kept8 w3 b5 (.int .i64 d.k) (.int .i64 d.s) (.int .i64 d.n) (.int .i64 d.m) (.slice B2.a d.bits.length B2.c) (.slice D2.a d.data.length D2.c) (.slice E2.a d.ends.length E2.c) (.slice X2.a d.words.length X2.c)
    have HCB := Aside.mk ((K8.block b4 (lt_of_blk HF4.out.1) (Ne.symm HL.out.2.2)).trans HF4.out.1)
    have HDB := Aside.mk (set8 HF4.out.2.2.1 (.int .i64 d.k) (.int .i64 d.s) (.int .i64 d.n) (.int .i64 d.m) (.slice B2.a d.bits.length B2.c) (.slice D2.a d.data.length D2.c) (.slice E2.a d.ends.length E2.c) (.slice X2.a d.words.length X2.c))
    have HB4 := Aside.mk (set8_below HF4.out.2.1 HL.out.2.1 (.int .i64 d.k) (.int .i64 d.s) (.int .i64 d.n) (.int .i64 d.m) (.slice B2.a d.bits.length B2.c) (.slice D2.a d.data.length D2.c) (.slice E2.a d.ends.length E2.c) (.slice X2.a d.words.length X2.c))
    have HOC := Aside.mk (HF4.out.2.2.2.1.turnT HF4.out.2.2.1 K8)
    have HOD := Aside.mk (HF4.out.2.2.2.2.turnT HF4.out.2.2.1 K8)
    clear HF4 K8
    generalize ((((((((w3.setCell ⟨b5, 0, none⟩ (.int .i64 d.k)).setCell ⟨b5, 1, none⟩ (.int .i64 d.s)).setCell ⟨b5, 2, none⟩ (.int .i64 d.n)).setCell ⟨b5, 3, none⟩ (.int .i64 d.m)).setCell ⟨b5, 4, none⟩ (.slice B2.a d.bits.length B2.c)).setCell ⟨b5, 5, none⟩ (.slice D2.a d.data.length D2.c)).setCell ⟨b5, 6, none⟩ (.slice E2.a d.ends.length E2.c)).setCell ⟨b5, 7, none⟩ (.slice X2.a d.words.length X2.c)) = w4 at *
    -- REGION 3
    clear HFL HFM HSA HT2
    have HAX := Aside.mk ((HB4.out.block _ (lt_of_blk HX2.out)).trans HX2.out)
    have HBW := Aside.mk (below_chain HB2.out HB4.out)
    clear HX2 HB2 HB4
    obtain ⟨x0, x1, x2, x3, x4, x5, x6, x7⟩ := box8 HCB.out
    obtain ⟨y0, y1, y2, y3, y4, y5, y6, y7⟩ := box8 HDB.out
    go_upto_region 3 with fail
    have HSB : Aside (∀ w', Below w4.heap.size w4 w' → (fun w' => w'.cell? ⟨b4, 0, none⟩ = some (.int .i64 c.k) ∧ w'.cell? ⟨b4, 1, none⟩ = some (.int .i64 c.s) ∧ w'.cell? ⟨b4, 2, none⟩ = some (.int .i64 c.n) ∧ w'.cell? ⟨b4, 3, none⟩ = some (.int .i64 c.m) ∧ w'.cell? ⟨b4, 4, none⟩ = some (.slice B.a c.bits.length B.c) ∧ w'.cell? ⟨b4, 5, none⟩ = some (.slice D.a c.data.length D.c) ∧ w'.cell? ⟨b4, 6, none⟩ = some (.slice E.a c.ends.length E.c) ∧ w'.cell? ⟨b4, 7, none⟩ = some (.slice X.a c.words.length X.c) ∧ w'.cell? ⟨b5, 0, none⟩ = some (.int .i64 d.k) ∧ w'.cell? ⟨b5, 1, none⟩ = some (.int .i64 d.s) ∧ w'.cell? ⟨b5, 2, none⟩ = some (.int .i64 d.n) ∧ w'.cell? ⟨b5, 3, none⟩ = some (.int .i64 d.m) ∧ w'.cell? ⟨b5, 4, none⟩ = some (.slice B2.a d.bits.length B2.c) ∧ w'.cell? ⟨b5, 5, none⟩ = some (.slice D2.a d.data.length D2.c) ∧ w'.cell? ⟨b5, 6, none⟩ = some (.slice E2.a d.ends.length E2.c) ∧ w'.cell? ⟨b5, 7, none⟩ = some (.slice X2.a d.words.length X2.c)) w') := ⟨fun w' hb => ⟨(hb.cell (p := ⟨b4, 0, none⟩) (lt_of_blk HCB.out)).trans x0, (hb.cell (p := ⟨b4, 1, none⟩) (lt_of_blk HCB.out)).trans x1, (hb.cell (p := ⟨b4, 2, none⟩) (lt_of_blk HCB.out)).trans x2, (hb.cell (p := ⟨b4, 3, none⟩) (lt_of_blk HCB.out)).trans x3, (hb.cell (p := ⟨b4, 4, none⟩) (lt_of_blk HCB.out)).trans x4, (hb.cell (p := ⟨b4, 5, none⟩) (lt_of_blk HCB.out)).trans x5, (hb.cell (p := ⟨b4, 6, none⟩) (lt_of_blk HCB.out)).trans x6, (hb.cell (p := ⟨b4, 7, none⟩) (lt_of_blk HCB.out)).trans x7, (hb.cell (p := ⟨b5, 0, none⟩) (lt_of_blk HDB.out)).trans y0, (hb.cell (p := ⟨b5, 1, none⟩) (lt_of_blk HDB.out)).trans y1, (hb.cell (p := ⟨b5, 2, none⟩) (lt_of_blk HDB.out)).trans y2, (hb.cell (p := ⟨b5, 3, none⟩) (lt_of_blk HDB.out)).trans y3, (hb.cell (p := ⟨b5, 4, none⟩) (lt_of_blk HDB.out)).trans y4, (hb.cell (p := ⟨b5, 5, none⟩) (lt_of_blk HDB.out)).trans y5, (hb.cell (p := ⟨b5, 6, none⟩) (lt_of_blk HDB.out)).trans y6, (hb.cell (p := ⟨b5, 7, none⟩) (lt_of_blk HDB.out)).trans y7⟩⟩
    refine wp_regionE (fun w' => w'.cell? ⟨b4, 0, none⟩ = some (.int .i64 c.k) ∧ w'.cell? ⟨b4, 1, none⟩ = some (.int .i64 c.s) ∧ w'.cell? ⟨b4, 2, none⟩ = some (.int .i64 c.n) ∧ w'.cell? ⟨b4, 3, none⟩ = some (.int .i64 c.m) ∧ w'.cell? ⟨b4, 4, none⟩ = some (.slice B.a c.bits.length B.c) ∧ w'.cell? ⟨b4, 5, none⟩ = some (.slice D.a c.data.length D.c) ∧ w'.cell? ⟨b4, 6, none⟩ = some (.slice E.a c.ends.length E.c) ∧ w'.cell? ⟨b4, 7, none⟩ = some (.slice X.a c.words.length X.c) ∧ w'.cell? ⟨b5, 0, none⟩ = some (.int .i64 d.k) ∧ w'.cell? ⟨b5, 1, none⟩ = some (.int .i64 d.s) ∧ w'.cell? ⟨b5, 2, none⟩ = some (.int .i64 d.n) ∧ w'.cell? ⟨b5, 3, none⟩ = some (.int .i64 d.m) ∧ w'.cell? ⟨b5, 4, none⟩ = some (.slice B2.a d.bits.length B2.c) ∧ w'.cell? ⟨b5, 5, none⟩ = some (.slice D2.a d.data.length D2.c) ∧ w'.cell? ⟨b5, 6, none⟩ = some (.slice E2.a d.ends.length E2.c) ∧ w'.cell? ⟨b5, 7, none⟩ = some (.slice X2.a d.words.length X2.c)) 7 8 (by kernel_rfl) rfl ?_
    have hS : (fun w' => w'.cell? ⟨b4, 0, none⟩ = some (.int .i64 c.k) ∧ w'.cell? ⟨b4, 1, none⟩ = some (.int .i64 c.s) ∧ w'.cell? ⟨b4, 2, none⟩ = some (.int .i64 c.n) ∧ w'.cell? ⟨b4, 3, none⟩ = some (.int .i64 c.m) ∧ w'.cell? ⟨b4, 4, none⟩ = some (.slice B.a c.bits.length B.c) ∧ w'.cell? ⟨b4, 5, none⟩ = some (.slice D.a c.data.length D.c) ∧ w'.cell? ⟨b4, 6, none⟩ = some (.slice E.a c.ends.length E.c) ∧ w'.cell? ⟨b4, 7, none⟩ = some (.slice X.a c.words.length X.c) ∧ w'.cell? ⟨b5, 0, none⟩ = some (.int .i64 d.k) ∧ w'.cell? ⟨b5, 1, none⟩ = some (.int .i64 d.s) ∧ w'.cell? ⟨b5, 2, none⟩ = some (.int .i64 d.n) ∧ w'.cell? ⟨b5, 3, none⟩ = some (.int .i64 d.m) ∧ w'.cell? ⟨b5, 4, none⟩ = some (.slice B2.a d.bits.length B2.c) ∧ w'.cell? ⟨b5, 5, none⟩ = some (.slice D2.a d.data.length D2.c) ∧ w'.cell? ⟨b5, 6, none⟩ = some (.slice E2.a d.ends.length E2.c) ∧ w'.cell? ⟨b5, 7, none⟩ = some (.slice X2.a d.words.length X2.c)) w4.drew := HSB.out _ (below_drewN w4 _ 1)
    clear x0 x1 x2 x3 x4 x5 x6 x7 y0 y1 y2 y3 y4 y5 y6 y7
    refine wpE_take (k := 0) (o := ⟨some 27, _, _, _, _, _⟩) (v := ?_) rfl (by kernel_rfl) (by kernel_rfl) (by kernel_rfl) (by kernel_rfl) (fun _ _ _ h => h) (Or.inl ⟨by rfl, ?_⟩) (by assumption) ?_
    rotate_left
    · (intro w hSw; (try dsimp only at hSw); go_simp; (try with_reducible rfl))
    (try simp only [Act.put, List.setIfInBounds_toArray, List.set_cons_zero, List.set_cons_succ])
    refine wpE_take (k := 2) (o := ⟨some 29, _, _, _, _, _⟩) (v := ?_) rfl (by kernel_rfl) (by kernel_rfl) (by kernel_rfl) (by kernel_rfl) (fun _ _ _ h => h) (Or.inl ⟨by rfl, ?_⟩) (by assumption) ?_
    rotate_left
    · (intro w hSw; (try dsimp only at hSw); go_simp; (try with_reducible rfl))
    (try simp only [Act.put, List.setIfInBounds_toArray, List.set_cons_zero, List.set_cons_succ])
    refine wpE_until (q := 6) (Inv := fun l a w' => ∃ vals : Nat → Value, a = { tmps := #[.agg #[.int .i64 ty, .slice A.a ln A.c, .slice A2.a mn A2.c, .int .i64 wh, .int .i64 wat, .int .i64 wby, .int .i64 i, .int .i64 j], .pointer (some ⟨w.heap.size, 0, none⟩), .bool false, .pointer (some ⟨w1.heap.size, 0, none⟩), .pointer (some ⟨b4, 0, none⟩), .pointer (some ⟨b5, 0, none⟩), vals 4, vals 5, undef, .pointer (some ⟨w.heap.size, 0, none⟩), .int .i64 ty, .agg #[.int .i64 k, .int .i64 s], .agg #[.int .i64 k, .int .i64 s], .agg #[.int .i64 k, .int .i64 s], .pointer (some ⟨w.heap.size, 1, none⟩), .slice A.a ln A.c, u4, u5, .pointer (some ⟨w.heap.size, 3, none⟩), .agg #[.int .i64 wh, .int .i64 wat, .int .i64 wby], .agg #[.int .i64 c.k, .int .i64 c.s, .int .i64 c.n, .int .i64 c.m, .slice B.a c.bits.length B.c, .slice D.a c.data.length D.c, .slice E.a c.ends.length E.c, .slice X.a c.words.length X.c], .agg #[.int .i64 k, .int .i64 s], .agg #[.int .i64 k, .int .i64 s], .pointer (some ⟨w.heap.size, 2, none⟩), .slice A2.a mn A2.c, u13, .agg #[.int .i64 d.k, .int .i64 d.s, .int .i64 d.n, .int .i64 d.m, .slice B2.a d.bits.length B2.c, .slice D2.a d.data.length D2.c, .slice E2.a d.ends.length E2.c, .slice X2.a d.words.length X2.c], .agg #[.int .i64 c.k, .int .i64 c.s, .int .i64 c.n, .int .i64 c.m, .slice B.a c.bits.length B.c, .slice D.a c.data.length D.c, .slice E.a c.ends.length E.c, .slice X.a c.words.length X.c], vals 1, .agg #[.int .i64 d.k, .int .i64 d.s, .int .i64 d.n, .int .i64 d.m, .slice B2.a d.bits.length B2.c, .slice D2.a d.data.length D2.c, .slice E2.a d.ends.length E2.c, .slice X2.a d.words.length X2.c], vals 3, undef, undef, undef, undef, undef, undef, undef, undef, undef, undef, undef, undef, undef, undef, undef, undef, undef, undef, undef, undef, undef, undef, undef, undef, undef, undef, undef, undef, undef, undef, undef, undef, undef, undef, undef, undef, undef, undef, undef], defers := [] } ∧ Taken 8 [0, 2] l ∧ Below w4.heap.size w4 w' ∧ (∀ j, l.getD j false = true → F3 w4.heap.size c d j (vals j) w') ∧ Two l 4 5 vals ∧ l.getD 6 false = false ∧ l.getD 7 false = false) ?step3 ?some3 ?last3 6 _ _ _ (Nat.le_of_eq (by kernel_rfl)) ?start3
    case start3 =>
      refine ⟨fun _ => undef, rfl, ⟨by kernel_rfl, by simp⟩, below_drewN w4 _ 1, fun j hj => ?_, fun h => ?_, by kernel_rfl, by kernel_rfl⟩
      · exact ⟨fun e => by subst e; exact absurd hj (by decide), fun e => by subst e; exact absurd hj (by decide), fun e => by subst e; exact absurd hj (by decide), fun e => by subst e; exact absurd hj (by decide)⟩
      · exact absurd h (by decide)
    case some3 =>
      rintro l a wr ⟨vals, rfl, hT, hb, hf, hd, h17, h18⟩
      exact ready_some 8 (by kernel_rfl) 6 (by decide) (hT.open_at (by decide) h17)
    case step3 =>
      rintro l _ wr ⟨vals, rfl, hT, hb, hf, hd, h17, h18⟩ kk hkk hq
      have h19 := hT.lt hkk
      obtain rfl | rfl | rfl | rfl | rfl | rfl | rfl | rfl : kk = 0 ∨ kk = 1 ∨ kk = 2 ∨ kk = 3 ∨ kk = 4 ∨ kk = 5 ∨ kk = 6 ∨ kk = 7 := by omega
      · exact (hT.no hkk (by decide)).elim
      · refine wpOp_step (o := ⟨some 28, _, _, _, _, _⟩) rfl (fun K hK => ?_)
        refine step_call (P := Tryz.prog) wr (by rfl) 27 [.tmp 27] _ (by rfl) [.agg #[.int .i64 c.k, .int .i64 c.s, .int .i64 c.n, .int .i64 c.m, .slice B.a c.bits.length B.c, .slice D.a c.data.length D.c, .slice E.a c.ends.length E.c, .slice X.a c.words.length X.c]] (by rfl) (fun _ _ => rfl) (twin18 c B D E X va HCF.out.1.ld HCF.out.1.lb HCF.out.1.le HCF.out.1.lw (fun t ht => (HCF.out.1.words t ht).2) wr (HOC.out.rd.below hb)) ?_
        rintro e wc ⟨B', D', E', X', va', rfl, ho', hbc⟩
        refine ⟨_, rfl, ?_⟩
        have hb' := below_chain hb hbc
        exact hK _ _ ⟨HSB.out _ hb', upd vals 1 (colV c B' D' E' X'), by rfl, hT.set 1, hb', facts_set F3.below hf hbc ⟨fun _ => ⟨B', D', E', X', va', rfl, ho'.mono hb.size⟩, (fun e => absurd e (by decide)), (fun e => absurd e (by decide)), (fun e => absurd e (by decide))⟩, hd.set (by decide) (by decide) _, by rw [getD_set_ne false (by decide)]; exact h17, by rw [getD_set_ne false (by decide)]; exact h18⟩
      · exact (hT.no hkk (by decide)).elim
      · refine wpOp_step (o := ⟨some 30, _, _, _, _, _⟩) rfl (fun K hK => ?_)
        refine step_call (P := Tryz.prog) wr (by rfl) 27 [.tmp 29] _ (by rfl) [.agg #[.int .i64 d.k, .int .i64 d.s, .int .i64 d.n, .int .i64 d.m, .slice B2.a d.bits.length B2.c, .slice D2.a d.data.length D2.c, .slice E2.a d.ends.length E2.c, .slice X2.a d.words.length X2.c]] (by rfl) (fun _ _ => rfl) (twin18 d B2 D2 E2 X2 vb HDF.out.1.ld HDF.out.1.lb HDF.out.1.le HDF.out.1.lw (fun t ht => (HDF.out.1.words t ht).2) wr (HOD.out.rd.below hb)) ?_
        rintro e wc ⟨B', D', E', X', va', rfl, ho', hbc⟩
        refine ⟨_, rfl, ?_⟩
        have hb' := below_chain hb hbc
        exact hK _ _ ⟨HSB.out _ hb', upd vals 3 (colV d B' D' E' X'), by rfl, hT.set 3, hb', facts_set F3.below hf hbc ⟨(fun e => absurd e (by decide)), fun _ => ⟨B', D', E', X', va', rfl, ho'.mono hb.size⟩, (fun e => absurd e (by decide)), (fun e => absurd e (by decide))⟩, hd.set (by decide) (by decide) _, by rw [getD_set_ne false (by decide)]; exact h17, by rw [getD_set_ne false (by decide)]; exact h18⟩
      · refine wpOp_step (o := ⟨some 6, _, _, _, _, _⟩) rfl (fun K hK => ?_)
        go_simp
        have hbc := below_new wr (.cells #[.int .i64 0, .int .i64 0, .int .i64 0, .int .i64 0, .slice none 0 0, .slice none 0 0, .slice none 0 0, .slice none 0 0] 63)
        have hb' := below_chain hb hbc
        refine hK _ _ ⟨HSB.out _ hb', upd vals 4 (.pointer (some ⟨wr.heap.size, 0, none⟩)), by rfl, hT.set 4, hb', facts_set F3.below hf hbc ⟨(fun e => absurd e (by decide)), (fun e => absurd e (by decide)), fun _ => ⟨wr.heap.size, rfl, hb.size, heap_alloc_new wr _⟩, (fun e => absurd e (by decide))⟩, two_new (by decide) (fun h => (hf 5 h).2.2.2 rfl), by rw [getD_set_ne false (by decide)]; exact h17, by rw [getD_set_ne false (by decide)]; exact h18⟩
      · refine wpOp_step (o := ⟨some 7, _, _, _, _, _⟩) rfl (fun K hK => ?_)
        go_simp
        have hbc := below_new wr (.cells #[.int .i64 0, .int .i64 0, .int .i64 0, .int .i64 0, .slice none 0 0, .slice none 0 0, .slice none 0 0, .slice none 0 0] 63)
        have hb' := below_chain hb hbc
        refine hK _ _ ⟨HSB.out _ hb', upd vals 5 (.pointer (some ⟨wr.heap.size, 0, none⟩)), by rfl, hT.set 5, hb', facts_set F3.below hf hbc ⟨(fun e => absurd e (by decide)), (fun e => absurd e (by decide)), (fun e => absurd e (by decide)), fun _ => ⟨wr.heap.size, rfl, hb.size, heap_alloc_new wr _⟩⟩, two_new2 (by decide) (fun h => (hf 4 h).2.2.1 rfl), by rw [getD_set_ne false (by decide)]; exact h17, by rw [getD_set_ne false (by decide)]; exact h18⟩
      · exact absurd rfl hq
      · have := waits_spec (j := 6) hkk (by kernel_rfl)
        rw [h17] at this; cases this
    case last3 =>
      rintro n2 l _ wr ⟨vals, rfl, hT, hb, hf, hd, h17, h18⟩ hkk hn
      have hall : l = #[true, true, true, true, true, true, false, false] := array_at hT.1 (fun j hj => by
        have hj19 : j < 8 := hj
        obtain rfl | rfl | rfl | rfl | rfl | rfl | rfl | rfl : j = 0 ∨ j = 1 ∨ j = 2 ∨ j = 3 ∨ j = 4 ∨ j = 5 ∨ j = 6 ∨ j = 7 := by omega
        · exact hT.2 _ (by decide)
        · exact waits_spec hkk (by kernel_rfl)
        · exact hT.2 _ (by decide)
        · exact waits_spec hkk (by kernel_rfl)
        · exact waits_spec hkk (by kernel_rfl)
        · exact waits_spec hkk (by kernel_rfl)
        · exact h17
        · exact h18)
      subst hall
      clear hT h17 h18 hkk
      obtain ⟨n2, rfl⟩ : ∃ n', n2 = n' + 2 := ⟨n2 - 2, by have h2 : open_ #[true, true, true, true, true, true, false, false] = 2 := (by kernel_rfl); rw [h2] at hn; omega⟩
      clear hn
      obtain ⟨B3, D3, E3, X3, vc, e8, ho8⟩ := (hf 1 rfl).1 rfl
      obtain ⟨B4, D4, E4, X4, vd, e14, ho14⟩ := (hf 3 rfl).2.1 rfl
      obtain ⟨b6, e15, hb6, hz6⟩ := (hf 4 rfl).2.2.1 rfl
      obtain ⟨b7, e16, hb7, hz7⟩ := (hf 5 rfl).2.2.2 rfl
      have hne : b7 ≠ b6 := fun e => hd rfl rfl (by rw [e15, e16, e])
      rw [e15, e16, e8, e14]
      clear hf hd e15 e16 e8 e14
      dsimp only [colV]
      have K8 := kept8 wr b6 (.int .i64 c.k) (.int .i64 c.s) (.int .i64 c.n) (.int .i64 c.m) (.slice B3.a c.bits.length B3.c) (.slice D3.a c.data.length D3.c) (.slice E3.a c.ends.length E3.c) (.slice X3.a c.words.length X3.c)
      have h4 := set8 hz6 (.int .i64 c.k) (.int .i64 c.s) (.int .i64 c.n) (.int .i64 c.m) (.slice B3.a c.bits.length B3.c) (.slice D3.a c.data.length D3.c) (.slice E3.a c.ends.length E3.c) (.slice X3.a c.words.length X3.c)
      have hS4 := set8_below hb hb6 (.int .i64 c.k) (.int .i64 c.s) (.int .i64 c.n) (.int .i64 c.m) (.slice B3.a c.bits.length B3.c) (.slice D3.a c.data.length D3.c) (.slice E3.a c.ends.length E3.c) (.slice X3.a c.words.length X3.c)
      have hz5' := (K8.block b7 (lt_of_blk hz7) hne).trans hz7
      have hoc := ho8.turnT hz6 K8
      have hod := ho14.turnT hz6 K8
      have HF4 := Aside.mk (And.intro h4 (And.intro hS4 (And.intro hz5' (And.intro hoc hod))))
      have HL2 := Aside.mk (And.intro hb6 (And.intro hb7 hne))
      obtain ⟨z0, z1, z2, z3, z4, z5, z6, z7⟩ := box8 hz6
      have zf := fun k => frozen_blk (k := k) hz6
      have zl := lt_of_blk hz6
      clear K8 h4 hS4 hz5' hoc hod ho8 ho14 hz7 hz6 hb hb6 hb7 hne
      refine wpE_one (k := 6) (o := ⟨none, _, _, _, _, _⟩) rfl (by kernel_rfl) (fun K hK => ?_)
      go_simp
      refine hK.out _ _ (HSB.out _ HF4.out.2.1) (fun hS => ?_)
      clear hK K z0 z1 z2 z3 z4 z5 z6 z7 zf zl hS
      try simp only [Act.put, List.setIfInBounds_toArray, List.set_cons_zero, List.set_cons_succ]
      generalize ((((((((wr.setCell ⟨b6, 0, none⟩ (.int .i64 c.k)).setCell ⟨b6, 1, none⟩ (.int .i64 c.s)).setCell ⟨b6, 2, none⟩ (.int .i64 c.n)).setCell ⟨b6, 3, none⟩ (.int .i64 c.m)).setCell ⟨b6, 4, none⟩ (.slice B3.a c.bits.length B3.c)).setCell ⟨b6, 5, none⟩ (.slice D3.a c.data.length D3.c)).setCell ⟨b6, 6, none⟩ (.slice E3.a c.ends.length E3.c)).setCell ⟨b6, 7, none⟩ (.slice X3.a c.words.length X3.c)) = w5 at *
      obtain ⟨z0, z1, z2, z3, z4, z5, z6, z7⟩ := box8 HF4.out.2.2.1
      have zf := fun k => frozen_blk (k := k) HF4.out.2.2.1
      have zl := lt_of_blk HF4.out.2.2.1
      refine wpE_last (k := 7) (o := ⟨none, _, _, _, _, _⟩) rfl (by kernel_rfl) (by kernel_rfl) rfl (fun K hK => ?_)
      go_simp
      refine hK.out _ _ ?_
      clear hK K z0 z1 z2 z3 z4 z5 z6 z7 zf zl
      have K8 := kept8 w5 b7 (.int .i64 d.k) (.int .i64 d.s) (.int .i64 d.n) (.int .i64 d.m) (.slice B4.a d.bits.length B4.c) (.slice D4.a d.data.length D4.c) (.slice E4.a d.ends.length E4.c) (.slice X4.a d.words.length X4.c)
      have H6B := Aside.mk ((K8.block b6 (lt_of_blk HF4.out.1) (Ne.symm HL2.out.2.2)).trans HF4.out.1)
      have H7B := Aside.mk (set8 HF4.out.2.2.1 (.int .i64 d.k) (.int .i64 d.s) (.int .i64 d.n) (.int .i64 d.m) (.slice B4.a d.bits.length B4.c) (.slice D4.a d.data.length D4.c) (.slice E4.a d.ends.length E4.c) (.slice X4.a d.words.length X4.c))
      have HB6 := Aside.mk (set8_below HF4.out.2.1 HL2.out.2.1 (.int .i64 d.k) (.int .i64 d.s) (.int .i64 d.n) (.int .i64 d.m) (.slice B4.a d.bits.length B4.c) (.slice D4.a d.data.length D4.c) (.slice E4.a d.ends.length E4.c) (.slice X4.a d.words.length X4.c))
      have HO6 := Aside.mk (HF4.out.2.2.2.1.turnT HF4.out.2.2.1 K8)
      have HO7 := Aside.mk (HF4.out.2.2.2.2.turnT HF4.out.2.2.1 K8)
      clear HF4 K8 HSB
      generalize ((((((((w5.setCell ⟨b7, 0, none⟩ (.int .i64 d.k)).setCell ⟨b7, 1, none⟩ (.int .i64 d.s)).setCell ⟨b7, 2, none⟩ (.int .i64 d.n)).setCell ⟨b7, 3, none⟩ (.int .i64 d.m)).setCell ⟨b7, 4, none⟩ (.slice B4.a d.bits.length B4.c)).setCell ⟨b7, 5, none⟩ (.slice D4.a d.data.length D4.c)).setCell ⟨b7, 6, none⟩ (.slice E4.a d.ends.length E4.c)).setCell ⟨b7, 7, none⟩ (.slice X4.a d.words.length X4.c)) = w6 at *
      replace HCB := Aside.mk ((HB6.out.block _ (lt_of_blk HCB.out)).trans HCB.out)
      replace HDB := Aside.mk ((HB6.out.block _ (lt_of_blk HDB.out)).trans HDB.out)
      replace HAX := Aside.mk ((HB6.out.block _ (lt_of_blk HAX.out)).trans HAX.out)
      replace HOC := Aside.mk (HOC.out.below HB6.out)
      replace HOD := Aside.mk (HOD.out.below HB6.out)
      replace HBW := Aside.mk (below_chain HBW.out HB6.out)
      clear HB6 HL HL2
      go_upto_region 5 with fail
      have hbk := BK.new w6
      have hbn := below_new w6 (.cells #[.slice none 0 0, .slice none 0 0, .slice none 0 0, .slice none 0 0, .slice none 0 0, .slice none 0 0] 41)
      generalize w6.alloc (.cells #[.slice none 0 0, .slice none 0 0, .slice none 0 0, .slice none 0 0, .slice none 0 0, .slice none 0 0] 41) = w7 at *
      have HBK := Aside.mk hbk
      have HB := Aside.mk hbn
      clear hbk hbn hS
      obtain ⟨x0, x1, x2, x3, x4, x5, x6, x7⟩ := box8 ((HB.out.block _ (lt_of_blk HCB.out)).trans HCB.out)
      obtain ⟨y0, y1, y2, y3, y4, y5, y6, y7⟩ := box8 ((HB.out.block _ (lt_of_blk HDB.out)).trans HDB.out)
      obtain ⟨a0, a1, a2, a3, a4, a5, a6, a7⟩ := box8 ((HB.out.block _ (lt_of_blk HAX.out)).trans HAX.out)
      go_wp2_with fail
      refine (asks_any c d HCF.out.1 HDF.out.1 HCF.out.2.1 HDF.out.2.1 (fun e1 e2 => by have := HCF.out.2.2 e1; have := HDF.out.2.2; omega) B D E X B2 D2 E2 X2 va vb w6 HOC.out HOD.out w6.heap.size i j w7 HB.out HBK.out).mono ?_
      rintro e w8 ⟨rfl, hb, hk⟩
      replace HBK := Aside.mk hk
      replace HB := Aside.mk hb
      clear hb hk x0 x1 x2 x3 x4 x5 x6 x7 y0 y1 y2 y3 y4 y5 y6 y7 a0 a1 a2 a3 a4 a5 a6 a7
      obtain ⟨x0, x1, x2, x3, x4, x5, x6, x7⟩ := box8 ((HB.out.block _ (lt_of_blk HCB.out)).trans HCB.out)
      obtain ⟨y0, y1, y2, y3, y4, y5, y6, y7⟩ := box8 ((HB.out.block _ (lt_of_blk HDB.out)).trans HDB.out)
      obtain ⟨a0, a1, a2, a3, a4, a5, a6, a7⟩ := box8 ((HB.out.block _ (lt_of_blk HAX.out)).trans HAX.out)
      go_wp2_with fail
      refine (asks_any d c HDF.out.1 HCF.out.1 HDF.out.2.1 HCF.out.2.1 (fun e1 e2 => by have := HCF.out.2.2 e2; have := HDF.out.2.2; omega) B2 D2 E2 X2 B D E X vb va w6 HOD.out HOC.out w6.heap.size j i w8 HB.out HBK.out).mono ?_
      rintro e w9 ⟨rfl, hb, hk⟩
      replace HBK := Aside.mk hk
      replace HB := Aside.mk hb
      clear hb hk x0 x1 x2 x3 x4 x5 x6 x7 y0 y1 y2 y3 y4 y5 y6 y7 a0 a1 a2 a3 a4 a5 a6 a7
      obtain ⟨x0, x1, x2, x3, x4, x5, x6, x7⟩ := box8 ((HB.out.block _ (lt_of_blk HCB.out)).trans HCB.out)
      obtain ⟨y0, y1, y2, y3, y4, y5, y6, y7⟩ := box8 ((HB.out.block _ (lt_of_blk H6B.out)).trans H6B.out)
      go_wp2_with fail
      refine (equal_col c c HCF.out.1 HCF.out.1 B D E X B3 D3 E3 X3 va vc w9 (HOC.out.rd.below HB.out) (HO6.out.rd.below HB.out)).mono ?_
      rintro e w10 ⟨rfl, hb⟩
      rw [equalC_refl]
      replace HBK := Aside.mk (HBK.out.below hb)
      replace HB := Aside.mk (below_chain HB.out hb)
      clear hb x0 x1 x2 x3 x4 x5 x6 x7 y0 y1 y2 y3 y4 y5 y6 y7
      obtain ⟨x0, x1, x2, x3, x4, x5, x6, x7⟩ := box8 ((HB.out.block _ (lt_of_blk HDB.out)).trans HDB.out)
      obtain ⟨y0, y1, y2, y3, y4, y5, y6, y7⟩ := box8 ((HB.out.block _ (lt_of_blk H7B.out)).trans H7B.out)
      go_wp2_with fail
      refine (equal_col d d HDF.out.1 HDF.out.1 B2 D2 E2 X2 B4 D4 E4 X4 vb vd w10 (HOD.out.rd.below HB.out) (HO7.out.rd.below HB.out)).mono ?_
      rintro e w11 ⟨rfl, hb⟩
      rw [equalC_refl]
      replace HBK := Aside.mk (HBK.out.below hb)
      replace HB := Aside.mk (below_chain HB.out hb)
      clear hb x0 x1 x2 x3 x4 x5 x6 x7 y0 y1 y2 y3 y4 y5 y6 y7
      go_wp2_with fail
      refine (book_close _ w6.heap.size w11 HBK.out).mono ?_
      rintro e w12 ⟨rfl, hk⟩
      replace HB := Aside.mk (HB.out.trans (hk.to_below HB.out.size (fun k e => e)))
      clear hk
      go_wp2_with fail
      refine (wakes_any w12).mono ?_
      rintro e w13 ⟨rfl, hb⟩
      replace HB := Aside.mk (below_chain HB.out hb)
      clear hb
      go_wp2_with fail
      go_ret
      exact ⟨rfl, below_chain HBW.out HB.out⟩
end Go.Proofs.YtmhjjhaipcgbiaaGreat
