/- Texts of this claim, one behind the other: Inv, Kind2, AskA. -/
import Derived.Test.YtmhjjhaipcgbiaaGreatZooP36
import Derived.Test.YtmhjjhaipcgbiaaGreatZooP46
import Derived.Test.YtmhjjhaipcgbiaaGreatZooP44
import Derived.Test.YtmhjjhaipcgbiaaGreatZooP47
import Derived.Test.YtmhjjhaipcgbiaaGreatZooP23
import Derived.Test.YtmhjjhaipcgbiaaGreatZooP22

namespace Go.Proofs.YtmhjjhaipcgbiaaGreat
open Go.RowKit
set_option linter.unusedVariables false
section
variable {P : Program} {ops : Array Oper} {Q : Exit → Act → World → Prop} {md : Region.Mode}
theorem ready_open {l : Array Bool} {k : Nat} (h : k ∈ Region.ready md ops l) : l[k]? = some false := by
  have h1 := (mem_ready.1 h).1
  rcases Nat.lt_or_ge k l.size with hl | hl
  · rw [Array.getElem?_eq_getElem hl]; simpa [hl] using h1
  · simp [Array.getElem?_eq_none hl] at h1
def upd (f : Nat → Value) (k : Nat) (v : Value) : Nat → Value := fun j => if j = k then v else f j
def Taken (n : Nat) (ks : List Nat) (l : Array Bool) : Prop := l.size = n ∧ ∀ k ∈ ks, l.getD k false = true
theorem Taken.set {n : Nat} {ks : List Nat} {l : Array Bool} (h : Taken n ks l) (k : Nat) : Taken n ks (l.setIfInBounds k true) := ⟨by simpa using h.1, fun j hj => getD_set_true (h.2 j hj)⟩
theorem Taken.no {n : Nat} {ks : List Nat} {l : Array Bool} (h : Taken n ks l) {k : Nat} (hk : k ∈ Region.ready md ops l) (hm : k ∈ ks) : False := by
  have h1 := h.2 k hm
  have h2 := (Array.getElem?_eq_some_iff.1 (ready_open hk))
  obtain ⟨h3, h4⟩ := h2
  simp [h3, h4] at h1
theorem Taken.lt {n : Nat} {ks : List Nat} {l : Array Bool} (h : Taken n ks l) {k : Nat} (hk : k ∈ Region.ready md ops l) : k < n := by
  rw [← h.1]; exact (Array.getElem?_eq_some_iff.1 (ready_open hk)).1
end
end Go.Proofs.YtmhjjhaipcgbiaaGreat


namespace Go.Proofs.YtmhjjhaipcgbiaaGreat
open Go.RowKit
set_option linter.unusedVariables false
set_option linter.unusedSimpArgs false
set_option maxRecDepth 100000
set_option maxHeartbeats 200000
theorem within_1 (n : Int) (w : World) : Calls Tryz.prog 15 #[.int .i64 n, .int .i64 1, .int .i64 16] w fun e w' => e = .returned (.int .i64 (withinI n 1 16)) ∧ w = w' := within_any n 1 16 (by omega) (by omega) (by omega) w
theorem within_0 (n : Int) (w : World) : Calls Tryz.prog 15 #[.int .i64 n, .int .i64 0, .int .i64 18] w fun e w' => e = .returned (.int .i64 (withinI n 0 18)) ∧ w = w' := within_any n 0 18 (by omega) (by omega) (by omega) w
def kindI (n : Int) : Int := withinI n 1 16
def scaleI (n : Int) : Int := if kindI n = 12 then withinI (n / 16) 0 18 else 0
theorem kind_any (n : Int) (w : World) : Calls Tryz.prog 24 #[.int .i64 n] w fun e w' => e = .returned (.agg #[.int .i64 (kindI n), .int .i64 (scaleI n)]) ∧ Below w.heap.size w w' := by
  by_cases h : kindI n = 12
  · have hk : withinI n 1 16 = 12 := h
    have hs : Aside (scaleI n = withinI (n / 16) 0 18) := ⟨by unfold scaleI; rw [if_pos h]⟩
    have hk := Aside.mk hk
    clear h
    go_enter Tryz.func24, Tryz.ntmps24
    go_wp2_with (fail)
    refine (within_1 _ _).mono ?_
    rintro e w1 ⟨rfl, rfl⟩
    rw [hk.out]
    go_wp2_with (fail)
    refine (within_0 _ _).mono ?_
    rintro e w1 ⟨rfl, rfl⟩
    go_wp2_with (fail)
    refine bodyPost_ret (v := .agg #[.int .i64 12, .int .i64 (withinI (n / 16) 0 18)]) (by simp [results, Tryz.results24, go_sem]) rfl ⟨?_, (by repeat (first | exact Below.refl _ _ | assumption | (refine Below.drew ?_) | (refine Below.trans ?_ (below_drewN _ _ _)) | (refine Below.alloc ?_ (by first | omega | (simp; done) | (simp; omega)) _) | (refine Below.setCell ?_ (by first | omega | (simp; done) | (simp; omega)) _)))⟩
    rw [hs.out, kindI, hk.out]
  · have hk : (withinI n 1 16 == 12) = false := by simpa [kindI] using h
    have hs : Aside (scaleI n = 0) := ⟨by unfold scaleI; rw [if_neg h]⟩
    have hu : Aside (kindI n = withinI n 1 16) := ⟨rfl⟩
    clear h
    go_enter Tryz.func24, Tryz.ntmps24
    go_wp2_with (fail)
    refine (within_1 _ _).mono ?_
    rintro e w1 ⟨rfl, rfl⟩
    go_wp2_with (fail)
    refine bodyPost_ret (v := .agg #[.int .i64 (withinI n 1 16), .int .i64 0]) (by simp [results, Tryz.results24, go_sem]) rfl ⟨?_, (by repeat (first | exact Below.refl _ _ | assumption | (refine Below.drew ?_) | (refine Below.trans ?_ (below_drewN _ _ _)) | (refine Below.alloc ?_ (by first | omega | (simp; done) | (simp; omega)) _) | (refine Below.setCell ?_ (by first | omega | (simp; done) | (simp; omega)) _)))⟩
    rw [hs.out, hu.out]
theorem kind_ok (n : Int) : okType (kindI n) (scaleI n) = true := by
  unfold okType scaleI kindI withinI
  simp only [decide_eq_true_eq]
  split <;> omega
end Go.Proofs.YtmhjjhaipcgbiaaGreat


namespace Go.Proofs.YtmhjjhaipcgbiaaGreat
open Go.RowKit
set_option linter.unusedVariables false
set_option linter.unusedSimpArgs false
set_option maxRecDepth 100000
set_option maxHeartbeats 4000000
def FVals (k s : Int) (v : Value) (w' : World) : Prop := ∃ (r : List V) (A : SL), v = .slice A.a r.length A.c ∧ (r.length ≤ 120 ∧ ∀ v ∈ r, vOK k s v ∧ v.text.length ≤ 40) ∧ RdVs w' A r
def FCol (B0 : Nat) (c : Col) (v : Value) (w' : World) : Prop := ∃ B D E X va, v = colV c B D E X ∧ OwnC w' B0 c B D E X va
def FLay (B0 : Nat) (k s : Int) (v : Value) (w' : World) : Prop := ∃ r : List V, (r.length ≤ 120 ∧ ∀ v ∈ r, vOK k s v ∧ v.text.length ≤ 40) ∧ FCol B0 (colOf k s r) v w'
def FSp (B0 : Nat) (k s wh wat wby : Int) (v : Value) (w' : World) : Prop := ∃ r : List V, (r.length ≤ 120 ∧ ∀ v ∈ r, vOK k s v ∧ v.text.length ≤ 40) ∧ FCol B0 (spoilC (colOf k s r) wh wat wby) v w'
abbrev zeroB : Obj := .cells #[.int .i64 0, .int .i64 0, .int .i64 0, .int .i64 0, .slice none 0 0, .slice none 0 0, .slice none 0 0, .slice none 0 0] 63 (0, 0)
def FBox (B0 : Nat) (v : Value) (w' : World) : Prop := ∃ b : Nat, v = .pointer (some ⟨b, 0, none⟩) ∧ B0 ≤ b ∧ w'.heap[b]? = some zeroB
def FA (B0 : Nat) (k s wh wat wby : Int) (j : Nat) (v : Value) (w' : World) : Prop :=
  (j = 4 → FVals k s v w') ∧ (j = 5 → FLay B0 k s v w') ∧ (j = 8 → FSp B0 k s wh wat wby v w') ∧ (j = 13 → FVals k s v w') ∧ (j = 14 → FLay B0 k s v w') ∧ (j = 15 → FBox B0 v w') ∧ (j = 16 → FBox B0 v w')
theorem FVals.below {k s : Int} {v : Value} {w w' : World} (h : FVals k s v w) (hb : Below w.heap.size w w') : FVals k s v w' := by
  obtain ⟨r, A, e, h1, h2⟩ := h; exact ⟨r, A, e, h1, h2.below hb⟩
theorem FCol.below {B0 : Nat} {c : Col} {v : Value} {w w' : World} (h : FCol B0 c v w) (hb : Below w.heap.size w w') : FCol B0 c v w' := by
  obtain ⟨B, D, E, X, va, e, h1⟩ := h; exact ⟨B, D, E, X, va, e, h1.below hb⟩
theorem FLay.below {B0 : Nat} {k s : Int} {v : Value} {w w' : World} (h : FLay B0 k s v w) (hb : Below w.heap.size w w') : FLay B0 k s v w' := by
  obtain ⟨r, h1, h2⟩ := h; exact ⟨r, h1, h2.below hb⟩
theorem FSp.below {B0 : Nat} {k s wh wat wby : Int} {v : Value} {w w' : World} (h : FSp B0 k s wh wat wby v w) (hb : Below w.heap.size w w') : FSp B0 k s wh wat wby v w' := by
  obtain ⟨r, h1, h2⟩ := h; exact ⟨r, h1, h2.below hb⟩
theorem FBox.below {B0 : Nat} {v : Value} {w w' : World} (h : FBox B0 v w) (hb : Below w.heap.size w w') : FBox B0 v w' := by
  obtain ⟨b, e, h1, h2⟩ := h; exact ⟨b, e, h1, (hb.block _ (lt_of_blk h2)).trans h2⟩
theorem FA.below {B0 : Nat} {k s wh wat wby : Int} (j : Nat) (v : Value) (w w' : World) (h : FA B0 k s wh wat wby j v w) (hb : Below w.heap.size w w') : FA B0 k s wh wat wby j v w' :=
  ⟨fun e => (h.1 e).below hb, fun e => (h.2.1 e).below hb, fun e => (h.2.2.1 e).below hb, fun e => (h.2.2.2.1 e).below hb, fun e => (h.2.2.2.2.1 e).below hb, fun e => (h.2.2.2.2.2.1 e).below hb, fun e => (h.2.2.2.2.2.2 e).below hb⟩
def F3 (B0 : Nat) (c d : Col) (j : Nat) (v : Value) (w' : World) : Prop := (j = 1 → FCol B0 c v w') ∧ (j = 3 → FCol B0 d v w') ∧ (j = 4 → FBox B0 v w') ∧ (j = 5 → FBox B0 v w')
theorem F3.below {B0 : Nat} {c d : Col} (j : Nat) (v : Value) (w w' : World) (h : F3 B0 c d j v w) (hb : Below w.heap.size w w') : F3 B0 c d j v w' :=
  ⟨fun e => (h.1 e).below hb, fun e => (h.2.1 e).below hb, fun e => (h.2.2.1 e).below hb, fun e => (h.2.2.2 e).below hb⟩
def Two (l : Array Bool) (x y : Nat) (vals : Nat → Value) : Prop := l.getD x false = true → l.getD y false = true → vals x ≠ vals y
theorem Two.set {l : Array Bool} {x y k : Nat} {vals : Nat → Value} (h : Two l x y vals) (h1 : k ≠ x) (h2 : k ≠ y) (v : Value) : Two (l.setIfInBounds k true) x y (upd vals k v) := fun a b => by
  rw [getD_set_ne false h1] at a
  rw [getD_set_ne false h2] at b
  simp only [upd, if_neg (Ne.symm h1), if_neg (Ne.symm h2)]
  exact h a b
theorem OwnC.turnT {w w' : World} {base : Nat} {c : Col} {B D E X : SL} {va : List Value} {b : Nat} {cs : Array Value} (h : OwnC w base c B D E X va) (hb : w.heap[b]? = some (.cells cs 63 (0, 0))) (hk : Kept (fun k => k = b) w w') : OwnC w' base c B D E X va := by
  have ty : ∀ {F : TypeId}, F ≠ 63 → ∀ x, x = b → x < w.heap.size → ∀ cs, w.heap[x]? ≠ some (.cells cs F (0, 0)) := by
    rintro F hF x rfl hx cs hc
    rw [hb] at hc; cases hc; exact hF rfl
  exact ⟨h.bits.keptT hk (ty (by decide)), h.data.keptT hk (ty (by decide)), h.ends.keptT hk (ty (by decide)), h.words.keptT hk (ty (by decide)), h.len, fun i t hi ht => by
    obtain ⟨a, cp, q1, q2⟩ := h.each i t hi ht
    exact ⟨a, cp, q1, q2.keptT hk (ty (by decide))⟩, h.sep⟩
end Go.Proofs.YtmhjjhaipcgbiaaGreat
