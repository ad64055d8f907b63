/- Texts of this claim, one behind the other: Kind2, One. -/
import Derived.Test.YtmhjjhaipcgbiaaBakP26
import Derived.Test.YtmhjjhaipcgbiaaBakP6
import Derived.OrdersHeld
import Derived.Deep.RegionHeld3
import Derived.Test.YtmhjjhaipcgbiaaBakP1
import Derived.RangeFuncBox
import Derived.RangeFuncLeaves
import Derived.RangeFuncNested
import Derived.Shelf.Abstract
import Derived.OwnWalkIn
import Derived.TacticsInMore
import Derived.LoopNIn
import Derived.LoopIn

namespace Go.Proofs.Ytmhjjhaipcgbiaa
open Go.RowKit
set_option linter.unusedVariables false
set_option linter.unusedSimpArgs false
set_option maxRecDepth 100000
set_option maxHeartbeats 200000
theorem within_1 (n : Int) (w : World) : Calls Try.prog 21 #[.int .i64 n, .int .i64 1, .int .i64 16] w fun e w' => e = .returned (.int .i64 (withinI n 1 16)) ∧ w = w' := within_any n 1 16 (by omega) (by omega) (by omega) w
theorem within_0 (n : Int) (w : World) : Calls Try.prog 21 #[.int .i64 n, .int .i64 0, .int .i64 18] w fun e w' => e = .returned (.int .i64 (withinI n 0 18)) ∧ w = w' := within_any n 0 18 (by omega) (by omega) (by omega) w
def kindI (n : Int) : Int := withinI n 1 16
def scaleI (n : Int) : Int := if kindI n = 12 then withinI (n / 16) 0 18 else 0
theorem kind_any (n : Int) (w : World) : Calls Try.prog 8 #[.int .i64 n] w fun e w' => e = .returned (.agg #[.int .i64 (kindI n), .int .i64 (scaleI n)]) ∧ Below w.heap.size w w' := by
  by_cases h : kindI n = 12
  · have hk : withinI n 1 16 = 12 := h
    have hs : Aside (scaleI n = withinI (n / 16) 0 18) := ⟨by unfold scaleI; rw [if_pos h]⟩
    have hk := Aside.mk hk
    clear h
    go_enter Try.func8, Try.ntmps8
    go_wp2_with (fail)
    refine (within_1 _ _).mono ?_
    rintro e w1 ⟨rfl, rfl⟩
    rw [hk.out]
    go_wp2_with (fail)
    refine (within_0 _ _).mono ?_
    rintro e w1 ⟨rfl, rfl⟩
    go_wp2_with (fail)
    refine bodyPost_ret (v := .agg #[.int .i64 12, .int .i64 (withinI (n / 16) 0 18)]) (by simp [results, Try.results8, go_sem]) rfl ⟨?_, (by repeat (first | exact Below.refl _ _ | assumption | (refine Below.drew ?_) | (refine Below.trans ?_ (below_drewN _ _ _)) | (refine Below.alloc ?_ (by first | omega | (simp; done) | (simp; omega)) _) | (refine Below.setCell ?_ (by first | omega | (simp; done) | (simp; omega)) _)))⟩
    rw [hs.out, kindI, hk.out]
  · have hk : (withinI n 1 16 == 12) = false := by simpa [kindI] using h
    have hs : Aside (scaleI n = 0) := ⟨by unfold scaleI; rw [if_neg h]⟩
    have hu : Aside (kindI n = withinI n 1 16) := ⟨rfl⟩
    clear h
    go_enter Try.func8, Try.ntmps8
    go_wp2_with (fail)
    refine (within_1 _ _).mono ?_
    rintro e w1 ⟨rfl, rfl⟩
    go_wp2_with (fail)
    refine bodyPost_ret (v := .agg #[.int .i64 (withinI n 1 16), .int .i64 0]) (by simp [results, Try.results8, go_sem]) rfl ⟨?_, (by repeat (first | exact Below.refl _ _ | assumption | (refine Below.drew ?_) | (refine Below.trans ?_ (below_drewN _ _ _)) | (refine Below.alloc ?_ (by first | omega | (simp; done) | (simp; omega)) _) | (refine Below.setCell ?_ (by first | omega | (simp; done) | (simp; omega)) _)))⟩
    rw [hs.out, hu.out]
theorem kind_ok (n : Int) : okType (kindI n) (scaleI n) = true := by
  unfold okType scaleI kindI withinI
  simp only [decide_eq_true_eq]
  split <;> omega
end Go.Proofs.Ytmhjjhaipcgbiaa


namespace Go.Proofs.Ytmhjjhaipcgbiaa
open Go.RowKit
set_option linter.unusedVariables false
section
variable {P : Program} {ops : Array Oper} {Q : Exit → Act → World → Prop} {md : Region.Mode} {S : World → Prop} {z : Nat}
def wpE (P : Program) (md : Region.Mode) (ops : Array Oper) (Q : Exit → Act → World → Prop) (S : World → Prop) (z : Nat) : Nat → Array Bool → Act → World → Prop
  | 0, l, a, w => Region.ready md ops l = [] ∧ Q .normal a w
  | n + 1, l, a, w => (Region.ready md ops l = [] → Q .normal a w) ∧ ∀ k ∈ Region.ready md ops l, wpOp P ops Q k (fun b u => (k ≠ z → S u) ∧ wpE P md ops Q S z n (l.setIfInBounds k true) b u) a w
theorem wpE.any : ∀ {n : Nat} {l : Array Bool} {a : Act} {w : World}, wpE P md ops Q S z n l a w → wpAny P md ops Q n l a w
  | 0, _, _, _, h => h
  | _ + 1, _, _, _, h => ⟨h.1, fun k hk => wpOp_mono (fun _ _ g => g.2.any) (h.2 k hk)⟩
def Closed (md : Region.Mode) (ops : Array Oper) (l : Array Bool) : Prop := ∀ (i : Nat) o, ops[i]? = some o → l.getD i false = true → ∀ e ∈ o.after, Region.binds md e = true → l.getD e.on false = true
def closedB (md : Region.Mode) (ops : Array Oper) (l : Array Bool) : Bool := (List.range ops.size).all fun i => !l.getD i false || ((ops[i]?).map (·.after.all fun e => !Region.binds md e || l.getD e.on false)).getD true
theorem closed_spec {l : Array Bool} (h : closedB md ops l = true) : Closed md ops l := fun i o ho hi e he hb => by
  have h1 := List.all_eq_true.1 h i (List.mem_range.2 (Array.getElem?_eq_some_iff.1 ho).1)
  rw [ho, hi] at h1
  simp only [Bool.not_true, Bool.false_or, Option.map_some, Option.getD_some] at h1
  have h2 := Array.all_eq_true'.1 h1 e he
  rw [hb] at h2
  simpa using h2
theorem Closed.more {l : Array Bool} {j : Nat} (h : Closed md ops l) (hj : j ∈ Region.ready md ops l) : Closed md ops (l.setIfInBounds j true) := fun i o ho hi e he hb => by
  obtain ⟨_, p, hp, hall⟩ := mem_ready.1 hj
  by_cases e1 : j = i
  · subst e1
    rw [ho] at hp; cases hp
    exact getD_set_true (hall e he hb)
  · rw [getD_set_ne false e1] at hi
    exact getD_set_true (h i o ho hi e he hb)
def marks (md : Region.Mode) (ops : Array Oper) : Nat → Array Bool → Array Bool
  | 0, m => m
  | i + 1, m => marks md ops i (if m.getD i false = true then ((ops[i]?).map fun o => o.after.toList.foldl (fun m e => if Region.binds md e = true then m.setIfInBounds e.on true else m) m).getD m else m)
def lastB (md : Region.Mode) (ops : Array Oper) (z : Nat) : Bool :=
  let m := marks md ops (z + 1) ((Array.replicate ops.size false).setIfInBounds z true)
  (List.range ops.size).all fun j => j == z || m.getD j false
theorem set_sub {l m : Array Bool} {z k : Nat} (h : ∀ j, j ≠ z → m.getD j false = true → l.getD j false = true) (hk : l.getD k false = true) : ∀ j, j ≠ z → (m.setIfInBounds k true).getD j false = true → l.getD j false = true := fun j hj hm => by
  by_cases e : k = j
  · subst e; exact hk
  · rw [getD_set_ne false e] at hm; exact h j hj hm
theorem fold_sub {l : Array Bool} {z : Nat} : ∀ (es : List Edge) (m : Array Bool), (∀ j, j ≠ z → m.getD j false = true → l.getD j false = true) → (∀ e ∈ es, Region.binds md e = true → l.getD e.on false = true) →
    ∀ j, j ≠ z → (es.foldl (fun m e => if Region.binds md e = true then m.setIfInBounds e.on true else m) m).getD j false = true → l.getD j false = true
  | [], m, h, _ => h
  | e :: es, m, h, he => by
    rw [List.foldl_cons]
    refine fold_sub es _ ?_ (fun x hx => he x (List.mem_cons_of_mem _ hx))
    split
    · rename_i hb; exact set_sub h (he e (List.mem_cons_self ..) hb)
    · exact h
theorem marks_sub {l : Array Bool} (hc : Closed md ops l) (hz : ∀ o, ops[z]? = some o → ∀ e ∈ o.after, Region.binds md e = true → l.getD e.on false = true) : ∀ (n : Nat) (m : Array Bool), (∀ j, j ≠ z → m.getD j false = true → l.getD j false = true) →
    ∀ j, j ≠ z → (marks md ops n m).getD j false = true → l.getD j false = true
  | 0, m, h => h
  | n + 1, m, h => by
    rw [marks]
    refine marks_sub hc hz n _ ?_
    split
    · rename_i hm
      cases ho : ops[n]? with
      | none => exact h
      | some o =>
        simp only [Option.map_some, Option.getD_some]
        refine fold_sub _ _ h (fun e he hb => ?_)
        have he' : e ∈ o.after := by simpa using he
        by_cases en : n = z
        · subst en; exact hz o ho e he' hb
        · exact hc n o ho (h n en hm) e he' hb
    · exact h
theorem last_spec (h : lastB md ops z = true) {l : Array Bool} (hc : Closed md ops l) (hz : z ∈ Region.ready md ops l) {j : Nat} (hj : j < ops.size) (hne : j ≠ z) : l.getD j false = true := by
  obtain ⟨_, o, ho, hall⟩ := mem_ready.1 hz
  have h1 := List.all_eq_true.1 h j (List.mem_range.2 hj)
  simp only [Bool.or_eq_true, beq_iff_eq, hne, false_or] at h1
  refine marks_sub hc (fun p hp => ?_) _ _ (fun i hi hm => ?_) j hne h1
  · rw [ho] at hp; cases hp; exact hall
  · rw [getD_set_ne false (Ne.symm hi)] at hm
    simp [Array.getElem?_replicate] at hm
    split at hm <;> simp at hm
theorem ahead {k : Nat} {o : Oper} {v : Value} (hk0 : ops[k]? = some o) (hsel : ∀ (j : Nat) (p : Oper) cs b, ops[j]? = some p → p.op ≠ .select cs b) (hpan : ∀ c a w, Q (.panic c) (a.put o.dst v) w → Q (.panic c) a w)
    (hz : lastB md ops z = true) (hkz : k ≠ z) : ∀ (n : Nat) {l : Array Bool} {a : Act} {w : World},
    (∀ j p, ops[j]? = some p → j ≠ k → l.getD j true = false → (∀ e ∈ p.after, Region.binds md e = true → e.on ≠ k) → o.apart ops p = true) → k ∈ Region.ready md ops l → YieldsIf P ops S o v a → S w →
    Closed md ops l → wpE P md ops Q S z n (l.setIfInBounds k true) (a.put o.dst v) w → wpE P md ops Q S z (n + 1) l a w := by
  intro n
  induction n with
  | zero =>
    intro l a w hp hk hy hS hcl h
    refine ⟨fun e => absurd hk (by rw [e]; simp), fun j hj => ?_⟩
    by_cases hne : j = k
    · subst hne; exact hy.wpOp hk0 hS ⟨fun _ => hS, h⟩
    · have := ready_mono hj hne
      rw [h.1] at this; cases this
  | succ n ih =>
    intro l a w hp hk hy hS hcl h
    refine ⟨fun e => absurd hk (by rw [e]; simp), fun j hj => ?_⟩
    by_cases hne : j = k
    · subst hne; exact hy.wpOp hk0 hS ⟨fun _ => hS, h⟩
    have hun := (mem_ready.1 hk).1
    have hkl : k < l.size := by
      rcases Nat.lt_or_ge k l.size with hl | hl
      · exact hl
      · simp [Array.getElem?_eq_none hl] at hun
    have hkf : l.getD k false = false := by simpa [hkl] using hun
    have hjz : j ≠ z := fun e => by
      subst e
      have := last_spec hz hcl hj (Array.getElem?_eq_some_iff.1 hk0).1 (Ne.symm hne)
      rw [hkf] at this; cases this
    obtain ⟨hjun, p, hpj, hall⟩ := mem_ready.1 hj
    have hno : ∀ e ∈ p.after, Region.binds md e = true → e.on ≠ k := fun e he hb hek => by
      have g := hall e he hb
      rw [hek, hkf] at g; cases g
    refine wpOp_mono (fun b u g => ?_) (wpOp_putIf hpj (hp j p hpj hne hjun hno) (fun cs b => hsel k o cs b hk0) (fun cs b => hsel j p cs b hpj) hpan hy (h.2 j (ready_mono hj hne)))
    obtain ⟨g1, g2, g3⟩ := g
    rw [← Array.setIfInBounds_comm _ _ hne] at g3
    refine ⟨fun _ => g2 hjz, ih (fun i q hq hik hiun hino => hp i q hq hik ?_ hino) (ready_mono hk (Ne.symm hne)) g1 (g2 hjz) (hcl.more hj) g3⟩
    by_cases e : j = i
    · subst e; exact hjun
    · rwa [getD_set_ne true e] at hiun
theorem wpE_take {k : Nat} {o : Oper} {v : Value} {n : Nat} {l : Array Bool} {a : Act} {w : World} (hk0 : ops[k]? = some o) (hs : Region.noSelect ops = true) (hf : Region.free md ops l k = true) (hr : (Region.ready md ops l).contains k = true) (hz : (lastB md ops z && k != z && closedB md ops l) = true)
    (hpan : ∀ c a w, Q (.panic c) (a.put o.dst v) w → Q (.panic c) a w) (hy : YieldsIf P ops S o v a) (hS : S w)
    (h : wpE P md ops Q S z n (l.setIfInBounds k true) (a.put o.dst v) w) : wpE P md ops Q S z (n + 1) l a w := by
  simp only [Bool.and_eq_true, bne_iff_ne] at hz
  exact ahead hk0 (Region.noSelect_spec hs) hpan hz.1.1 hz.1.2 n (Region.free_spec hk0 hf) (by simpa using hr) hy hS (closed_spec hz.2) h
theorem wpE_one {k : Nat} {o : Oper} {n : Nat} {l : Array Bool} {a : Act} {w : World} (hk0 : ops[k]? = some o) (hr : Region.ready md ops l = [k])
    (h : ∀ K : Act → World → Prop, Shut (∀ b u, S u → (S u → wpE P md ops Q S z n (l.setIfInBounds k true) b u) → K b u) → if Region.wanted o (yielded ops a.tmps) = true then Oper.wp P o a w K Q else K (a.put o.dst undef) w) : wpE P md ops Q S z (n + 1) l a w := by
  refine ⟨fun e => (by rw [hr] at e; cases e), fun j hj => ?_⟩
  rw [hr] at hj
  obtain rfl : j = k := by simpa using hj
  exact wpOp_step hk0 (fun K hK => h K (fun b u hS hW => hK b u ⟨fun _ => hS, hW hS⟩))
theorem wpE_last {k : Nat} {o : Oper} {n : Nat} {l : Array Bool} {a : Act} {w : World} (hk0 : ops[k]? = some o) (hr : Region.ready md ops l = [k]) (hr2 : Region.ready md ops (l.setIfInBounds k true) = []) (hkz : k = z)
    (h : ∀ K : Act → World → Prop, Shut (∀ b u, Q .normal b u → K b u) → if Region.wanted o (yielded ops a.tmps) = true then Oper.wp P o a w K Q else K (a.put o.dst undef) w) : wpE P md ops Q S z (n + 1) l a w := by
  refine ⟨fun e => (by rw [hr] at e; cases e), fun j hj => ?_⟩
  rw [hr] at hj
  obtain rfl : j = k := by simpa using hj
  refine wpOp_step hk0 (fun K hK => h K (fun b u hq => hK b u ⟨fun e => absurd hkz e, ?_⟩))
  cases n with
  | zero => exact ⟨hr2, hq⟩
  | succ n => exact ⟨fun _ => hq, fun i hi => by rw [hr2] at hi; cases hi⟩
theorem wp_regionE {id : Nat} {a : Act} {w : World} (S : World → Prop) (z n : Nat) (hm : P.follows .mixedOrders = true) (hn : ops.size = n) (h : wpE P .any ops Q S z n (Array.replicate n false) a w.drew) : (Code.region id ops true).wp P Q a w := by
  subst hn; exact wp_region_any hm h.any
end
end Go.Proofs.Ytmhjjhaipcgbiaa
