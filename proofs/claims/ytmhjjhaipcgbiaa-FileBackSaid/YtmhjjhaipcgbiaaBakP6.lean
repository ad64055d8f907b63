/- Texts of this claim, one behind the other: New, Clone, Step. -/
import Derived.Test.YtmhjjhaipcgbiaaBakP5
import Derived.Test.YtmhjjhaipcgbiaaBakP1
import Derived.Deep.AppendLies
import Derived.Deep.RegionLaw
import Derived.Deep.RegionHeld3

namespace Go.Proofs.Ytmhjjhaipcgbiaa
open Go.RowKit
set_option linter.unusedVariables false
set_option linter.unusedSimpArgs false
set_option maxRecDepth 100000
set_option maxHeartbeats 1000000
theorem dictNew_any (w : World) : Calls Try.prog 62 #[] w fun e w' => e = .returned (.pointer (some ⟨w.heap.size + 1, 0, none⟩)) ∧ w' = (w.alloc (.map #[] 0)).alloc (.cells #[.slice none 0 0, .map (some w.heap.size)] 176) := by
  have hmm := @run_makeMap Try.prog
  go_enter Try.func62, Try.ntmps62
  go_wp2
  go_ret
  exact ⟨rfl, rfl⟩
structure IsB (w : World) (bl lw base : Nat) (k s : Int) (nulls : List Bool) (data : List Int) (ends : List Int) (nv dv ev : Value) : Prop where
  blk : w.heap[bl]? = some (.cells #[.int .i64 k, .int .i64 s, nv, dv, ev, .pointer (some ⟨lw, 0, none⟩)] 115 (0, 0))
  lst : ∃ mv : Value × Value, w.heap[lw]? = some (.cells #[mv.1, mv.2] 176 (0, 0))
  bbl : base ≤ bl
  blw : base ≤ lw
  nulls : Own w base 4 1 nv nulls.length (nulls.map .bool)
  data : Own w base 5 1 dv data.length (data.map (.int .u8))
  ends : Own w base 3 1 ev ends.length (ends.map (.int .i64))
theorem IsB.drewN {w : World} {bl lw base : Nat} {k s : Int} {nulls : List Bool} {data ends : List Int} {nv dv ev : Value} (h : IsB w bl lw base k s nulls data ends nv dv ev) (m : Nat) : IsB (w.drewN m) bl lw base k s nulls data ends nv dv ev :=
  ⟨h.blk, h.lst, h.bbl, h.blw, h.nulls, h.data, h.ends⟩
theorem IsB.below {w w' : World} {bl lw base : Nat} {k s : Int} {nulls : List Bool} {data ends : List Int} {nv dv ev : Value} (h : IsB w bl lw base k s nulls data ends nv dv ev) (hb : Below w.heap.size w w') : IsB w' bl lw base k s nulls data ends nv dv ev :=
  ⟨(hb.block _ (lt_of_blk h.blk)).trans h.blk, (let ⟨mv, hl⟩ := h.lst; ⟨mv, (hb.block _ (lt_of_blk hl)).trans hl⟩), h.bbl, h.blw, h.nulls.below hb, h.data.below hb, h.ends.below hb⟩
end Go.Proofs.Ytmhjjhaipcgbiaa


namespace Go.Proofs.Ytmhjjhaipcgbiaa
open Go.RowKit
set_option linter.unusedVariables false
set_option linter.unusedSimpArgs false
set_option maxRecDepth 100000
set_option maxHeartbeats 1000000
theorem one_map {α : Type} (f : α → Value) (h : ∀ a, (f a).oneCell' = true) (l : List α) : ∀ u ∈ l.map f, u.oneCell' = true := by
  intro u hu
  obtain ⟨a, _, rfl⟩ := List.mem_map.1 hu
  exact h a
def CloneP (E : TypeId) (n : Nat) (xs : List Value) (w : World) (e : Ending) (w' : World) : Prop :=
  ∃ v', e = .returned v' ∧ Own w' w.heap.size E 1 v' n xs ∧ Below w.heap.size w w'
theorem eq_nil_some8 (a : Addr) (n c : Nat) (w : World) : (binOp .eql 37 (.slice (some a) n c) (.slice none 0 0)).run Try.prog w = .ok (.bool false) w := by kernel_rfl
theorem eq_nil_none8 (w : World) : (binOp .eql 37 (.slice none 0 0) (.slice none 0 0)).run Try.prog w = .ok (.bool true) w := by kernel_rfl
theorem clone_bytes (v : Value) (n : Nat) (xs : List Value) (w : World) (hn : n ≤ 1000000000) (h : Rd w 1 v n xs) (h1 : ∀ u ∈ xs, u.oneCell' = true) : Calls Try.prog 66 #[v] w (CloneP 5 n xs w) := by
  obtain ⟨a, cap, rfl⟩ := h.form
  cases a with
  | none =>
    obtain ⟨hl, a', cap', hsl, _, _, h0, _⟩ := h
    simp only [Value.slice.injEq, true_and] at hsl
    obtain ⟨rfl, rfl⟩ := hsl
    obtain ⟨rfl, rfl⟩ := h0 rfl
    obtain rfl : xs = [] := List.eq_nil_of_length_eq_zero (by simpa using hl)
    have he := eq_nil_none8
    go_enter Try.func66, Try.ntmps66
    go_wp2
    go_ret
    exact ⟨_, rfl, Own.nil _ _ _ _, Below.refl _ _⟩
  | some a =>
    have hm := h.max
    have hs := h.below (below_new w (.cells #[] 5))
    have HS := Aside.mk (hs.src (tx := 37) (P := Try.prog) Try.underlying37 h1)
    have he := eq_nil_some8
    have hz : w.heap.size ≤ (w.alloc (.cells #[] 5)).heap.size := by simp
    have HZ := Aside.mk hz
    clear h hs hz
    go_enter Try.func66, Try.ntmps66
    go_wp2_with (at_builtin; refine wpList_app _ rfl _ _ 37 37 rfl w.heap.size 5 (.int .u8 0) 1 1 Try.underlying37 u8info rfl _ _ _ rfl (own_empty w w.heap.size w.heap.size 5 1 rfl (Nat.le_refl _)) _ n xs rfl HS.out (by unfold maxLen; omega) (by omega) HZ.out ?_)
    intro v' w5 hown' hgrow _ hat
    obtain ⟨a5, c5, rfl⟩ := hown'.form
    have HO := Aside.mk hown'
    have HB := Aside.mk ((below_new w (.cells #[] 5)).trans (below_of_grown hgrow HZ.out (fun k e => by simp [Value.ownBlock] at e; omega)))
    clear hown' hgrow hat
    go_wp2
    go_ret
    refine ⟨_, rfl, ?_, HB.out⟩
    have := HO.out
    simpa using this
end Go.Proofs.Ytmhjjhaipcgbiaa


namespace Go.Proofs.Ytmhjjhaipcgbiaa
set_option linter.unusedSimpArgs false
open Go.RowKit
theorem step_app {P : Program} (w : World) {ops : Array Oper} {o : Oper} {a : Act} {K : Act → World → Prop} {Q : Exit → Act → World → Prop} {E' : Prop} (hgd : o.guard = none) (s x : Operand) (t tx : TypeId)
    (ho : o.op = .call { callee := .builtin .append, args := #[s, x], argTypes := #[t, tx] })
    (base : Nat) (e : TypeId) (z : Value) (size bytes : Nat) (ht : P.underlying t = some (.slice e)) (hi : (P.info? e).map (fun i => (i.zero, i.size, i.bytes)) = some (some z, size, bytes))
    (hzs : z.cells.size = size)
    (v : Value) (n : Nat) (xs : List Value) (hs : a.eval s = v) (hown : Own w base e size v n xs)
    (u : Value) (m : Nat) (news : List Value) (hx : a.eval x = u) (hsrc : Src P size tx u m news w)
    (h63 : n + m ≤ maxLen) (hbytes : (n + m) * bytes ≤ 140737488355328) (hbase : base ≤ w.heap.size)
    (h : ∀ v' w', Own w' base e size v' (n + m) (xs ++ news) → w.grownBy w' v.ownBlock → (v' = .slice none 0 0 ↔ v = .slice none 0 0 ∧ m = 0) → (v'.ownBlock = v.ownBlock ∨ ∃ b, v'.ownBlock = some b ∧ w.heap.size ≤ b) →
      K (a.put o.dst v') w') : if Region.wanted o (yielded ops a.tmps) = true then Oper.wp P o a w K Q else E' := by
  obtain ⟨i0, hi, hz0, hz1, hz2⟩ := info_parts hi
  obtain ⟨v', w', hr, h2, h3, h4, h5⟩ := run_append_own_at (P := P) w base t tx o.type e i0 z size bytes ht hi hz0 hz1 hz2 hzs v n xs hown u m news hsrc h63 hbytes hbase
  have hw : Region.wanted o (yielded ops a.tmps) = true := by simp [Region.wanted, hgd]
  rw [if_pos hw]
  unfold Oper.wp execOp
  simp only [ho, resolve, invoke, builtin, Sem.run_bind, Sem.run_pure, Result.andThen_ok, List.map_toArray, List.map_cons, List.map_nil, hs, hx, hr]
  exact h v' w' h2 h3 h4 h5
theorem step_call {P : Program} (w : World) {ops : Array Oper} {o : Oper} {a : Act} {K : Act → World → Prop} {Q : Exit → Act → World → Prop} {E' : Prop} (hgd : o.guard = none) (f : FuncId) (args : List Operand) (tys : Array TypeId)
    (ho : o.op = .call { callee := .value (.func f), args := args.toArray, argTypes := tys }) (vs : List Value) (hv : args.map a.eval = vs)
    (eg : ∀ args w, (callFunc f args).run P w = .ok (.enter f args) w) {R : Ending → World → Prop} (hc : Calls P f vs.toArray w R)
    (h : ∀ e w', R e w' → ∃ v, e = .returned v ∧ K (a.put o.dst v) w') : if Region.wanted o (yielded ops a.tmps) = true then Oper.wp P o a w K Q else E' := by
  have hw : Region.wanted o (yielded ops a.tmps) = true := by simp [Region.wanted, hgd]
  rw [if_pos hw]
  unfold Oper.wp
  have hr : (execOp a.eval o).run P w = .ok (.enter f vs.toArray) w := by
    unfold execOp
    simp [ho, List.map_toArray, resolve, invoke, Sem.run_bind, Sem.run_pure, Result.andThen_ok, hv, eg, Act.eval, Deferred.ofValue, Result.andThen]
  rw [hr, Oper.upon_enter]
  refine hc.mono ?_
  intro e w' hR
  obtain ⟨v, rfl, hK⟩ := h e w' hR
  exact hK
theorem step_callG {P : Program} (w : World) {ops : Array Oper} {o : Oper} {a : Act} {K : Act → World → Prop} {Q : Exit → Act → World → Prop} {E' : Prop} (f : FuncId) (args : List Operand) (tys : Array TypeId)
    (ho : o.op = .call { callee := .value (.func f), args := args.toArray, argTypes := tys }) (hw : Region.wanted o (yielded ops a.tmps) = true) (vs : List Value) (hv : args.map a.eval = vs)
    (eg : ∀ args w, (callFunc f args).run P w = .ok (.enter f args) w) {R : Ending → World → Prop} (hc : Calls P f vs.toArray w R)
    (h : ∀ e w', R e w' → ∃ v, e = .returned v ∧ K (a.put o.dst v) w') : if Region.wanted o (yielded ops a.tmps) = true then Oper.wp P o a w K Q else E' := by
  rw [if_pos hw]
  unfold Oper.wp
  have hr : (execOp a.eval o).run P w = .ok (.enter f vs.toArray) w := by
    unfold execOp
    simp [ho, List.map_toArray, resolve, invoke, Sem.run_bind, Sem.run_pure, Result.andThen_ok, hv, eg, Act.eval, Deferred.ofValue, Result.andThen]
  rw [hr, Oper.upon_enter]
  refine hc.mono ?_
  intro e w' hR
  obtain ⟨v, rfl, hK⟩ := h e w' hR
  exact hK
end Go.Proofs.Ytmhjjhaipcgbiaa
