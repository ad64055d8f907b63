/- Texts of this claim, one behind the other: App2, Lay0, Fn. -/
import Derived.Test.YtmhjjhaipcgbiaaBakP22
import Derived.Test.YtmhjjhaipcgbiaaBakP6
import Derived.Test.YtmhjjhaipcgbiaaBakP10

namespace Go.Proofs.Ytmhjjhaipcgbiaa
open Go.RowKit
set_option linter.unusedSimpArgs false
set_option linter.unusedVariables false
theorem own_front0 {w : World} {base : Nat} {E : TypeId} {sz n c m : Nat} {a : Option Addr} {xs ys : List Value} (h : Own w base E sz (.slice a (n + m) c) (n + m) (xs ++ ys)) (hx : xs.length = n * sz) : Own w base E sz (.slice a n c) n xs := by
  rcases h.2 with ⟨e, hn⟩ | ⟨g, off, cap, cur, e, h1, h2, h3, h4, h5, h6⟩
  · simp only [Value.slice.injEq] at e
    obtain ⟨rfl, _, rfl⟩ := e
    obtain rfl : n = 0 := by omega
    have : xs = [] := List.eq_nil_of_length_eq_zero (by simpa using hx)
    subst this
    exact Own.nil _ _ _ _
  · cases e
    refine ⟨hx, .inr ⟨g, off, c, cur, rfl, h1, h2, by omega, h4, h5, fun j hj => ?_⟩⟩
    rw [h6 j (by rw [Nat.add_mul]; omega), List.getElem?_append_left (by omega)]
section
variable {P : Program}
structure AppP (w : World) (base : Nat) (e : TypeId) (size : Nat) (v : Value) (n : Nat) (xs : List Value) (m : Nat) (news : List Value) (v' : Value) (w' : World) : Prop where
  own : Own w' base e size v' (n + m) (xs ++ news)
  old : Own w' base e size v n xs
  grown : w.grownBy w' v.ownBlock
  blk : v'.ownBlock = v.ownBlock ∨ ∃ b, v'.ownBlock = some b ∧ w.heap.size ≤ b
  same : (∃ a c, v = .slice a n c ∧ v' = .slice a (n + m) c) ∨ ∃ b, v'.ownBlock = some b ∧ w.heap.size ≤ b
theorem run_append_own2 (w : World) (base : Nat) (t tx ty e : TypeId) (i : TypeInfo) (z : Value) (size bytes : Nat) (ht : P.underlying t = some (.slice e)) (hi : P.info? e = some i) (hz : i.zero = some z)
    (hsize : i.size = size) (hby : i.bytes = bytes) (hzs : z.cells.size = size)
    (v : Value) (n : Nat) (xs : List Value) (hown : Own w base e size v n xs)
    (x : Value) (m : Nat) (news : List Value) (hs : Src P size tx x m news w)
    (h63 : n + m ≤ maxLen) (hbytes : (n + m) * bytes ≤ 140737488355328) (hbase : base ≤ w.heap.size) :
    ∃ v' w', (Builtin.append_ #[t, tx] ty #[v, x]).run P w = .ok v' w' ∧ AppP w base e size v n xs m news v' w' := by
  subst hsize
  subst hby
  have hl : news.length = m * i.size := hs.newsLen
  have hsmall : n + m ≤ 9223372036854775807 := by simp only [maxLen] at h63; omega
  have hlen : (xs ++ news).length = (n + m) * i.size := by rw [List.length_append, hown.1, hl, Nat.add_mul]
  have grown : ∀ (old : Nat), old < n + m → ∀ (row : Option Nat),
      Own (w.drew.alloc (.cells ((xs ++ news).toArray ++ Builtin.zeroCells z.cells (grownCap w (n + m) old e - (n + m))) e)) base e i.size
        (.slice (some ⟨w.heap.size, 0, none⟩) (n + m) (grownCap w (n + m) old e)) (n + m) (xs ++ news) ∧
      w.grownBy (w.drew.alloc (.cells ((xs ++ news).toArray ++ Builtin.zeroCells z.cells (grownCap w (n + m) old e - (n + m))) e)) row := by
    intro old ho row
    have hge := grownCap_ge w (n + m) old e
    have hcm : grownCap w (n + m) old e ≤ maxLen := grownCap_le_maxLen w (n + m) old e h63
    refine ⟨⟨hlen, .inr ⟨w.heap.size, 0, _, _, rfl, hbase, heap_alloc_new w.drew _, hge, hcm, ?_, fun j hj => ?_⟩⟩, ⟨rfl, rfl, rfl, by simp, fun k hk _ => Below.heap_alloc w.drew _ k hk⟩⟩
    · simp only [Array.size_append, List.size_toArray, size_zeroCells, hzs, hlen, ← Nat.add_mul]
      rw [Nat.zero_add]
      exact Nat.le_of_eq (by congr 1; omega)
    · rw [Nat.zero_add, Array.getElem?_append_left (by simpa [hlen] using hj)]
      simp
  have old : ∀ (o : Obj), Own (w.drew.alloc o) base e i.size v n xs := fun o => hown.below (((below_drewN w _ 1).alloc (Nat.le_refl _) o))
  rcases hown.2 with ⟨rfl, rfl⟩ | ⟨g, off, cap, cur, rfl, hbg, hg, hnc, hcm, hcs, htake⟩
  · have hx : xs = [] := List.eq_nil_of_length_eq_zero (by simpa using hown.1)
    subst hx
    by_cases hm : m = 0
    · subst hm
      have hn : news = [] := List.eq_nil_of_length_eq_zero (by simpa using hl)
      subst hn
      refine ⟨.slice none 0 0, w, ?_, Own.nil w base e i.size, hown, ⟨rfl, rfl, rfl, Nat.le_refl _, fun _ _ _ => rfl⟩, .inl rfl, .inl ⟨none, 0, rfl, rfl⟩⟩
      rcases hs.kind with ⟨e', hk⟩ | hk <;> simp [Builtin.append_, run_underlying ht, run_underlying hk, sizeOf, typeInfo, hi, hs.len, hs.cells]
    · have hr := run_append_grow_src (P := P) w t tx ty e i z ht hi hz none 0 0 [] (by simp [Builtin.firstCells]) x m news hs (by omega) (by omega) (growslice_fits (by omega) (by simpa using hbytes))
      have hgr := grown 0 (by omega) (Value.ownBlock (.slice none 0 0))
      exact ⟨_, _, hr, hgr.1, old _, hgr.2, .inr ⟨_, rfl, Nat.le_refl _⟩, .inr ⟨_, rfl, Nat.le_refl _⟩⟩
  · have hxs : ∀ j u, xs[j]? = some u → w.cell? ((⟨g, off, none⟩ : Addr).add j) = some u := by
      intro j u hu
      rw [addr_add, cell_blk hg, htake j (by have := (List.getElem?_eq_some_iff.1 hu).1; rw [hown.1] at this; exact this)]
      exact hu
    by_cases hroom : n + m ≤ cap
    · have hfit : n * i.size + news.length ≤ cap * i.size := by rw [hl, ← Nat.add_mul]; exact Nat.mul_le_mul_right _ hroom
      have hst := run_storeCells_at P g (off + n * i.size) e news 0 cur w hg (by omega) hs.one
      simp only [Nat.add_zero] at hst
      have hr : (Builtin.append_ #[t, tx] ty #[.slice (some ⟨g, off, none⟩) n cap, x]).run P w = .ok (.slice (some ⟨g, off, none⟩) (n + m) cap) (w.setRow g (cur.toList.take (off + n * i.size) ++ news ++ cur.toList.drop (off + n * i.size + news.length)).toArray) := by
        rcases hs.kind with ⟨e', hk⟩ | hk <;> simp [Builtin.append_, run_underlying ht, run_underlying hk, sizeOf, typeInfo, hi, hs.len, hroom, hs.cells, addr_add, hst]
      have ho : Own (w.setRow g (cur.toList.take (off + n * i.size) ++ news ++ cur.toList.drop (off + n * i.size + news.length)).toArray) base e i.size (.slice (some ⟨g, off, none⟩) (n + m) cap) (n + m) (xs ++ news) := by
        refine ⟨hlen, .inr ⟨g, off, cap, _, rfl, hbg, setRow_heap w g cur _ e _ hg, hroom, hcm, ?_, fun j hj => ?_⟩⟩
        · simp only [List.size_toArray, List.length_append, List.length_take, List.length_drop, Array.length_toList]
          omega
        · have hx := hown.1
          have ht1 : (cur.toList.take (off + n * i.size)).length = off + n * i.size := by rw [List.length_take, Array.length_toList]; omega
          rw [List.getElem?_toArray]
          by_cases hj2 : j < n * i.size
          · rw [List.append_assoc, List.getElem?_append_left (by omega), List.getElem?_take, if_pos (by omega), Array.getElem?_toList, htake j hj2, List.getElem?_append_left (by omega)]
          · rw [List.append_assoc, List.getElem?_append_right (by omega), ht1, List.getElem?_append_left (by rw [hl]; rw [Nat.add_mul] at hj; omega), List.getElem?_append_right (by omega)]
            congr 1
            omega
      exact ⟨_, _, hr, ho, own_front0 ho hown.1, ⟨rfl, rfl, rfl, by simp, fun k _ hk => setRow_other w g k _ (fun e => hk (by simp [Value.ownBlock, e]))⟩, .inl rfl, .inl ⟨_, _, rfl, rfl⟩⟩
    · have hold : (Builtin.firstCells i.size n (.slice (some ⟨g, off, none⟩) n cap)).run P w.drew = .ok xs.toArray w.drew := run_firstCells_some w.drew i.size n ⟨g, off, none⟩ n cap xs hown.1 (by simpa using hxs)
      have hr := run_append_grow_src (P := P) w t tx ty e i z ht hi hz (some ⟨g, off, none⟩) n cap xs hold x m news hs (by omega) (by omega) (growslice_fits (by omega) hbytes)
      have hgr := grown cap (by omega) (Value.ownBlock (.slice (some ⟨g, off, none⟩) n cap))
      exact ⟨_, _, hr, hgr.1, old _, hgr.2, .inr ⟨_, rfl, Nat.le_refl _⟩, .inr ⟨_, rfl, Nat.le_refl _⟩⟩
theorem wpList_app2 (w : World) {ops : Array Oper} {rest : List Oper} {o : Oper} {a : Act} {Q : Exit → Act → World → Prop} (hgd : o.guard = none) (s x : Operand) (t tx : TypeId)
    (ho : o.op = .call { callee := .builtin .append, args := #[s, x], argTypes := #[t, tx] })
    (base : Nat) (e : TypeId) (z : Value) (size bytes : Nat) (ht : P.underlying t = some (.slice e)) (hi : (P.info? e).map (fun i => (i.zero, i.size, i.bytes)) = some (some z, size, bytes))
    (hzs : z.cells.size = size)
    (v : Value) (n : Nat) (xs : List Value) (hs : a.eval s = v) (hown : Own w base e size v n xs)
    (u : Value) (m : Nat) (news : List Value) (hx : a.eval x = u) (hsrc : Src P size tx u m news w)
    (h63 : n + m ≤ maxLen) (hbytes : (n + m) * bytes ≤ 140737488355328) (hbase : base ≤ w.heap.size)
    (h : ∀ v' w', AppP w base e size v n xs m news v' w' → wpList P ops Q rest (a.put o.dst v') w') : wpList P ops Q (o :: rest) a w := by
  obtain ⟨i0, hi, hz0, hz1, hz2⟩ := info_parts hi
  obtain ⟨v', w', hr, h2⟩ := run_append_own2 (P := P) w base t tx o.type e i0 z size bytes ht hi hz0 hz1 hz2 hzs v n xs hown u m news hsrc h63 hbytes hbase
  have hw : Region.wanted o (yielded ops a.tmps) = true := by simp [Region.wanted, hgd]
  simp only [wpList, hw, if_true]
  left
  unfold Oper.wp execOp
  simp only [ho, resolve, invoke, builtin, Sem.run_bind, Sem.run_pure, Result.andThen_ok, List.map_toArray, List.map_cons, List.map_nil, hs, hx, hr]
  exact h v' w' h2
theorem step_app2 (w : World) {ops : Array Oper} {o : Oper} {a : Act} {K : Act → World → Prop} {Q : Exit → Act → World → Prop} {E' : Prop} (s x : Operand) (t tx : TypeId)
    (ho : o.op = .call { callee := .builtin .append, args := #[s, x], argTypes := #[t, tx] }) (hgd : o.guard = none)
    (base : Nat) (e : TypeId) (z : Value) (size bytes : Nat) (ht : P.underlying t = some (.slice e)) (hi : (P.info? e).map (fun i => (i.zero, i.size, i.bytes)) = some (some z, size, bytes))
    (hzs : z.cells.size = size)
    (v : Value) (n : Nat) (xs : List Value) (hs : a.eval s = v) (hown : Own w base e size v n xs)
    (u : Value) (m : Nat) (news : List Value) (hx : a.eval x = u) (hsrc : Src P size tx u m news w)
    (h63 : n + m ≤ maxLen) (hbytes : (n + m) * bytes ≤ 140737488355328) (hbase : base ≤ w.heap.size)
    (h : ∀ v' w', AppP w base e size v n xs m news v' w' → K (a.put o.dst v') w') : if Region.wanted o (yielded ops a.tmps) = true then Oper.wp P o a w K Q else E' := by
  obtain ⟨i0, hi, hz0, hz1, hz2⟩ := info_parts hi
  obtain ⟨v', w', hr, h2⟩ := run_append_own2 (P := P) w base t tx o.type e i0 z size bytes ht hi hz0 hz1 hz2 hzs v n xs hown u m news hsrc h63 hbytes hbase
  have hw : Region.wanted o (yielded ops a.tmps) = true := by simp [Region.wanted, hgd]
  rw [if_pos hw]
  unfold Oper.wp execOp
  simp only [ho, resolve, invoke, builtin, Sem.run_bind, Sem.run_pure, Result.andThen_ok, List.map_toArray, List.map_cons, List.map_nil, hs, hx, hr]
  exact h v' w' h2
end
theorem Own.keptT {w w' : World} {base : Nat} {E : TypeId} {sz n : Nat} {v : Value} {xs : List Value} {S : Nat → Prop} (h : Own w base E sz v n xs) (hk : Kept S w w') (hS : ∀ b, S b → b < w.heap.size → ∀ cs, w.heap[b]? ≠ some (.cells cs E (0, 0))) : Own w' base E sz v n xs := by
  refine h.kept hk (fun b e hb => ?_)
  rcases h.2 with ⟨rfl, _⟩ | ⟨g, off, cap, cur, rfl, _, hg, _⟩
  · cases e
  · cases e; exact hS _ hb (lt_of_blk hg) _ hg
end Go.Proofs.Ytmhjjhaipcgbiaa


namespace Go.Proofs.Ytmhjjhaipcgbiaa
open Go.RowKit
set_option linter.unusedVariables false
set_option linter.unusedSimpArgs false
set_option maxRecDepth 100000
set_option maxHeartbeats 1000000
theorem lows_succ18 (X n : Nat) : lows X (n + 1) = lows X n ++ [((X / 256 ^ n % 256 : Nat) : Int)] := by simp [lows, List.range_succ]
def Put18P (base : Nat) (a : Option Addr) (c : Nat) (data : List Int) (X W : Nat) (w : World) (e : Ending) (w' : World) : Prop :=
  ∃ a' c', e = .returned (.slice a' (data.length + W) c') ∧ Own w' base 5 1 (.slice a' (data.length + W) c') (data.length + W) ((data ++ lows X W).map (.int .u8)) ∧ Kept (fun b => (Value.slice a data.length c).ownBlock = some b) w w' ∧
    ((Value.slice a' (data.length + W) c').ownBlock = (Value.slice a data.length c).ownBlock ∨ ∃ b, (Value.slice a' (data.length + W) c').ownBlock = some b ∧ w.heap.size ≤ b)
structure Put18I (base : Nat) (a : Option Addr) (c : Nat) (data : List Int) (X i : Nat) (a' : Option Addr) (c' : Nat) (w wr : World) : Prop where
  own : Own wr base 5 1 (.slice a' (data.length + i) c') (data.length + i) ((data ++ lows X i).map (.int .u8))
  kept : Kept (fun b => (Value.slice a data.length c).ownBlock = some b) w wr
  blk : (Value.slice a' (data.length + i) c').ownBlock = (Value.slice a data.length c).ownBlock ∨ ∃ b, (Value.slice a' (data.length + i) c').ownBlock = some b ∧ w.heap.size ≤ b
theorem put18_next {base : Nat} {a : Option Addr} {c : Nat} {data : List Int} {X i : Nat} {a' a2 : Option Addr} {c' c2 : Nat} {w wr w2 : World} {o : Obj} {y : Int} (h : Put18I base a c data X i a' c' w wr) (hy : y = ((X / 256 ^ i % 256 : Nat) : Int))
    (hA : AppP (wr.alloc o) base 5 1 (.slice a' (data.length + i) c') (data.length + i) ((data ++ lows X i).map (.int .u8)) 1 [.int .u8 y] (.slice a2 (data.length + i + 1) c2) w2) : Put18I base a c data X (i + 1) a2 c2 w w2 := by
  subst hy
  refine ⟨?_, ?_, ?_⟩
  · have := hA.own
    rw [lows_succ18]
    simpa [List.append_assoc, Nat.add_assoc] using this
  · refine h.kept.trans ((Kept.of_below (below_new wr o)).trans (Kept.of_grown hA.grown) (S := fun b => (Value.slice a' (data.length + i) c').ownBlock = some b) (fun b e _ => e.symm)) (fun b e hlt => ?_)
    rcases h.blk with h1 | ⟨b', h1, h2⟩
    · exact h1 ▸ e
    · rw [h1] at e; cases e; omega
  · have hs : (wr.alloc o).heap.size = wr.heap.size + 1 := by simp
    have hk := h.kept.size
    rcases hA.blk with h1 | ⟨b', h1, h2⟩
    · exact (show (Value.slice a2 (data.length + (i + 1)) c2).ownBlock = _ from h1) ▸ h.blk
    · exact .inr ⟨b', h1, by omega⟩
theorem put18_any (base : Nat) (data : List Int) (X W : Nat) (hX : X < 18446744073709551616) (hW : W ≤ 8) (hl : data.length ≤ 100000000) (a : Option Addr) (c : Nat) (w : World) (h : Own w base 5 1 (.slice a data.length c) data.length (data.map (.int .u8))) (hb : base ≤ w.heap.size) :
    Calls Try.prog 109 #[.slice a data.length c, .int .u64 (X : Int), .int .i64 (W : Int)] w (Put18P base a c data X W w) := by
  have H := Aside.mk (show Put18I base a c data X 0 a c w w from ⟨by simpa [lows] using h, Kept.refl _ _, .inl rfl⟩)
  have HX := Aside.mk hX
  clear h hX
  generalize hdl : data.length = n at *
  have HDL := Aside.mk hdl
  go_enter Try.func109, Try.ntmps109
  go_wp2
  go_loopw [0, 1, 7] (fun bv xv iv wr => ∃ (i : Nat) (a' : Option Addr) (c' : Nat), i ≤ W ∧ bv = .slice a' (n + i) c' ∧ xv = .int .u64 ((X / 256 ^ i : Nat) : Int) ∧ iv = .int .i64 (i : Int) ∧ Aside (Put18I base a c data X i a' c' w wr)) (fun _ _ iv _ => W - (intOf iv).toNat)
  case atStart => exact ⟨0, a, c, by omega, rfl, by simp, rfl, H⟩
  case round =>
    clear H
    obtain ⟨i, a', c', hi, rfl, rfl, rfl, hp⟩ := hrel
    have hk := hp.out.kept.size
    by_cases hlt : i < W
    · have hy : X / 256 ^ i < 18446744073709551616 := Nat.lt_of_le_of_lt (Nat.div_le_self _ _) HX.out
      have HY := Aside.mk (show X / 256 ^ (i + 1) = X / 256 ^ i / 256 by rw [Nat.pow_succ, Nat.div_div_eq_div_mul])
      have HO := Aside.mk (show Own wr base 5 1 (.slice a' (n + i) c') (n + i) ((data ++ lows X i).map (.int .u8)) from hdl ▸ hp.out.own)
      have HQ := Aside.mk (show (((X / 256 ^ i : Nat) : Int) % 256) = ((X / 256 ^ i % 256 : Nat) : Int) by simp)
      clear hdl
      generalize hyg : X / 256 ^ i = y at *
      have HYG := Aside.mk hyg
      clear hyg
      go_wp2_with (at_builtin; refine wpList_app2 _ rfl _ _ 37 37 rfl base 5 (.int .u8 0) 1 1 Try.underlying37 u8info rfl _ (n + i) ((data ++ lows X i).map (.int .u8)) rfl (HO.out.alloc _) _ 1 [_] rfl (src_one Try.underlying37 _ _ _ rfl rfl) (by unfold maxLen; omega) (by omega) (Nat.le_trans hb (by simp; omega)) ?_)
      intro v' w5 hA
      obtain ⟨a5, c5, rfl⟩ := hA.own.form
      have HA := Aside.mk hA
      clear hA
      go_wp2_with fail
      have e := HDL.out
      subst e
      exact ⟨⟨i + 1, a5, c5, by omega, by rw [Nat.add_assoc], by rw [HY.out]; simp, by simp, ⟨put18_next (y := (y : Int) % 256) hp.out (by rw [HYG.out]; exact HQ.out) (by have := HA.out; rw [← List.map_append] at this; exact this)⟩⟩, by simp [intOf]; omega⟩
    · obtain rfl : i = W := by omega
      go_wp2_with fail
      go_ret
      subst hdl
      exact ⟨a', c', rfl, hp.out.own, hp.out.kept, hp.out.blk⟩
end Go.Proofs.Ytmhjjhaipcgbiaa


namespace Go.Proofs.Ytmhjjhaipcgbiaa
open Go.RowKit
set_option linter.unusedVariables false
set_option linter.unusedSimpArgs false
set_option maxRecDepth 100000
set_option maxHeartbeats 1000000
def AppK (base : Nat) (a : Option Addr) (c : Nat) (data data' : List Int) (w : World) (e : Ending) (w' : World) : Prop := ∃ a' c', e = .returned (.slice a' data'.length c') ∧ Own w' base 5 1 (.slice a' data'.length c') data'.length (data'.map (.int .u8)) ∧ Kept (fun b => (Value.slice a data.length c).ownBlock = some b) w w'
theorem appK_of {base : Nat} {a : Option Addr} {c : Nat} {data : List Int} {X : Nat} {w : World} {e : Ending} {w' : World} (h : Put18P base a c data X 8 w e w') : AppK base a c data (data ++ lows X 8) w e w' := by
  obtain ⟨a', c', rfl, h1, h2, h3⟩ := h
  have e8 : (data ++ lows X 8).length = data.length + 8 := by simp [len_lows]
  exact ⟨a', c', by rw [e8], by rw [e8]; exact h1, h2⟩
def u64N (x : Int) : Nat := (x % 18446744073709551616).toNat
theorem u64N_wrap (x : Int) : IntKind.u64.wrap x = (u64N x : Int) := by rw [IntKind.wrap_u64]; unfold u64N; omega
theorem u64N_nat {n : Nat} (h : n < 18446744073709551616) : u64N (n : Int) = n := by unfold u64N; omega
theorem shr_low {x : Int} {X : Nat} (h : x = (X : Int)) (i : Nat) : x / 2 ^ (8 * i) % 256 = ((X / 256 ^ i % 256 : Nat) : Int) := by
  subst h
  rw [show (2 : Int) ^ (8 * i) = ((256 ^ i : Nat) : Int) by rw [Int.pow_mul]; simp]
  omega
theorem fnumi_any (base : Nat) (data : List Int) (x : Int) (hl : data.length ≤ 100000000) (a : Option Addr) (c : Nat) (w : World) (h : Own w base 5 1 (.slice a data.length c) data.length (data.map (.int .u8))) (hb : base ≤ w.heap.size) :
    Calls Try.prog 74 #[.slice a data.length c, .int .i64 x] w (AppK base a c data (data ++ lows (u64N x) 8) w) := by
  refine Calls.mono ?_ (fun e w' h' => appK_of h')
  have HU := Aside.mk (u64N_wrap x)
  generalize u64N x = X at *
  have H := Aside.mk (show Put18I base a c data X 0 a c w w from ⟨by simpa [lows] using h, Kept.refl _ _, .inl rfl⟩)
  clear h
  generalize hdl : data.length = n at *
  have HDL := Aside.mk hdl
  go_enter Try.func74, Try.ntmps74
  go_wp2
  go_loopw [0, 5, 6] (fun bv jv iv wr => ∃ (i : Nat) (a' : Option Addr) (c' : Nat), i ≤ 8 ∧ bv = .slice a' (n + i) c' ∧ iv = .int .i64 (i : Int) ∧ Aside (Put18I base a c data X i a' c' w wr)) (fun _ _ iv _ => 8 - (intOf iv).toNat)
  case atStart => exact ⟨0, a, c, by omega, rfl, rfl, H⟩
  case round =>
    clear H
    obtain ⟨i, a', c', hi, rfl, rfl, hp⟩ := hrel
    have hk := hp.out.kept.size
    by_cases hlt : i < 8
    · have HO := Aside.mk (show Own wr base 5 1 (.slice a' (n + i) c') (n + i) ((data ++ lows X i).map (.int .u8)) from hdl ▸ hp.out.own)
      clear hdl
      go_wp2_with (at_builtin; refine wpList_app2 _ rfl _ _ 37 37 rfl base 5 (.int .u8 0) 1 1 Try.underlying37 u8info rfl _ (n + i) ((data ++ lows X i).map (.int .u8)) rfl (HO.out.alloc _) _ 1 [_] rfl (src_one Try.underlying37 _ _ _ rfl rfl) (by unfold maxLen; omega) (by omega) (Nat.le_trans hb (by simp; omega)) ?_)
      intro v' w5 hA
      obtain ⟨a5, c5, rfl⟩ := hA.own.form
      have HA := Aside.mk hA
      clear hA
      go_wp2_with fail
      have e := HDL.out
      subst e
      exact ⟨⟨i + 1, a5, c5, by omega, by rw [Nat.add_assoc], by simp, ⟨put18_next hp.out (shr_low HU.out i) (by have := HA.out; rw [← List.map_append] at this; exact this)⟩⟩, by simp [intOf]; omega⟩
    · obtain rfl : i = 8 := by omega
      go_wp2_with fail
      go_ret
      subst hdl
      exact ⟨a', c', rfl, hp.out.own, hp.out.kept, hp.out.blk⟩
theorem fnumu_any (base : Nat) (data : List Int) (X : Nat) (hX : X < 18446744073709551616) (hl : data.length ≤ 100000000) (a : Option Addr) (c : Nat) (w : World) (h : Own w base 5 1 (.slice a data.length c) data.length (data.map (.int .u8))) (hb : base ≤ w.heap.size) :
    Calls Try.prog 75 #[.slice a data.length c, .int .u64 (X : Int)] w (AppK base a c data (data ++ lows X 8) w) := by
  refine Calls.mono ?_ (fun e w' h' => appK_of h')
  have H := Aside.mk (show Put18I base a c data X 0 a c w w from ⟨by simpa [lows] using h, Kept.refl _ _, .inl rfl⟩)
  have HX := Aside.mk hX
  clear h hX
  generalize hdl : data.length = n at *
  have HDL := Aside.mk hdl
  go_enter Try.func75, Try.ntmps75
  go_wp2
  go_loopw [0, 5, 6] (fun bv jv iv wr => ∃ (i : Nat) (a' : Option Addr) (c' : Nat), i ≤ 8 ∧ bv = .slice a' (n + i) c' ∧ iv = .int .i64 (i : Int) ∧ Aside (Put18I base a c data X i a' c' w wr)) (fun _ _ iv _ => 8 - (intOf iv).toNat)
  case atStart => exact ⟨0, a, c, by omega, rfl, rfl, H⟩
  case round =>
    clear H
    obtain ⟨i, a', c', hi, rfl, rfl, hp⟩ := hrel
    have hk := hp.out.kept.size
    by_cases hlt : i < 8
    · have HO := Aside.mk (show Own wr base 5 1 (.slice a' (n + i) c') (n + i) ((data ++ lows X i).map (.int .u8)) from hdl ▸ hp.out.own)
      clear hdl
      go_wp2_with (at_builtin; refine wpList_app2 _ rfl _ _ 37 37 rfl base 5 (.int .u8 0) 1 1 Try.underlying37 u8info rfl _ (n + i) ((data ++ lows X i).map (.int .u8)) rfl (HO.out.alloc _) _ 1 [_] rfl (src_one Try.underlying37 _ _ _ rfl rfl) (by unfold maxLen; omega) (by omega) (Nat.le_trans hb (by simp; omega)) ?_)
      intro v' w5 hA
      obtain ⟨a5, c5, rfl⟩ := hA.own.form
      have HA := Aside.mk hA
      clear hA
      go_wp2_with fail
      have e := HDL.out
      subst e
      exact ⟨⟨i + 1, a5, c5, by omega, by rw [Nat.add_assoc], by simp, ⟨put18_next hp.out (shr_low rfl i) (by have := HA.out; rw [← List.map_append] at this; exact this)⟩⟩, by simp [intOf]; omega⟩
    · obtain rfl : i = 8 := by omega
      go_wp2_with fail
      go_ret
      subst hdl
      exact ⟨a', c', rfl, hp.out.own, hp.out.kept, hp.out.blk⟩
end Go.Proofs.Ytmhjjhaipcgbiaa
