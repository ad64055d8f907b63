/- Texts of this claim, one behind the other: App2, Types, Scaled. -/
import Derived.Test.YtmhjjhaipcgbiaaSpoP1
import Derived.Test.YtmhjjhaipcgbiaaRows
import Derived.RegionTactic
import Derived.Deep.QuietTactic
import Derived.BigQuiet
import Derived.WalkLawsBesides
import Derived.WalkSpells
import Derived.Deep.RegionHeld3
import Derived.Deep.RegionWith
import Derived.Deep.DeepCutAuto
import Derived.Outline

namespace Go.Proofs.Ytmhjjhaipcgbiaa
open Go.RowKit
set_option linter.unusedSimpArgs false
set_option linter.unusedVariables false
theorem own_front0 {w : World} {base : Nat} {E : TypeId} {sz n c m : Nat} {a : Option Addr} {xs ys : List Value} (h : Own w base E sz (.slice a (n + m) c) (n + m) (xs ++ ys)) (hx : xs.length = n * sz) : Own w base E sz (.slice a n c) n xs := by
  rcases h.2 with ⟨e, hn⟩ | ⟨g, off, cap, cur, e, h1, h2, h3, h4, h5, h6⟩
  · simp only [Value.slice.injEq] at e
    obtain ⟨rfl, _, rfl⟩ := e
    obtain rfl : n = 0 := by omega
    have : xs = [] := List.eq_nil_of_length_eq_zero (by simpa using hx)
    subst this
    exact Own.nil _ _ _ _
  · cases e
    refine ⟨hx, .inr ⟨g, off, c, cur, rfl, h1, h2, by omega, h4, h5, fun j hj => ?_⟩⟩
    rw [h6 j (by rw [Nat.add_mul]; omega), List.getElem?_append_left (by omega)]
section
variable {P : Program}
structure AppP (w : World) (base : Nat) (e : TypeId) (size : Nat) (v : Value) (n : Nat) (xs : List Value) (m : Nat) (news : List Value) (v' : Value) (w' : World) : Prop where
  own : Own w' base e size v' (n + m) (xs ++ news)
  old : Own w' base e size v n xs
  grown : w.grownBy w' v.ownBlock
  blk : v'.ownBlock = v.ownBlock ∨ ∃ b, v'.ownBlock = some b ∧ w.heap.size ≤ b
  same : (∃ a c, v = .slice a n c ∧ v' = .slice a (n + m) c) ∨ ∃ b, v'.ownBlock = some b ∧ w.heap.size ≤ b
theorem run_append_own2 (w : World) (base : Nat) (t tx ty e : TypeId) (i : TypeInfo) (z : Value) (size bytes : Nat) (ht : P.underlying t = some (.slice e)) (hi : P.info? e = some i) (hz : i.zero = some z)
    (hsize : i.size = size) (hby : i.bytes = bytes) (hzs : z.cells.size = size)
    (v : Value) (n : Nat) (xs : List Value) (hown : Own w base e size v n xs)
    (x : Value) (m : Nat) (news : List Value) (hs : Src P size tx x m news w)
    (h63 : n + m ≤ maxLen) (hbytes : (n + m) * bytes ≤ 140737488355328) (hbase : base ≤ w.heap.size) :
    ∃ v' w', (Builtin.append_ #[t, tx] ty #[v, x]).run P w = .ok v' w' ∧ AppP w base e size v n xs m news v' w' := by
  subst hsize
  subst hby
  have hl : news.length = m * i.size := hs.newsLen
  have hsmall : n + m ≤ 9223372036854775807 := by simp only [maxLen] at h63; omega
  have hlen : (xs ++ news).length = (n + m) * i.size := by rw [List.length_append, hown.1, hl, Nat.add_mul]
  have grown : ∀ (old : Nat), old < n + m → ∀ (row : Option Nat),
      Own (w.drew.alloc (.cells ((xs ++ news).toArray ++ Builtin.zeroCells z.cells (grownCap w (n + m) old e - (n + m))) e)) base e i.size
        (.slice (some ⟨w.heap.size, 0, none⟩) (n + m) (grownCap w (n + m) old e)) (n + m) (xs ++ news) ∧
      w.grownBy (w.drew.alloc (.cells ((xs ++ news).toArray ++ Builtin.zeroCells z.cells (grownCap w (n + m) old e - (n + m))) e)) row := by
    intro old ho row
    have hge := grownCap_ge w (n + m) old e
    have hcm : grownCap w (n + m) old e ≤ maxLen := grownCap_le_maxLen w (n + m) old e h63
    refine ⟨⟨hlen, .inr ⟨w.heap.size, 0, _, _, rfl, hbase, heap_alloc_new w.drew _, hge, hcm, ?_, fun j hj => ?_⟩⟩, ⟨rfl, rfl, rfl, by simp, fun k hk _ => Below.heap_alloc w.drew _ k hk⟩⟩
    · simp only [Array.size_append, List.size_toArray, size_zeroCells, hzs, hlen, ← Nat.add_mul]
      rw [Nat.zero_add]
      exact Nat.le_of_eq (by congr 1; omega)
    · rw [Nat.zero_add, Array.getElem?_append_left (by simpa [hlen] using hj)]
      simp
  have old : ∀ (o : Obj), Own (w.drew.alloc o) base e i.size v n xs := fun o => hown.below (((below_drewN w _ 1).alloc (Nat.le_refl _) o))
  rcases hown.2 with ⟨rfl, rfl⟩ | ⟨g, off, cap, cur, rfl, hbg, hg, hnc, hcm, hcs, htake⟩
  · have hx : xs = [] := List.eq_nil_of_length_eq_zero (by simpa using hown.1)
    subst hx
    by_cases hm : m = 0
    · subst hm
      have hn : news = [] := List.eq_nil_of_length_eq_zero (by simpa using hl)
      subst hn
      refine ⟨.slice none 0 0, w, ?_, Own.nil w base e i.size, hown, ⟨rfl, rfl, rfl, Nat.le_refl _, fun _ _ _ => rfl⟩, .inl rfl, .inl ⟨none, 0, rfl, rfl⟩⟩
      rcases hs.kind with ⟨e', hk⟩ | hk <;> simp [Builtin.append_, run_underlying ht, run_underlying hk, sizeOf, typeInfo, hi, hs.len, hs.cells]
    · have hr := run_append_grow_src (P := P) w t tx ty e i z ht hi hz none 0 0 [] (by simp [Builtin.firstCells]) x m news hs (by omega) (by omega) (growslice_fits (by omega) (by simpa using hbytes))
      have hgr := grown 0 (by omega) (Value.ownBlock (.slice none 0 0))
      exact ⟨_, _, hr, hgr.1, old _, hgr.2, .inr ⟨_, rfl, Nat.le_refl _⟩, .inr ⟨_, rfl, Nat.le_refl _⟩⟩
  · have hxs : ∀ j u, xs[j]? = some u → w.cell? ((⟨g, off, none⟩ : Addr).add j) = some u := by
      intro j u hu
      rw [addr_add, cell_blk hg, htake j (by have := (List.getElem?_eq_some_iff.1 hu).1; rw [hown.1] at this; exact this)]
      exact hu
    by_cases hroom : n + m ≤ cap
    · have hfit : n * i.size + news.length ≤ cap * i.size := by rw [hl, ← Nat.add_mul]; exact Nat.mul_le_mul_right _ hroom
      have hst := run_storeCells_at P g (off + n * i.size) e news 0 cur w hg (by omega) hs.one
      simp only [Nat.add_zero] at hst
      have hr : (Builtin.append_ #[t, tx] ty #[.slice (some ⟨g, off, none⟩) n cap, x]).run P w = .ok (.slice (some ⟨g, off, none⟩) (n + m) cap) (w.setRow g (cur.toList.take (off + n * i.size) ++ news ++ cur.toList.drop (off + n * i.size + news.length)).toArray) := by
        rcases hs.kind with ⟨e', hk⟩ | hk <;> simp [Builtin.append_, run_underlying ht, run_underlying hk, sizeOf, typeInfo, hi, hs.len, hroom, hs.cells, addr_add, hst]
      have ho : Own (w.setRow g (cur.toList.take (off + n * i.size) ++ news ++ cur.toList.drop (off + n * i.size + news.length)).toArray) base e i.size (.slice (some ⟨g, off, none⟩) (n + m) cap) (n + m) (xs ++ news) := by
        refine ⟨hlen, .inr ⟨g, off, cap, _, rfl, hbg, setRow_heap w g cur _ e _ hg, hroom, hcm, ?_, fun j hj => ?_⟩⟩
        · simp only [List.size_toArray, List.length_append, List.length_take, List.length_drop, Array.length_toList]
          omega
        · have hx := hown.1
          have ht1 : (cur.toList.take (off + n * i.size)).length = off + n * i.size := by rw [List.length_take, Array.length_toList]; omega
          rw [List.getElem?_toArray]
          by_cases hj2 : j < n * i.size
          · rw [List.append_assoc, List.getElem?_append_left (by omega), List.getElem?_take, if_pos (by omega), Array.getElem?_toList, htake j hj2, List.getElem?_append_left (by omega)]
          · rw [List.append_assoc, List.getElem?_append_right (by omega), ht1, List.getElem?_append_left (by rw [hl]; rw [Nat.add_mul] at hj; omega), List.getElem?_append_right (by omega)]
            congr 1
            omega
      exact ⟨_, _, hr, ho, own_front0 ho hown.1, ⟨rfl, rfl, rfl, by simp, fun k _ hk => setRow_other w g k _ (fun e => hk (by simp [Value.ownBlock, e]))⟩, .inl rfl, .inl ⟨_, _, rfl, rfl⟩⟩
    · have hold : (Builtin.firstCells i.size n (.slice (some ⟨g, off, none⟩) n cap)).run P w.drew = .ok xs.toArray w.drew := run_firstCells_some w.drew i.size n ⟨g, off, none⟩ n cap xs hown.1 (by simpa using hxs)
      have hr := run_append_grow_src (P := P) w t tx ty e i z ht hi hz (some ⟨g, off, none⟩) n cap xs hold x m news hs (by omega) (by omega) (growslice_fits (by omega) hbytes)
      have hgr := grown cap (by omega) (Value.ownBlock (.slice (some ⟨g, off, none⟩) n cap))
      exact ⟨_, _, hr, hgr.1, old _, hgr.2, .inr ⟨_, rfl, Nat.le_refl _⟩, .inr ⟨_, rfl, Nat.le_refl _⟩⟩
theorem wpList_app2 (w : World) {ops : Array Oper} {rest : List Oper} {o : Oper} {a : Act} {Q : Exit → Act → World → Prop} (hgd : o.guard = none) (s x : Operand) (t tx : TypeId)
    (ho : o.op = .call { callee := .builtin .append, args := #[s, x], argTypes := #[t, tx] })
    (base : Nat) (e : TypeId) (z : Value) (size bytes : Nat) (ht : P.underlying t = some (.slice e)) (hi : (P.info? e).map (fun i => (i.zero, i.size, i.bytes)) = some (some z, size, bytes))
    (hzs : z.cells.size = size)
    (v : Value) (n : Nat) (xs : List Value) (hs : a.eval s = v) (hown : Own w base e size v n xs)
    (u : Value) (m : Nat) (news : List Value) (hx : a.eval x = u) (hsrc : Src P size tx u m news w)
    (h63 : n + m ≤ maxLen) (hbytes : (n + m) * bytes ≤ 140737488355328) (hbase : base ≤ w.heap.size)
    (h : ∀ v' w', AppP w base e size v n xs m news v' w' → wpList P ops Q rest (a.put o.dst v') w') : wpList P ops Q (o :: rest) a w := by
  obtain ⟨i0, hi, hz0, hz1, hz2⟩ := info_parts hi
  obtain ⟨v', w', hr, h2⟩ := run_append_own2 (P := P) w base t tx o.type e i0 z size bytes ht hi hz0 hz1 hz2 hzs v n xs hown u m news hsrc h63 hbytes hbase
  have hw : Region.wanted o (yielded ops a.tmps) = true := by simp [Region.wanted, hgd]
  simp only [wpList, hw, if_true]
  left
  unfold Oper.wp execOp
  simp only [ho, resolve, invoke, builtin, Sem.run_bind, Sem.run_pure, Result.andThen_ok, List.map_toArray, List.map_cons, List.map_nil, hs, hx, hr]
  exact h v' w' h2
theorem step_app2 (w : World) {ops : Array Oper} {o : Oper} {a : Act} {K : Act → World → Prop} {Q : Exit → Act → World → Prop} {E' : Prop} (s x : Operand) (t tx : TypeId)
    (ho : o.op = .call { callee := .builtin .append, args := #[s, x], argTypes := #[t, tx] }) (hgd : o.guard = none)
    (base : Nat) (e : TypeId) (z : Value) (size bytes : Nat) (ht : P.underlying t = some (.slice e)) (hi : (P.info? e).map (fun i => (i.zero, i.size, i.bytes)) = some (some z, size, bytes))
    (hzs : z.cells.size = size)
    (v : Value) (n : Nat) (xs : List Value) (hs : a.eval s = v) (hown : Own w base e size v n xs)
    (u : Value) (m : Nat) (news : List Value) (hx : a.eval x = u) (hsrc : Src P size tx u m news w)
    (h63 : n + m ≤ maxLen) (hbytes : (n + m) * bytes ≤ 140737488355328) (hbase : base ≤ w.heap.size)
    (h : ∀ v' w', AppP w base e size v n xs m news v' w' → K (a.put o.dst v') w') : if Region.wanted o (yielded ops a.tmps) = true then Oper.wp P o a w K Q else E' := by
  obtain ⟨i0, hi, hz0, hz1, hz2⟩ := info_parts hi
  obtain ⟨v', w', hr, h2⟩ := run_append_own2 (P := P) w base t tx o.type e i0 z size bytes ht hi hz0 hz1 hz2 hzs v n xs hown u m news hsrc h63 hbytes hbase
  have hw : Region.wanted o (yielded ops a.tmps) = true := by simp [Region.wanted, hgd]
  rw [if_pos hw]
  unfold Oper.wp execOp
  simp only [ho, resolve, invoke, builtin, Sem.run_bind, Sem.run_pure, Result.andThen_ok, List.map_toArray, List.map_cons, List.map_nil, hs, hx, hr]
  exact h v' w' h2
end
theorem Own.keptT {w w' : World} {base : Nat} {E : TypeId} {sz n : Nat} {v : Value} {xs : List Value} {S : Nat → Prop} (h : Own w base E sz v n xs) (hk : Kept S w w') (hS : ∀ b, S b → b < w.heap.size → ∀ cs, w.heap[b]? ≠ some (.cells cs E (0, 0))) : Own w' base E sz v n xs := by
  refine h.kept hk (fun b e hb => ?_)
  rcases h.2 with ⟨rfl, _⟩ | ⟨g, off, cap, cur, rfl, _, hg, _⟩
  · cases e
  · cases e; exact hS _ hb (lt_of_blk hg) _ hg
end Go.Proofs.Ytmhjjhaipcgbiaa


namespace Go.Proofs.Ytmhjjhaipcgbiaa
open Go.RowKit
set_option linter.unusedVariables false
set_option linter.unusedSimpArgs false
theorem bcell {W w1 : World} (hb : Below W.heap.size W w1) : (∀ b o, b < W.heap.size → w1.cell? ⟨b, o, none⟩ = W.cell? ⟨b, o, none⟩) ∧ (∀ b o, b < W.heap.size → w1.frozen? ⟨b, o, none⟩ = W.frozen? ⟨b, o, none⟩) :=
  ⟨fun b o h => hb.cell (p := ⟨b, o, none⟩) h, fun b o h => hb.frozen (p := ⟨b, o, none⟩) h⟩
theorem below_new (w : World) (o : Obj) : Below w.heap.size w (w.alloc o) := (Below.refl _ _).alloc (Nat.le_refl _) o
theorem ret_int {k : IntKind} {a b : Int} (h : a = b) : Ending.returned (.int k a) = .returned (.int k b) := by rw [h]
theorem ret_bool {a b : Bool} (h : a = b) : Ending.returned (.bool a) = .returned (.bool b) := by rw [h]
def okType (k s : Int) : Bool := decide (1 ≤ k ∧ k ≤ 16 ∧ 0 ≤ s ∧ s ≤ 18 ∧ (k = 12 ∨ s = 0))
def widthOf (k : Int) : Int := if k = 1 ∨ k = 5 ∨ k = 11 then 1 else if k = 2 ∨ k = 6 then 2 else if k = 3 ∨ k = 7 ∨ k = 9 ∨ k = 16 then 4 else if k = 4 ∨ k = 8 ∨ k = 10 ∨ k = 12 ∨ k = 13 ∨ k = 14 then 8 else 0
set_option maxHeartbeats 400000 in
theorem checkType_yes (k s : Int) (w : World) (h : okType k s = true) :
    Calls Try.prog 10 #[.agg #[.int .i64 k, .int .i64 s]] w fun e w' => e = .returned (.int .i64 0) ∧ Below w.heap.size w w' := by
  unfold okType at h
  simp only [decide_eq_true_eq] at h
  obtain ⟨h1, h2, h3, h4, h5⟩ := h
  have hb := Aside.mk (below_new w (.cells #[.int .i64 k, .int .i64 s] 23))
  rcases h5 with h5 | h5
  · subst h5
    go_enter Try.func10, Try.ntmps10
    go_wp2
    go_ret
    exact ⟨rfl, hb.out⟩
  · subst h5
    by_cases h6 : k = 12
    · subst h6
      go_enter Try.func10, Try.ntmps10
      go_wp2
      go_ret
      exact ⟨rfl, hb.out⟩
    · have h7 : (k == 12) = false := by simpa using h6
      clear h6
      go_enter Try.func10, Try.ntmps10
      go_wp2
      go_ret
      exact ⟨rfl, hb.out⟩
set_option maxHeartbeats 400000 in
theorem checkType_no (k s : Int) (w : World) (h : okType k s = false) :
    Calls Try.prog 10 #[.agg #[.int .i64 k, .int .i64 s]] w fun e w' => e = .returned (.int .i64 170) ∧ Below w.heap.size w w' := by
  unfold okType at h
  simp only [decide_eq_false_iff_not] at h
  have hb := Aside.mk (below_new w (.cells #[.int .i64 k, .int .i64 s] 23))
  have go : k < 1 ∨ (1 ≤ k ∧ 16 < k) ∨ (1 ≤ k ∧ k ≤ 16 ∧ s < 0) ∨ (1 ≤ k ∧ k ≤ 16 ∧ 0 ≤ s ∧ k = 12 ∧ 18 < s) ∨ (1 ≤ k ∧ k ≤ 16 ∧ 0 < s ∧ k ≠ 12) := by omega
  clear h
  by_cases h6 : k = 12
  · subst h6
    rcases go with h | ⟨_, h⟩ | ⟨_, _, h⟩ | ⟨_, _, h0, _, h⟩ | ⟨_, _, _, h⟩
    · omega
    · omega
    · go_enter Try.func10, Try.ntmps10
      go_wp2
      go_ret
      exact ⟨rfl, hb.out⟩
    · go_enter Try.func10, Try.ntmps10
      go_wp2
      go_ret
      exact ⟨rfl, hb.out⟩
    · omega
  · have h7 : (k == 12) = false := by simpa using h6
    have H6 := Aside.mk h6
    clear h6
    rcases go with h | ⟨h1, h⟩ | ⟨h1, h2, h⟩ | ⟨_, _, h0, h, _⟩ | ⟨h1, h2, h, _⟩
    · go_enter Try.func10, Try.ntmps10
      go_wp2
      go_ret
      exact ⟨rfl, hb.out⟩
    · go_enter Try.func10, Try.ntmps10
      go_wp2
      go_ret
      exact ⟨rfl, hb.out⟩
    · go_enter Try.func10, Try.ntmps10
      go_wp2
      go_ret
      exact ⟨rfl, hb.out⟩
    · exact absurd h H6.out
    · have h3 : ¬ s < 0 := by omega
      go_enter Try.func10, Try.ntmps10
      go_wp2
      go_ret
      exact ⟨rfl, hb.out⟩
theorem checkType_any (k s : Int) (w : World) :
    Calls Try.prog 10 #[.agg #[.int .i64 k, .int .i64 s]] w fun e w' => e = .returned (.int .i64 (if okType k s then 0 else 170)) ∧ Below w.heap.size w w' := by
  cases h : okType k s
  · exact checkType_no k s w h
  · exact checkType_yes k s w h
set_option maxHeartbeats 800000 in
theorem width_any (k : Int) (w : World) : Calls Try.prog 12 #[.int .i64 k] w fun e w' => e = .returned (.int .i64 (widthOf k)) ∧ w = w' := by
  by_cases h : 1 ≤ k ∧ k ≤ 16
  · obtain ⟨h1, h2⟩ := h
    have hk : k = 1 ∨ k = 2 ∨ k = 3 ∨ k = 4 ∨ k = 5 ∨ k = 6 ∨ k = 7 ∨ k = 8 ∨ k = 9 ∨ k = 10 ∨ k = 11 ∨ k = 12 ∨ k = 13 ∨ k = 14 ∨ k = 15 ∨ k = 16 := by omega
    clear h1 h2
    rcases hk with rfl | rfl | rfl | rfl | rfl | rfl | rfl | rfl | rfl | rfl | rfl | rfl | rfl | rfl | rfl | rfl
    all_goals
      go_enter Try.func12, Try.ntmps12
      go_wp2
      go_ret
      exact ⟨rfl, rfl⟩
  · have hw : Aside (widthOf k = 0) := ⟨by unfold widthOf; rw [if_neg (by omega), if_neg (by omega), if_neg (by omega), if_neg (by omega)]⟩
    have h' : k < 1 ∨ 16 < k := by omega
    clear h
    rcases h' with h | h
    all_goals
      go_enter Try.func12, Try.ntmps12
      go_wp2
      go_ret
      exact ⟨by rw [hw.out]; rfl, rfl⟩
end Go.Proofs.Ytmhjjhaipcgbiaa


namespace Go.Proofs.Ytmhjjhaipcgbiaa
open Go.RowKit
set_option linter.unusedVariables false
set_option linter.unusedSimpArgs false
set_option maxRecDepth 100000
set_option maxHeartbeats 2000000
def asInt (b : Int) : Int := wrap64 b
def decOK (b : Int) : Bool := decide (-999999999999999999 ≤ asInt b ∧ asInt b ≤ 999999999999999999)
def SizeP (b : Int) (w : World) (e : Ending) (w' : World) : Prop := ∃ v n, e = .returned (.tuple #[.int .u64 v, .bool n, .bool (decOK b)]) ∧ w = w'
def CmpP (b : Int) (w : World) (e : Ending) (w' : World) : Prop := ∃ v, e = .returned (.tuple #[.int .i64 v, .int .i64 (if decOK b then 0 else 123)]) ∧ w = w'
def R12P (b : Int) (w : World) (e : Ending) (w' : World) : Prop := ∃ v n, e = .returned (.tuple #[.bool (decOK b), .bool n, .int .u64 v]) ∧ w = w'
def WhenP (ok : Bool) (w : World) (e : Ending) (w' : World) : Prop := ∃ v, e = .returned (.tuple #[.int .i64 v, .bool ok]) ∧ w = w'
theorem size_any (b : Int) (h0 : 0 ≤ b) (h1 : b ≤ 18446744073709551615) (w : World) : Calls Try.prog 91 #[.int .u64 b] w (SizeP b w) := by
  by_cases hs : wrap64 b < 0
  · have HD : Aside (decOK b = decide (IntKind.u64.wrap (-b) ≤ 999999999999999999)) := ⟨by
      have hw : IntKind.u64.wrap (-b) = (-b) % 18446744073709551616 := by simp [IntKind.wrap, IntKind.bits, IntKind.signed]
      rw [hw]
      unfold decOK asInt
      unfold wrap64 at hs ⊢
      rw [decide_eq_decide]; omega⟩
    go_enter Try.func91, Try.ntmps91
    go_wp2
    go_ret3
    refine ⟨IntKind.u64.wrap (-b), true, ?_, rfl⟩; rw [HD.out]; rfl
  · have HD : Aside (decOK b = decide (b ≤ 999999999999999999)) := ⟨by
      unfold decOK asInt
      unfold wrap64 at hs ⊢
      rw [decide_eq_decide]; omega⟩
    go_enter Try.func91, Try.ntmps91
    go_wp2
    go_ret3
    refine ⟨b, false, ?_, rfl⟩; rw [HD.out]; rfl
theorem cmp_self (b : Int) (h0 : 0 ≤ b) (h1 : b ≤ 18446744073709551615) (w : World) : Calls Try.prog 41 #[.int .u64 b, .int .u64 b] w (CmpP b w) := by
  have e1 : (b == b) = true := by simp
  cases hd : decOK b
  · have HD := Aside.mk hd
    clear hd
    go_enter Try.func41, Try.ntmps41
    go_wp2_with (go_at_call 91; refine (size_any _ h0 h1 _).mono ?_; unfold SizeP; rw [HD.out]; rintro e w1 ⟨v1, n1, rfl, rfl⟩)
    go_ret2
    refine ⟨0, ?_, rfl⟩; rw [HD.out]; rfl
  · have HD := Aside.mk hd
    clear hd
    go_enter Try.func41, Try.ntmps41
    go_wp2_with (go_at_call 91; refine (size_any _ h0 h1 _).mono ?_; unfold SizeP; rw [HD.out]; rintro e w1 ⟨v1, n1, rfl, rfl⟩)
    go_ret2
    refine ⟨0, ?_, rfl⟩; rw [HD.out]; rfl
theorem r12fits_any (b : Int) (h0 : 0 ≤ b) (h1 : b ≤ 18446744073709551615) (w : World) : Calls Try.prog 48 #[.int .u64 b] w (R12P b w) := by
  have hw : IntKind.u64.wrap (-b) = (-b) % 18446744073709551616 := by simp [IntKind.wrap, IntKind.bits, IntKind.signed]
  by_cases hs : b ≤ 999999999999999999
  · have HD : Aside (decOK b = true) := ⟨by unfold decOK asInt wrap64; simp; omega⟩
    clear hw
    go_enter Try.func48, Try.ntmps48
    go_wp2
    go_ret3
    refine ⟨b, false, ?_, rfl⟩; rw [HD.out]; rfl
  · have HD : Aside (decOK b = decide (IntKind.u64.wrap (-b) ≤ 999999999999999999)) := ⟨by rw [hw]; unfold decOK asInt wrap64; rw [decide_eq_decide]; omega⟩
    clear hw
    go_enter Try.func48, Try.ntmps48
    go_wp2
    all_goals
      go_ret3
      refine ⟨IntKind.u64.wrap (-b), true, ?_, rfl⟩; rw [HD.out]; rfl
def dayOK (b : Int) : Bool := decide (-719528 ≤ asInt b ∧ asInt b ≤ 2932896)
def momOK (b : Int) : Bool := decide (-62167219200000000 ≤ asInt b ∧ asInt b < 253402300800000000)
theorem r13isDay_any (b : Int) (w : World) : Calls Try.prog 49 #[.int .u64 b] w (WhenP (dayOK b) w) := by
  have hd : Aside (dayOK b = (decide (-719528 ≤ wrap64 b) && decide (wrap64 b ≤ 2932896))) := ⟨by unfold dayOK asInt; rw [Bool.decide_and]⟩
  by_cases h1 : -719528 ≤ wrap64 b
  · have H1 := Aside.mk h1
    go_enter Try.func49, Try.ntmps49
    go_wp2
    go_ret2
    refine ⟨wrap64 b, ?_, rfl⟩; rw [hd.out, decide_eq_true H1.out]; rfl
  · have H1 := Aside.mk h1
    have h2 : decide (-719528 ≤ wrap64 b) = false := by simpa using h1
    clear h1
    go_enter Try.func49, Try.ntmps49
    go_wp2
    go_ret2
    refine ⟨wrap64 b, ?_, rfl⟩; rw [hd.out, decide_eq_false (Int.not_le.2 H1.out)]; rfl
theorem r13isMoment_any (b : Int) (w : World) : Calls Try.prog 50 #[.int .u64 b] w (WhenP (momOK b) w) := by
  have hd : Aside (momOK b = (decide (-62167219200000000 ≤ wrap64 b) && decide (wrap64 b < 253402300800000000))) := ⟨by unfold momOK asInt; rw [Bool.decide_and]⟩
  by_cases h1 : -62167219200000000 ≤ wrap64 b
  · have H1 := Aside.mk h1
    go_enter Try.func50, Try.ntmps50
    go_wp2
    go_ret2
    refine ⟨wrap64 b, ?_, rfl⟩; rw [hd.out, decide_eq_true H1.out]; rfl
  · have H1 := Aside.mk h1
    have h2 : decide (-62167219200000000 ≤ wrap64 b) = false := by simpa using h1
    clear h1
    go_enter Try.func50, Try.ntmps50
    go_wp2
    go_ret2
    refine ⟨wrap64 b, ?_, rfl⟩; rw [hd.out, decide_eq_false (Int.not_le.2 H1.out)]; rfl
end Go.Proofs.Ytmhjjhaipcgbiaa
