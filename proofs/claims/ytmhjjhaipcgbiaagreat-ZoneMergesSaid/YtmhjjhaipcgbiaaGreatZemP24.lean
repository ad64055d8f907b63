/- Texts of this claim, one behind the other: App2, Book0. -/
import Derived.Test.YtmhjjhaipcgbiaaGreatZemP1
import Derived.Test.YtmhjjhaipcgbiaaGreatZemP7
import Derived.Test.YtmhjjhaipcgbiaaGreatZemP18
import Derived.Test.YtmhjjhaipcgbiaaGreatZemP20

namespace Go.Proofs.YtmhjjhaipcgbiaaGreat
open Go.RowKit
set_option linter.unusedSimpArgs false
set_option linter.unusedVariables false
theorem own_front0 {w : World} {base : Nat} {E : TypeId} {sz n c m : Nat} {a : Option Addr} {xs ys : List Value} (h : Own w base E sz (.slice a (n + m) c) (n + m) (xs ++ ys)) (hx : xs.length = n * sz) : Own w base E sz (.slice a n c) n xs := by
  rcases h.2 with ⟨e, hn⟩ | ⟨g, off, cap, cur, e, h1, h2, h3, h4, h5, h6⟩
  · simp only [Value.slice.injEq] at e
    obtain ⟨rfl, _, rfl⟩ := e
    obtain rfl : n = 0 := by omega
    have : xs = [] := List.eq_nil_of_length_eq_zero (by simpa using hx)
    subst this
    exact Own.nil _ _ _ _
  · cases e
    refine ⟨hx, .inr ⟨g, off, c, cur, rfl, h1, h2, by omega, h4, h5, fun j hj => ?_⟩⟩
    rw [h6 j (by rw [Nat.add_mul]; omega), List.getElem?_append_left (by omega)]
section
variable {P : Program}
structure AppP (w : World) (base : Nat) (e : TypeId) (size : Nat) (v : Value) (n : Nat) (xs : List Value) (m : Nat) (news : List Value) (v' : Value) (w' : World) : Prop where
  own : Own w' base e size v' (n + m) (xs ++ news)
  old : Own w' base e size v n xs
  grown : w.grownBy w' v.ownBlock
  blk : v'.ownBlock = v.ownBlock ∨ ∃ b, v'.ownBlock = some b ∧ w.heap.size ≤ b
  same : (∃ a c, v = .slice a n c ∧ v' = .slice a (n + m) c) ∨ ∃ b, v'.ownBlock = some b ∧ w.heap.size ≤ b
theorem run_append_own2 (w : World) (base : Nat) (t tx ty e : TypeId) (i : TypeInfo) (z : Value) (size bytes : Nat) (ht : P.underlying t = some (.slice e)) (hi : P.info? e = some i) (hz : i.zero = some z)
    (hsize : i.size = size) (hby : i.bytes = bytes) (hzs : z.cells.size = size)
    (v : Value) (n : Nat) (xs : List Value) (hown : Own w base e size v n xs)
    (x : Value) (m : Nat) (news : List Value) (hs : Src P size tx x m news w)
    (h63 : n + m ≤ maxLen) (hbytes : (n + m) * bytes ≤ 140737488355328) (hbase : base ≤ w.heap.size) :
    ∃ v' w', (Builtin.append_ #[t, tx] ty #[v, x]).run P w = .ok v' w' ∧ AppP w base e size v n xs m news v' w' := by
  subst hsize
  subst hby
  have hl : news.length = m * i.size := hs.newsLen
  have hsmall : n + m ≤ 9223372036854775807 := by simp only [maxLen] at h63; omega
  have hlen : (xs ++ news).length = (n + m) * i.size := by rw [List.length_append, hown.1, hl, Nat.add_mul]
  have grown : ∀ (old : Nat), old < n + m → ∀ (row : Option Nat),
      Own (w.drew.alloc (.cells ((xs ++ news).toArray ++ Builtin.zeroCells z.cells (grownCap w (n + m) old e - (n + m))) e)) base e i.size
        (.slice (some ⟨w.heap.size, 0, none⟩) (n + m) (grownCap w (n + m) old e)) (n + m) (xs ++ news) ∧
      w.grownBy (w.drew.alloc (.cells ((xs ++ news).toArray ++ Builtin.zeroCells z.cells (grownCap w (n + m) old e - (n + m))) e)) row := by
    intro old ho row
    have hge := grownCap_ge w (n + m) old e
    have hcm : grownCap w (n + m) old e ≤ maxLen := grownCap_le_maxLen w (n + m) old e h63
    refine ⟨⟨hlen, .inr ⟨w.heap.size, 0, _, _, rfl, hbase, heap_alloc_new w.drew _, hge, hcm, ?_, fun j hj => ?_⟩⟩, ⟨rfl, rfl, rfl, by simp, fun k hk _ => Below.heap_alloc w.drew _ k hk⟩⟩
    · simp only [Array.size_append, List.size_toArray, size_zeroCells, hzs, hlen, ← Nat.add_mul]
      rw [Nat.zero_add]
      exact Nat.le_of_eq (by congr 1; omega)
    · rw [Nat.zero_add, Array.getElem?_append_left (by simpa [hlen] using hj)]
      simp
  have old : ∀ (o : Obj), Own (w.drew.alloc o) base e i.size v n xs := fun o => hown.below (((below_drewN w _ 1).alloc (Nat.le_refl _) o))
  rcases hown.2 with ⟨rfl, rfl⟩ | ⟨g, off, cap, cur, rfl, hbg, hg, hnc, hcm, hcs, htake⟩
  · have hx : xs = [] := List.eq_nil_of_length_eq_zero (by simpa using hown.1)
    subst hx
    by_cases hm : m = 0
    · subst hm
      have hn : news = [] := List.eq_nil_of_length_eq_zero (by simpa using hl)
      subst hn
      refine ⟨.slice none 0 0, w, ?_, Own.nil w base e i.size, hown, ⟨rfl, rfl, rfl, Nat.le_refl _, fun _ _ _ => rfl⟩, .inl rfl, .inl ⟨none, 0, rfl, rfl⟩⟩
      rcases hs.kind with ⟨e', hk⟩ | hk <;> simp [Builtin.append_, run_underlying ht, run_underlying hk, sizeOf, typeInfo, hi, hs.len, hs.cells]
    · have hr := run_append_grow_src (P := P) w t tx ty e i z ht hi hz none 0 0 [] (by simp [Builtin.firstCells]) x m news hs (by omega) (by omega) (growslice_fits (by omega) (by simpa using hbytes))
      have hgr := grown 0 (by omega) (Value.ownBlock (.slice none 0 0))
      exact ⟨_, _, hr, hgr.1, old _, hgr.2, .inr ⟨_, rfl, Nat.le_refl _⟩, .inr ⟨_, rfl, Nat.le_refl _⟩⟩
  · have hxs : ∀ j u, xs[j]? = some u → w.cell? ((⟨g, off, none⟩ : Addr).add j) = some u := by
      intro j u hu
      rw [addr_add, cell_blk hg, htake j (by have := (List.getElem?_eq_some_iff.1 hu).1; rw [hown.1] at this; exact this)]
      exact hu
    by_cases hroom : n + m ≤ cap
    · have hfit : n * i.size + news.length ≤ cap * i.size := by rw [hl, ← Nat.add_mul]; exact Nat.mul_le_mul_right _ hroom
      have hst := run_storeCells_at P g (off + n * i.size) e news 0 cur w hg (by omega) hs.one
      simp only [Nat.add_zero] at hst
      have hr : (Builtin.append_ #[t, tx] ty #[.slice (some ⟨g, off, none⟩) n cap, x]).run P w = .ok (.slice (some ⟨g, off, none⟩) (n + m) cap) (w.setRow g (cur.toList.take (off + n * i.size) ++ news ++ cur.toList.drop (off + n * i.size + news.length)).toArray) := by
        rcases hs.kind with ⟨e', hk⟩ | hk <;> simp [Builtin.append_, run_underlying ht, run_underlying hk, sizeOf, typeInfo, hi, hs.len, hroom, hs.cells, addr_add, hst]
      have ho : Own (w.setRow g (cur.toList.take (off + n * i.size) ++ news ++ cur.toList.drop (off + n * i.size + news.length)).toArray) base e i.size (.slice (some ⟨g, off, none⟩) (n + m) cap) (n + m) (xs ++ news) := by
        refine ⟨hlen, .inr ⟨g, off, cap, _, rfl, hbg, setRow_heap w g cur _ e _ hg, hroom, hcm, ?_, fun j hj => ?_⟩⟩
        · simp only [List.size_toArray, List.length_append, List.length_take, List.length_drop, Array.length_toList]
          omega
        · have hx := hown.1
          have ht1 : (cur.toList.take (off + n * i.size)).length = off + n * i.size := by rw [List.length_take, Array.length_toList]; omega
          rw [List.getElem?_toArray]
          by_cases hj2 : j < n * i.size
          · rw [List.append_assoc, List.getElem?_append_left (by omega), List.getElem?_take, if_pos (by omega), Array.getElem?_toList, htake j hj2, List.getElem?_append_left (by omega)]
          · rw [List.append_assoc, List.getElem?_append_right (by omega), ht1, List.getElem?_append_left (by rw [hl]; rw [Nat.add_mul] at hj; omega), List.getElem?_append_right (by omega)]
            congr 1
            omega
      exact ⟨_, _, hr, ho, own_front0 ho hown.1, ⟨rfl, rfl, rfl, by simp, fun k _ hk => setRow_other w g k _ (fun e => hk (by simp [Value.ownBlock, e]))⟩, .inl rfl, .inl ⟨_, _, rfl, rfl⟩⟩
    · have hold : (Builtin.firstCells i.size n (.slice (some ⟨g, off, none⟩) n cap)).run P w.drew = .ok xs.toArray w.drew := run_firstCells_some w.drew i.size n ⟨g, off, none⟩ n cap xs hown.1 (by simpa using hxs)
      have hr := run_append_grow_src (P := P) w t tx ty e i z ht hi hz (some ⟨g, off, none⟩) n cap xs hold x m news hs (by omega) (by omega) (growslice_fits (by omega) hbytes)
      have hgr := grown cap (by omega) (Value.ownBlock (.slice (some ⟨g, off, none⟩) n cap))
      exact ⟨_, _, hr, hgr.1, old _, hgr.2, .inr ⟨_, rfl, Nat.le_refl _⟩, .inr ⟨_, rfl, Nat.le_refl _⟩⟩
theorem wpList_app2 (w : World) {ops : Array Oper} {rest : List Oper} {o : Oper} {a : Act} {Q : Exit → Act → World → Prop} (hgd : o.guard = none) (s x : Operand) (t tx : TypeId)
    (ho : o.op = .call { callee := .builtin .append, args := #[s, x], argTypes := #[t, tx] })
    (base : Nat) (e : TypeId) (z : Value) (size bytes : Nat) (ht : P.underlying t = some (.slice e)) (hi : (P.info? e).map (fun i => (i.zero, i.size, i.bytes)) = some (some z, size, bytes))
    (hzs : z.cells.size = size)
    (v : Value) (n : Nat) (xs : List Value) (hs : a.eval s = v) (hown : Own w base e size v n xs)
    (u : Value) (m : Nat) (news : List Value) (hx : a.eval x = u) (hsrc : Src P size tx u m news w)
    (h63 : n + m ≤ maxLen) (hbytes : (n + m) * bytes ≤ 140737488355328) (hbase : base ≤ w.heap.size)
    (h : ∀ v' w', AppP w base e size v n xs m news v' w' → wpList P ops Q rest (a.put o.dst v') w') : wpList P ops Q (o :: rest) a w := by
  obtain ⟨i0, hi, hz0, hz1, hz2⟩ := info_parts hi
  obtain ⟨v', w', hr, h2⟩ := run_append_own2 (P := P) w base t tx o.type e i0 z size bytes ht hi hz0 hz1 hz2 hzs v n xs hown u m news hsrc h63 hbytes hbase
  have hw : Region.wanted o (yielded ops a.tmps) = true := by simp [Region.wanted, hgd]
  simp only [wpList, hw, if_true]
  left
  unfold Oper.wp execOp
  simp only [ho, resolve, invoke, builtin, Sem.run_bind, Sem.run_pure, Result.andThen_ok, List.map_toArray, List.map_cons, List.map_nil, hs, hx, hr]
  exact h v' w' h2
theorem step_app2 (w : World) {ops : Array Oper} {o : Oper} {a : Act} {K : Act → World → Prop} {Q : Exit → Act → World → Prop} {E' : Prop} (s x : Operand) (t tx : TypeId)
    (ho : o.op = .call { callee := .builtin .append, args := #[s, x], argTypes := #[t, tx] }) (hgd : o.guard = none)
    (base : Nat) (e : TypeId) (z : Value) (size bytes : Nat) (ht : P.underlying t = some (.slice e)) (hi : (P.info? e).map (fun i => (i.zero, i.size, i.bytes)) = some (some z, size, bytes))
    (hzs : z.cells.size = size)
    (v : Value) (n : Nat) (xs : List Value) (hs : a.eval s = v) (hown : Own w base e size v n xs)
    (u : Value) (m : Nat) (news : List Value) (hx : a.eval x = u) (hsrc : Src P size tx u m news w)
    (h63 : n + m ≤ maxLen) (hbytes : (n + m) * bytes ≤ 140737488355328) (hbase : base ≤ w.heap.size)
    (h : ∀ v' w', AppP w base e size v n xs m news v' w' → K (a.put o.dst v') w') : if Region.wanted o (yielded ops a.tmps) = true then Oper.wp P o a w K Q else E' := by
  obtain ⟨i0, hi, hz0, hz1, hz2⟩ := info_parts hi
  obtain ⟨v', w', hr, h2⟩ := run_append_own2 (P := P) w base t tx o.type e i0 z size bytes ht hi hz0 hz1 hz2 hzs v n xs hown u m news hsrc h63 hbytes hbase
  have hw : Region.wanted o (yielded ops a.tmps) = true := by simp [Region.wanted, hgd]
  rw [if_pos hw]
  unfold Oper.wp execOp
  simp only [ho, resolve, invoke, builtin, Sem.run_bind, Sem.run_pure, Result.andThen_ok, List.map_toArray, List.map_cons, List.map_nil, hs, hx, hr]
  exact h v' w' h2
end
theorem Own.keptT {w w' : World} {base : Nat} {E : TypeId} {sz n : Nat} {v : Value} {xs : List Value} {S : Nat → Prop} (h : Own w base E sz v n xs) (hk : Kept S w w') (hS : ∀ b, S b → b < w.heap.size → ∀ cs, w.heap[b]? ≠ some (.cells cs E (0, 0))) : Own w' base E sz v n xs := by
  refine h.kept hk (fun b e hb => ?_)
  rcases h.2 with ⟨rfl, _⟩ | ⟨g, off, cap, cur, rfl, _, hg, _⟩
  · cases e
  · cases e; exact hS _ hb (lt_of_blk hg) _ hg
end Go.Proofs.YtmhjjhaipcgbiaaGreat


namespace Go.Proofs.YtmhjjhaipcgbiaaGreat
open Go.RowKit
set_option linter.unusedVariables false
set_option linter.unusedSimpArgs false
set_option maxRecDepth 100000
set_option maxHeartbeats 1000000
theorem box6b {w : World} {b : Nat} {x0 x1 x2 x3 x4 x5 : Value} {T : TypeId} (h : w.heap[b]? = some (.cells #[x0, x1, x2, x3, x4, x5] T (0, 0))) : w.cell? ⟨b, 0, none⟩ = some x0 ∧ w.cell? ⟨b, 1, none⟩ = some x1 ∧ w.cell? ⟨b, 2, none⟩ = some x2 ∧ w.cell? ⟨b, 3, none⟩ = some x3 ∧ w.cell? ⟨b, 4, none⟩ = some x4 ∧ w.cell? ⟨b, 5, none⟩ = some x5 := by
  refine ⟨?_, ?_, ?_, ?_, ?_, ?_⟩ <;> (rw [cell_blk h]; rfl)
structure KRow where
  a : Option Addr
  c : Nat
  xs : List Int
def KRow.val (r : KRow) : Value := .slice r.a r.xs.length r.c
structure BR (w : World) (E TE : TypeId) (K : IntKind) (v : Value) (rows : List KRow) : Prop where
  rv : Own w 0 TE 1 v rows.length (rows.map KRow.val)
  row : ∀ (i : Nat) r, rows[i]? = some r → Own w 0 E 1 r.val r.xs.length (r.xs.map (.int K))
  apart : ∀ (i j : Nat) r r', i < j → rows[i]? = some r → rows[j]? = some r' → ∀ b, r.val.ownBlock = some b → r'.val.ownBlock ≠ some b
  few : rows.length ≤ 400
  small : ∀ r ∈ rows, r.xs.length ≤ 100000000
structure BS_ (w : World) (E TE : TypeId) (K : IntKind) (sv : Value) (rows : List KRow) (ss : List Value) : Prop where
  rs : Own w 0 TE 1 sv rows.length ss
  said : ∀ (i : Nat) r, rows[i]? = some r → ∃ a c, ss[i]? = some (.slice a r.xs.length c) ∧ Own w 0 E 1 (.slice a r.xs.length c) r.xs.length (r.xs.map (.int K))
structure BT (T : Nat → Prop) (v sv : Value) (rows : List KRow) (ss : List Value) : Prop where
  tv : ∀ b, v.ownBlock = some b → T b
  ts : ∀ b, sv.ownBlock = some b → T b
  vs : ∀ b, v.ownBlock = some b → sv.ownBlock ≠ some b
  trow : ∀ r ∈ rows, ∀ b, r.val.ownBlock = some b → T b
  tsaid : ∀ u ∈ ss, ∀ b, u.ownBlock = some b → T b
structure BKx (w : World) (T : Nat → Prop) (bk : Nat) (rows irows : List KRow) (ss hs : List Value) (bv sv iv hv : Value) : Prop where
  blk : w.heap[bk]? = some (.cells #[bv, sv, .slice none 0 0, .slice none 0 0, iv, hv] 41 (0, 0))
  tb : T bk
  b : BR w 5 43 .u8 bv rows
  bs : BS_ w 5 43 .u8 sv rows ss
  bt : BT T bv sv rows ss
  by_ : ∀ r ∈ rows, IsBytes r.xs
  i : BR w 3 61 .i64 iv irows
  is : BS_ w 3 61 .i64 hv irows hs
  it : BT T iv hv irows hs
def BK (w : World) (T : Nat → Prop) (bk : Nat) : Prop := ∃ rows irows ss hs bv sv iv hv, BKx w T bk rows irows ss hs bv sv iv hv
theorem BR.kept {w w' : World} {E TE : TypeId} {K : IntKind} {v : Value} {rows : List KRow} {S : Nat → Prop} (h : BR w E TE K v rows) (hk : Kept S w w') (h1 : ∀ b, v.ownBlock = some b → ¬ S b) (h2 : ∀ r ∈ rows, ∀ b, r.val.ownBlock = some b → ¬ S b) : BR w' E TE K v rows :=
  ⟨h.rv.kept hk h1, fun i r hi => (h.row i r hi).kept hk (h2 r (List.mem_of_getElem? hi)), h.apart, h.few, h.small⟩
theorem BS_.kept {w w' : World} {E TE : TypeId} {K : IntKind} {sv : Value} {rows : List KRow} {ss : List Value} {S : Nat → Prop} (h : BS_ w E TE K sv rows ss) (hk : Kept S w w') (h1 : ∀ b, sv.ownBlock = some b → ¬ S b) (h2 : ∀ u ∈ ss, ∀ b, u.ownBlock = some b → ¬ S b) : BS_ w' E TE K sv rows ss :=
  ⟨h.rs.kept hk h1, fun i r hi => by
    obtain ⟨a, c, q1, q2⟩ := h.said i r hi
    exact ⟨a, c, q1, q2.kept hk (h2 _ (List.mem_of_getElem? q1))⟩⟩
theorem BR.keptT {w w' : World} {E TE : TypeId} {K : IntKind} {v : Value} {rows : List KRow} {S : Nat → Prop} (h : BR w E TE K v rows) (hk : Kept S w w') (h1 : ∀ b, S b → b < w.heap.size → ∀ cs, w.heap[b]? ≠ some (.cells cs E (0, 0))) (h2 : ∀ b, S b → b < w.heap.size → ∀ cs, w.heap[b]? ≠ some (.cells cs TE (0, 0))) : BR w' E TE K v rows :=
  ⟨h.rv.keptT hk h2, fun i r hi => (h.row i r hi).keptT hk h1, h.apart, h.few, h.small⟩
theorem BS_.keptT {w w' : World} {E TE : TypeId} {K : IntKind} {sv : Value} {rows : List KRow} {ss : List Value} {S : Nat → Prop} (h : BS_ w E TE K sv rows ss) (hk : Kept S w w') (h1 : ∀ b, S b → b < w.heap.size → ∀ cs, w.heap[b]? ≠ some (.cells cs E (0, 0))) (h2 : ∀ b, S b → b < w.heap.size → ∀ cs, w.heap[b]? ≠ some (.cells cs TE (0, 0))) : BS_ w' E TE K sv rows ss :=
  ⟨h.rs.keptT hk h2, fun i r hi => by
    obtain ⟨a, c, q1, q2⟩ := h.said i r hi
    exact ⟨a, c, q1, q2.keptT hk h1⟩⟩
theorem BR.lt {w : World} {E TE : TypeId} {K : IntKind} {v : Value} {rows : List KRow} (h : BR w E TE K v rows) : (∀ b, v.ownBlock = some b → b < w.heap.size) ∧ ∀ r ∈ rows, ∀ b, r.val.ownBlock = some b → b < w.heap.size := by
  refine ⟨fun b e => (h.rv.lt b e).2, fun r hr b e => ?_⟩
  obtain ⟨i, hi, rfl⟩ := List.mem_iff_getElem.1 hr
  exact ((h.row i _ (List.getElem?_eq_getElem hi)).lt b e).2
theorem BS_.lt {w : World} {E TE : TypeId} {K : IntKind} {sv : Value} {rows : List KRow} {ss : List Value} (h : BS_ w E TE K sv rows ss) : (∀ b, sv.ownBlock = some b → b < w.heap.size) ∧ ∀ u ∈ ss, ∀ b, u.ownBlock = some b → b < w.heap.size := by
  refine ⟨fun b e => (h.rs.lt b e).2, fun u hu b e => ?_⟩
  obtain ⟨i, hi, rfl⟩ := List.mem_iff_getElem.1 hu
  have hl : ss.length = rows.length := by have := h.rs.1; omega
  obtain ⟨a, c, q1, q2⟩ := h.said i _ (List.getElem?_eq_getElem (show i < rows.length by omega))
  rw [List.getElem?_eq_getElem hi] at q1
  rw [Option.some.inj q1] at e
  exact (q2.lt b e).2
theorem BKx.kept {w w' : World} {T S : Nat → Prop} {bk : Nat} {rows irows : List KRow} {ss hs : List Value} {bv sv iv hv : Value} (h : BKx w T bk rows irows ss hs bv sv iv hv) (hk : Kept S w w') (hS : ∀ b, T b → b < w.heap.size → ¬ S b) : BKx w' T bk rows irows ss hs bv sv iv hv :=
  ⟨(hk.block _ (lt_of_blk h.blk) (hS _ h.tb (lt_of_blk h.blk))).trans h.blk, h.tb, h.b.kept hk (fun b e => hS b (h.bt.tv b e) (h.b.lt.1 b e)) (fun r hr b e => hS b (h.bt.trow r hr b e) (h.b.lt.2 r hr b e)),
    h.bs.kept hk (fun b e => hS b (h.bt.ts b e) (h.bs.lt.1 b e)) (fun u hu b e => hS b (h.bt.tsaid u hu b e) (h.bs.lt.2 u hu b e)), h.bt, h.by_,
    h.i.kept hk (fun b e => hS b (h.it.tv b e) (h.i.lt.1 b e)) (fun r hr b e => hS b (h.it.trow r hr b e) (h.i.lt.2 r hr b e)),
    h.is.kept hk (fun b e => hS b (h.it.ts b e) (h.is.lt.1 b e)) (fun u hu b e => hS b (h.it.tsaid u hu b e) (h.is.lt.2 u hu b e)), h.it⟩
theorem BT.mono {T T' : Nat → Prop} {v sv : Value} {rows : List KRow} {ss : List Value} {n : Nat} (h : BT T v sv rows ss) (hT : ∀ b, T b → b < n → T' b) (h1 : ∀ b, v.ownBlock = some b → b < n) (h2 : ∀ b, sv.ownBlock = some b → b < n) (h3 : ∀ r ∈ rows, ∀ b, r.val.ownBlock = some b → b < n) (h4 : ∀ u ∈ ss, ∀ b, u.ownBlock = some b → b < n) : BT T' v sv rows ss :=
  ⟨fun b e => hT b (h.tv b e) (h1 b e), fun b e => hT b (h.ts b e) (h2 b e), h.vs, fun r hr b e => hT b (h.trow r hr b e) (h3 r hr b e), fun u hu b e => hT b (h.tsaid u hu b e) (h4 u hu b e)⟩
theorem BKx.mono {w : World} {T T' : Nat → Prop} {bk : Nat} {rows irows : List KRow} {ss hs : List Value} {bv sv iv hv : Value} (h : BKx w T bk rows irows ss hs bv sv iv hv) (hT : ∀ b, T b → b < w.heap.size → T' b) : BKx w T' bk rows irows ss hs bv sv iv hv :=
  ⟨h.blk, hT _ h.tb (lt_of_blk h.blk), h.b, h.bs, h.bt.mono hT h.b.lt.1 h.bs.lt.1 h.b.lt.2 h.bs.lt.2, h.by_, h.i, h.is, h.it.mono hT h.i.lt.1 h.is.lt.1 h.i.lt.2 h.is.lt.2⟩
theorem BK.kept {w w' : World} {T S : Nat → Prop} {bk : Nat} (h : BK w T bk) (hk : Kept S w w') (hS : ∀ b, T b → b < w.heap.size → ¬ S b) : BK w' T bk := by
  obtain ⟨rows, irows, ss, hs, bv, sv, iv, hv, h⟩ := h
  exact ⟨rows, irows, ss, hs, bv, sv, iv, hv, h.kept hk hS⟩
theorem BK.below {w w' : World} {T : Nat → Prop} {bk : Nat} (h : BK w T bk) (hb : Below w.heap.size w w') : BK w' T bk := h.kept (Kept.of_below (S := fun _ => False) hb) (fun _ _ _ e => e)
theorem BK.mono {w : World} {T T' : Nat → Prop} {bk : Nat} (h : BK w T bk) (hT : ∀ b, T b → b < w.heap.size → T' b) : BK w T' bk := by
  obtain ⟨rows, irows, ss, hs, bv, sv, iv, hv, h⟩ := h
  exact ⟨rows, irows, ss, hs, bv, sv, iv, hv, h.mono hT⟩
theorem BK.new (w : World) : BK (w.alloc (.cells #[.slice none 0 0, .slice none 0 0, .slice none 0 0, .slice none 0 0, .slice none 0 0, .slice none 0 0] 41)) (fun b => w.heap.size ≤ b) w.heap.size :=
  ⟨[], [], [], [], _, _, _, _, heap_alloc_new w _, Nat.le_refl _, ⟨Own.nil _ _ _ _, by simp, by simp, by simp, by simp⟩, ⟨Own.nil _ _ _ _, by simp⟩, ⟨by simp [Value.ownBlock], by simp [Value.ownBlock], by simp [Value.ownBlock], by simp, by simp⟩, by simp,
    ⟨Own.nil _ _ _ _, by simp, by simp, by simp, by simp⟩, ⟨Own.nil _ _ _ _, by simp⟩, ⟨by simp [Value.ownBlock], by simp [Value.ownBlock], by simp [Value.ownBlock], by simp, by simp⟩⟩
theorem br_add {w w' : World} {E TE : TypeId} {K : IntKind} {v v' sv sv' : Value} {rows : List KRow} {ss : List Value} {T : Nat → Prop} {r : KRow} {a : Option Addr} {c : Nat} {S : Nat → Prop} (h : BR w E TE K v rows) (hs : BS_ w E TE K sv rows ss) (ht : BT T v sv rows ss) (hf : rows.length < 400)
    (hr : Own w 0 E 1 r.val r.xs.length (r.xs.map (.int K))) (hrT : ∀ b, r.val.ownBlock = some b → ¬ T b) (hrs : r.xs.length ≤ 100000000) (hk : Kept S w w') (hS : ∀ b, S b → b < w.heap.size → ∀ cs, w.heap[b]? ≠ some (.cells cs E (0, 0)))
    (hv' : Own w' 0 TE 1 v' (rows.length + 1) (rows.map KRow.val ++ [r.val])) (hsv' : Own w' 0 TE 1 sv' (rows.length + 1) (ss ++ [.slice a r.xs.length c])) (hsd : Own w' w.heap.size E 1 (.slice a r.xs.length c) r.xs.length (r.xs.map (.int K)))
    (hb : v'.ownBlock = v.ownBlock ∨ ∃ b, v'.ownBlock = some b ∧ w.heap.size ≤ b) (hb2 : sv'.ownBlock = sv.ownBlock ∨ ∃ b, sv'.ownBlock = some b ∧ w.heap.size ≤ b) (hvs : ∀ b, v'.ownBlock = some b → sv'.ownBlock ≠ some b) :
    BR w' E TE K v' (rows ++ [r]) ∧ BS_ w' E TE K sv' (rows ++ [r]) (ss ++ [.slice a r.xs.length c]) ∧ BT (fun b => T b ∨ r.val.ownBlock = some b ∨ w.heap.size ≤ b) v' sv' (rows ++ [r]) (ss ++ [.slice a r.xs.length c]) := by
  have hsl : ss.length = rows.length := by have := hs.rs.1; omega
  have key : ∀ {i : Nat} {x : KRow}, (rows ++ [r])[i]? = some x → rows[i]? = some x ∨ (i = rows.length ∧ x = r) := fun {i x} hi => by
    rcases Nat.lt_or_ge i rows.length with hl | hl
    · rw [List.getElem?_append_left hl] at hi; exact .inl hi
    · rw [List.getElem?_append_right hl] at hi
      have h0 := (List.getElem?_eq_some_iff.1 hi).1
      simp at h0
      have h1 : i = rows.length := by omega
      subst h1
      simp at hi
      exact .inr ⟨rfl, hi.symm⟩
  refine ⟨⟨by simpa using hv', fun i x hi => ?_, fun i j x y hij hi hj b e => ?_, by simp; omega, fun x hx => ?_⟩, ⟨by simpa using hsv', fun i x hi => ?_⟩, ⟨fun b e => ?_, fun b e => ?_, hvs, fun x hx b e => ?_, fun u hu b e => ?_⟩⟩
  · rcases key hi with h1 | ⟨_, rfl⟩
    · exact (h.row i x h1).keptT hk hS
    · exact hr.keptT hk hS
  · rcases key hj with h2 | ⟨rfl, rfl⟩
    · rcases key hi with h1 | ⟨rfl, rfl⟩
      · exact h.apart i j x y hij h1 h2 b e
      · have := (List.getElem?_eq_some_iff.1 h2).1; omega
    · rcases key hi with h1 | ⟨rfl, rfl⟩
      · exact fun e2 => hrT b e2 (ht.trow x (List.mem_of_getElem? h1) b e)
      · omega
  · rcases List.mem_append.1 hx with hx | hx
    · exact h.small x hx
    · simp at hx; subst hx; exact hrs
  · rcases key hi with h1 | ⟨rfl, rfl⟩
    · obtain ⟨a', c', q1, q2⟩ := hs.said i x h1
      exact ⟨a', c', by rw [List.getElem?_append_left (by have := (List.getElem?_eq_some_iff.1 h1).1; omega)]; exact q1, q2.keptT hk hS⟩
    · exact ⟨a, c, by rw [← hsl, List.getElem?_append_right (Nat.le_refl _)]; simp, hsd.mono (Nat.zero_le _)⟩
  · rcases hb with h1 | ⟨b', h1, h2⟩
    · exact .inl (ht.tv b (h1 ▸ e))
    · rw [h1] at e; cases e; exact .inr (.inr h2)
  · rcases hb2 with h1 | ⟨b', h1, h2⟩
    · exact .inl (ht.ts b (h1 ▸ e))
    · rw [h1] at e; cases e; exact .inr (.inr h2)
  · rcases List.mem_append.1 hx with hx | hx
    · exact .inl (ht.trow x hx b e)
    · simp at hx; subst hx; exact .inr (.inl e)
  · rcases List.mem_append.1 hu with hx | hx
    · exact .inl (ht.tsaid u hx b e)
    · simp at hx; subst hx; exact .inr (.inr (hsd.lt b e).1)
end Go.Proofs.YtmhjjhaipcgbiaaGreat
