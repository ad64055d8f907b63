/- Texts of this claim, one behind the other: Gq, Ff. -/
import Derived.Test.YtmhjjhaipcgbiaaBakP30
import Derived.Test.YtmhjjhaipcgbiaaBakP23
import Derived.Test.YtmhjjhaipcgbiaaBakP12
import Derived.Lib.SlBytesConst

namespace Go.Proofs.Ytmhjjhaipcgbiaa
open Go.RowKit
set_option linter.unusedVariables false
set_option linter.unusedSimpArgs false
set_option maxRecDepth 100000
set_option maxHeartbeats 1000000
theorem takeL_len (n : Int) (s : RS) : (takeL n s).length + (takeS n s).rest.length ≤ s.rest.length := by
  unfold takeL takeS
  split
  · simp
  · rw [List.length_take, List.length_drop]; omega
theorem takeS_bytes {s : RS} (h : IsBytes s.rest) (n : Int) : IsBytes (takeS n s).rest := by
  unfold takeS
  split
  · exact h
  · exact fun v hv => h v (List.mem_of_mem_drop hv)
theorem takeL_bytes {s : RS} (h : IsBytes s.rest) (n : Int) : IsBytes (takeL n s) := by
  unfold takeL
  split
  · exact fun v hv => by cases hv
  · exact fun v hv => h v (List.mem_of_mem_take hv)
theorem numS_bytes {s : RS} (h : IsBytes s.rest) : IsBytes (numS s).rest := by
  unfold numS
  split
  · exact takeS_bytes h 8
  · exact takeS_bytes h 8
theorem hS2_bytes {s : RS} (h : IsBytes s.rest) : IsBytes (hS2 s).rest := takeS_bytes (numS_bytes h) _
theorem hS5_bytes {s : RS} (h : IsBytes s.rest) : IsBytes (hS5 s).rest := numS_bytes (numS_bytes (numS_bytes (hS2_bytes h)))
theorem numS_short (s : RS) : (numS s).rest.length + 8 ≤ s.rest.length ∨ ((numS s).short = true ∧ (numS s).rest.length ≤ s.rest.length) := by
  cases h : (numS s).short with
  | false => exact .inl (by have := (numS_ok h).2.1; omega)
  | true => exact .inr ⟨rfl, numS_le s⟩
theorem endsR_len : ∀ (n : Nat) (s : RS) (z : Int), 8 * (endsR n s z).1.length + (endsR n s z).2.2.rest.length ≤ s.rest.length + 8 ∧ (∀ e ∈ (endsR n s z).1, 0 ≤ e ∧ e ≤ 4611686018427387904) ∧ (s.short = true → (endsR n s z).1 = [] ∧ (endsR n s z).2.2 = s) ∧ (IsBytes s.rest → IsBytes (endsR n s z).2.2.rest)
  | 0, s, z => ⟨by simp [endsR], fun e he => by simp [endsR] at he, fun _ => ⟨rfl, rfl⟩, fun h => h⟩
  | n + 1, s, z => by
    rw [endsR]
    by_cases hs : s.short = true
    · rw [if_pos hs]
      exact ⟨by simp, fun e he => by simp at he, fun _ => ⟨rfl, rfl⟩, fun h => h⟩
    · rw [if_neg hs]
      obtain ⟨h1, h2, h3, h4⟩ := endsR_len n (numS s) (numR s)
      dsimp only
      refine ⟨?_, fun e he => ?_, fun h => absurd h hs, fun h => h4 (numS_bytes h)⟩
      · rw [List.length_cons]
        rcases numS_short s with h | ⟨h, hle⟩
        · omega
        · obtain ⟨e1, e2⟩ := h3 h
          rw [e1, e2]
          simp; omega
      · rcases List.mem_cons.1 he with rfl | he
        · exact numR_bd s
        · exact h2 e he
theorem wordsR_len : ∀ (n : Nat) (s : RS), (encW (wordsR n s).1).length + (wordsR n s).2.rest.length ≤ s.rest.length + 8 ∧ (IsBytes s.rest → (∀ t ∈ (wordsR n s).1, IsBytes t ∧ t.length ≤ s.rest.length) ∧ IsBytes (wordsR n s).2.rest) ∧ (s.short = true → (wordsR n s).1 = [] ∧ (wordsR n s).2 = s)
  | 0, s => ⟨by simp [wordsR, encW], fun h => ⟨fun t ht => by simp [wordsR] at ht, h⟩, fun _ => ⟨rfl, rfl⟩⟩
  | n + 1, s => by
    rw [wordsR]
    by_cases hs : s.short = true
    · rw [if_pos hs]
      exact ⟨by simp [encW], fun h => ⟨fun t ht => by simp at ht, h⟩, fun _ => ⟨rfl, rfl⟩⟩
    · rw [if_neg hs]
      obtain ⟨h1, h2, h3⟩ := wordsR_len n (hS2 s)
      have hl := takeL_len (numR s) (numS s)
      have hn := numS_le s
      have h2l := hS2_le s
      dsimp only
      refine ⟨?_, fun hb => ?_, fun h => absurd h hs⟩
      · have e : (encW (takeL (numR s) (numS s) :: (wordsR n (hS2 s)).1)).length = 8 + (takeL (numR s) (numS s)).length + (encW (wordsR n (hS2 s)).1).length := by
          unfold encW
          rw [List.flatMap_cons, List.length_append]
          unfold txtL
          rw [List.length_append, lows_len]
        rw [e]
        rcases numS_short s with h | ⟨h, hle⟩
        · have : (hS2 s).rest.length = (takeS (numR s) (numS s)).rest.length := rfl
          omega
        · have hsh : (hS2 s).short = true := by
            cases hq : (hS2 s).short with
            | true => rfl
            | false =>
              have := (takeS_ok hq).1
              rw [h] at this; cases this
          obtain ⟨e1, e2⟩ := h3 hsh
          rw [e1, e2]
          have : (hS2 s).rest.length = (takeS (numR s) (numS s)).rest.length := rfl
          simp [encW]; omega
      · obtain ⟨q1, q2⟩ := h2 (hS2_bytes hb)
        refine ⟨fun t ht => ?_, q2⟩
        rcases List.mem_cons.1 ht with rfl | ht
        · exact ⟨takeL_bytes (numS_bytes hb) _, by omega⟩
        · have := q1 t ht
          exact ⟨this.1, by omega⟩
theorem endsR_le : ∀ (n : Nat) (s : RS) (z : Int), (endsR n s z).2.2.rest.length ≤ s.rest.length
  | 0, s, z => Nat.le_refl _
  | n + 1, s, z => by
    rw [endsR]
    split
    · exact Nat.le_refl _
    · exact Nat.le_trans (endsR_le n (numS s) (numR s)) (numS_le s)
theorem wordsR_le : ∀ (n : Nat) (s : RS), (wordsR n s).2.rest.length ≤ s.rest.length
  | 0, s => Nat.le_refl _
  | n + 1, s => by
    rw [wordsR]
    split
    · exact Nat.le_refl _
    · exact Nat.le_trans (wordsR_le n (hS2 s)) (hS2_le s)
theorem colR_le (k sc rows : Int) (s : RS) : (colR k sc rows s).2.rest.length ≤ s.rest.length := by
  unfold colR
  split
  · exact Nat.le_refl _
  · dsimp only
    have a := takeS_le ((rows + 7) / 8) s
    have b : (colEnds k rows s).2.2.rest.length ≤ s.rest.length := by
      unfold colEnds
      split
      · exact Nat.le_trans (endsR_le _ _ _) a
      · exact a
    have c : (colS3 k rows s).rest.length ≤ s.rest.length := Nat.le_trans (takeS_le _ _) b
    unfold colWords
    split
    · exact Nat.le_trans (wordsR_le _ _) (Nat.le_trans (numS_le _) c)
    · exact c
theorem encW_cnt (l : List (List Int)) : l.length * 8 ≤ (encW l).length := by
  induction l with
  | nil => simp [encW]
  | cons t l ih =>
    unfold encW at *
    rw [List.flatMap_cons, List.length_append, List.length_cons]
    unfold txtL at *
    rw [List.length_append, lows_len]
    omega
theorem i64_of {x : Int} (h : 0 ≤ x ∧ x ≤ 4611686018427387904) : IsI64 x := by unfold IsI64; omega
structure ColB (c : Col) (s s' : RS) : Prop where
  ok : COK c
  sm : SmC c
  len : (encC c).length + s'.rest.length ≤ s.rest.length + 32
  bytes : IsBytes s'.rest
theorem colR_facts {s : RS} (hb : IsBytes s.rest) (hl : s.rest.length ≤ 1900000) {k sc rows : Int} (hk : 0 ≤ k ∧ k ≤ 4611686018427387904) (hs : 0 ≤ sc ∧ sc ≤ 4611686018427387904) (hr : 0 ≤ rows ∧ rows ≤ 4611686018427387904) : ColB (colR k sc rows s).1 s (colR k sc rows s).2 := by
  unfold colR
  split
  · dsimp only
    have z : IsI64 0 := by unfold IsI64; omega
    exact ⟨⟨fun x hx => (by cases hx), fun x hx => (by cases hx), fun x hx => (by cases hx), fun x hx => (by cases hx), by simp, by simp, by simp, by simp, z, z, z, z⟩, ⟨by simp, by simp, by simp, by simp [encW]⟩, by simp [encC, encE], hb⟩
  · dsimp only
    have a1 := takeL_len ((rows + 7) / 8) s
    have a2 := takeL_bytes hb ((rows + 7) / 8)
    have a3 := takeS_bytes hb ((rows + 7) / 8)
    -- the ends
    have be : 8 * (colEnds k rows s).1.length + (colEnds k rows s).2.2.rest.length ≤ (takeS ((rows + 7) / 8) s).rest.length + 8 ∧ (∀ e ∈ (colEnds k rows s).1, 0 ≤ e ∧ e ≤ 4611686018427387904) ∧ IsBytes (colEnds k rows s).2.2.rest := by
      unfold colEnds
      split
      · obtain ⟨h1, h2, _, h4⟩ := endsR_len rows.toNat (takeS ((rows + 7) / 8) s) (rows * widthOf k)
        exact ⟨h1, h2, h4 a3⟩
      · exact ⟨by simp, fun e he => by simp at he, a3⟩
    obtain ⟨b1, b2, b3⟩ := be
    have c1 := takeL_len (colEnds k rows s).2.1 (colEnds k rows s).2.2
    have c2 := takeL_bytes b3 (colEnds k rows s).2.1
    have c3 : IsBytes (colS3 k rows s).rest := takeS_bytes b3 _
    have c4 : (takeL (colEnds k rows s).2.1 (colEnds k rows s).2.2).length + (colS3 k rows s).rest.length ≤ (colEnds k rows s).2.2.rest.length := c1
    have de : (if k = 16 then 8 else 0) + (encW (colWords k (colS3 k rows s)).1).length + (colWords k (colS3 k rows s)).2.rest.length ≤ (colS3 k rows s).rest.length + 16 ∧ (∀ t ∈ (colWords k (colS3 k rows s)).1, IsBytes t ∧ t.length ≤ (colS3 k rows s).rest.length) ∧ IsBytes (colWords k (colS3 k rows s)).2.rest := by
      unfold colWords
      split
      · obtain ⟨h1, h2, _⟩ := wordsR_len (numR (colS3 k rows s)).toNat (numS (colS3 k rows s))
        obtain ⟨h3, h4⟩ := h2 (numS_bytes c3)
        have hn := numS_le (colS3 k rows s)
        refine ⟨?_, fun t ht => ?_, h4⟩
        · omega
        · have := h3 t ht
          exact ⟨this.1, by omega⟩
      · exact ⟨by simp [encW], fun t ht => by simp at ht, c3⟩
    obtain ⟨d1, d2, d3⟩ := de
    have d4 := encW_cnt (colWords k (colS3 k rows s)).1
    generalize takeL ((rows + 7) / 8) s = bits at *
    generalize takeL (colEnds k rows s).2.1 (colEnds k rows s).2.2 = data at *
    generalize (colEnds k rows s).1 = es at *
    generalize (colWords k (colS3 k rows s)).1 = ws at *
    have hsz : (encC ⟨k, sc, rows, rows, bits, data, es, ws⟩).length ≤ bits.length + 8 * es.length + data.length + ((if k = 16 then 8 else 0) + (encW ws).length) := by
      unfold encC
      dsimp only
      split <;> simp only [List.length_append, encE_len, lows_len, List.length_nil] <;> omega
    refine ⟨⟨a2, c2, fun x hx => i64_of (b2 x hx), fun t ht => ⟨(d2 t ht).1, by have := (d2 t ht).2; omega⟩, by dsimp only; omega, by dsimp only; omega, by dsimp only; omega, by dsimp only; omega, i64_of hk, i64_of hs, i64_of hr, i64_of hr⟩, ⟨by dsimp only; omega, by dsimp only; omega, by dsimp only; omega, by dsimp only; omega⟩, by omega, d3⟩
theorem colsR_facts {rows : Int} (hr : 0 ≤ rows ∧ rows ≤ 4611686018427387904) : ∀ (hs : List Hd) (s : RS), IsBytes s.rest → s.rest.length ≤ 1900000 → (∀ h ∈ hs, (0 ≤ h.k ∧ h.k ≤ 4611686018427387904) ∧ 0 ≤ h.s ∧ h.s ≤ 4611686018427387904) →
    (colsR rows hs s).1.length = hs.length ∧ (∀ c ∈ (colsR rows hs s).1, COK c ∧ SmC c) ∧ ((colsR rows hs s).1.flatMap encC).length + (colsR rows hs s).2.rest.length ≤ s.rest.length + 32 * hs.length ∧ IsBytes (colsR rows hs s).2.rest
  | [], s, hb, _, _ => ⟨rfl, (fun c hc => by cases hc), by simp [colsR], hb⟩
  | h :: hs, s, hb, hl, hh => by
    have h1 := hh h (List.mem_cons_self ..)
    have hf := colR_facts hb hl h1.1 h1.2 hr
    have hle := colR_le h.k h.s rows s
    obtain ⟨q1, q2, q3, q4⟩ := colsR_facts hr hs (colR h.k h.s rows s).2 hf.bytes (by omega) (fun x hx => hh x (List.mem_cons_of_mem _ hx))
    have hlen := hf.len
    rw [colsR]
    dsimp only
    refine ⟨by rw [List.length_cons, List.length_cons, q1], fun c hc => ?_, ?_, q4⟩
    · rcases List.mem_cons.1 hc with rfl | hc
      · exact ⟨hf.ok, hf.sm⟩
      · exact q2 c hc
    · rw [List.flatMap_cons, List.length_append, List.length_cons]; omega
theorem strOf_size (xs : List Int) : (strOfNums xs).size = xs.length := by
  unfold strOfNums; simp [ByteArray.size]
theorem headsR_facts : ∀ (n : Nat) (s : RS), IsBytes s.rest → (∀ h ∈ (headsR n s).1, h.name.size ≤ s.rest.length ∧ (0 ≤ h.k ∧ h.k ≤ 4611686018427387904) ∧ 0 ≤ h.s ∧ h.s ≤ 4611686018427387904) ∧ (headsR n s).1.length + (headsR n s).2.rest.length ≤ s.rest.length + 1 ∧ (headsR n s).2.rest.length ≤ s.rest.length ∧ IsBytes (headsR n s).2.rest ∧ (s.short = true → headsR n s = ([], s))
  | 0, s, hb => ⟨fun h hh => by simp [headsR] at hh, by simp [headsR], Nat.le_refl _, hb, fun _ => rfl⟩
  | n + 1, s, hb => by
    rw [headsR]
    by_cases hs : s.short = true
    · rw [if_pos hs]
      exact ⟨fun h hh => by simp at hh, by simp, Nat.le_refl _, hb, fun _ => rfl⟩
    · rw [if_neg hs]
      obtain ⟨q1, q2, q3, q4, q5⟩ := headsR_facts n (hS5 s) (hS5_bytes hb)
      have hle := hS5_le s
      have hnl := numS_le s
      have htl := takeL_len (numR s) (numS s)
      dsimp only
      refine ⟨fun h hh => ?_, ?_, by omega, q4, fun h => absurd h hs⟩
      · rcases List.mem_cons.1 hh with rfl | hh
        · refine ⟨?_, numR_bd _, numR_bd _⟩
          show (strOfNums (takeL (numR s) (numS s))).size ≤ _
          rw [strOf_size]; omega
        · have := q1 h hh
          exact ⟨by omega, this.2⟩
      · rw [List.length_cons]
        cases hsh : (hS5 s).short with
        | true =>
          rw [q5 hsh]
          simp; omega
        | false =>
          have := hS5_ok hsh
          omega
end Go.Proofs.Ytmhjjhaipcgbiaa


namespace Go.Proofs.Ytmhjjhaipcgbiaa
open Go.RowKit
set_option linter.unusedVariables false
set_option linter.unusedSimpArgs false
set_option maxRecDepth 100000
set_option maxHeartbeats 1000000
section
variable {P : Program}
theorem run_append_full (w : World) (base : Nat) (t tx ty e : TypeId) (i : TypeInfo) (z : Value) (size bytes : Nat) (ht : P.underlying t = some (.slice e)) (hi : P.info? e = some i) (hz : i.zero = some z)
    (hsize : i.size = size) (hby : i.bytes = bytes) (hzs : z.cells.size = size)
    (g n : Nat) (xs : List Value) (hx : xs.length = n * size) (hrd : ∀ j u, xs[j]? = some u → w.cell? ⟨g, j, none⟩ = some u)
    (x : Value) (m : Nat) (news : List Value) (hs : Src P size tx x m news w) (hm : 0 < m)
    (h63 : n + m ≤ maxLen) (hbytes : (n + m) * bytes ≤ 140737488355328) (hbase : base ≤ w.heap.size) :
    ∃ v' w', (Builtin.append_ #[t, tx] ty #[.slice (some ⟨g, 0, none⟩) n n, x]).run P w = .ok v' w' ∧ Own w' base e size v' (n + m) (xs ++ news) ∧ Below w.heap.size w w' ∧ (∃ b, v'.ownBlock = some b ∧ w.heap.size ≤ b) := by
  subst hsize
  subst hby
  have hl : news.length = m * i.size := hs.newsLen
  have hsmall : n + m ≤ 9223372036854775807 := by simp only [maxLen] at h63; omega
  have hlen : (xs ++ news).length = (n + m) * i.size := by rw [List.length_append, hx, hl, Nat.add_mul]
  have hge := grownCap_ge w (n + m) n e
  have hcm : grownCap w (n + m) n e ≤ maxLen := grownCap_le_maxLen w (n + m) n e h63
  have hown : Own (w.drew.alloc (.cells ((xs ++ news).toArray ++ Builtin.zeroCells z.cells (grownCap w (n + m) n e - (n + m))) e)) base e i.size
        (.slice (some ⟨w.heap.size, 0, none⟩) (n + m) (grownCap w (n + m) n e)) (n + m) (xs ++ news) := by
    refine ⟨hlen, .inr ⟨w.heap.size, 0, _, _, rfl, hbase, heap_alloc_new w.drew _, hge, hcm, ?_, fun j hj => ?_⟩⟩
    · simp only [Array.size_append, List.size_toArray, size_zeroCells, hzs, hlen, ← Nat.add_mul]
      rw [Nat.zero_add]
      exact Nat.le_of_eq (by congr 1; omega)
    · rw [Nat.zero_add, Array.getElem?_append_left (by simpa [hlen] using hj)]
      simp
  have hxs : ∀ j u, xs[j]? = some u → w.cell? ((⟨g, 0, none⟩ : Addr).add j) = some u := by
    intro j u hu
    rw [addr_add, Nat.zero_add]
    exact hrd j u hu
  have hold : (Builtin.firstCells i.size n (.slice (some ⟨g, 0, none⟩) n n)).run P w.drew = .ok xs.toArray w.drew := run_firstCells_some w.drew i.size n ⟨g, 0, none⟩ n n xs hx (by simpa using hxs)
  have hr := run_append_grow_src (P := P) w t tx ty e i z ht hi hz (some ⟨g, 0, none⟩) n n xs hold x m news hs (by omega) (by omega) (growslice_fits (by omega) hbytes)
  exact ⟨_, _, hr, hown, (below_drewN w _ 1).alloc (Nat.le_refl _) _, ⟨_, rfl, Nat.le_refl _⟩⟩
theorem wpList_appF (w : World) {ops : Array Oper} {rest : List Oper} {o : Oper} {a : Act} {Q : Exit → Act → World → Prop} (hgd : o.guard = none) (s x : Operand) (t tx : TypeId)
    (ho : o.op = .call { callee := .builtin .append, args := #[s, x], argTypes := #[t, tx] })
    (base : Nat) (e : TypeId) (z : Value) (size bytes : Nat) (ht : P.underlying t = some (.slice e)) (hi : (P.info? e).map (fun i => (i.zero, i.size, i.bytes)) = some (some z, size, bytes))
    (hzs : z.cells.size = size)
    (g n : Nat) (xs : List Value) (hs : a.eval s = .slice (some ⟨g, 0, none⟩) n n) (hx' : xs.length = n * size) (hrd : ∀ j u, xs[j]? = some u → w.cell? ⟨g, j, none⟩ = some u)
    (u : Value) (m : Nat) (news : List Value) (hx : a.eval x = u) (hsrc : Src P size tx u m news w) (hm : 0 < m)
    (h63 : n + m ≤ maxLen) (hbytes : (n + m) * bytes ≤ 140737488355328) (hbase : base ≤ w.heap.size)
    (h : ∀ v' w', (Own w' base e size v' (n + m) (xs ++ news) ∧ Below w.heap.size w w' ∧ (∃ b, v'.ownBlock = some b ∧ w.heap.size ≤ b)) → wpList P ops Q rest (a.put o.dst v') w') : wpList P ops Q (o :: rest) a w := by
  obtain ⟨i0, hi, hz0, hz1, hz2⟩ := info_parts hi
  obtain ⟨v', w', hr, h2⟩ := run_append_full (P := P) w base t tx o.type e i0 z size bytes ht hi hz0 hz1 hz2 hzs g n xs hx' hrd u m news hsrc hm h63 hbytes hbase
  have hw : Region.wanted o (yielded ops a.tmps) = true := by simp [Region.wanted, hgd]
  simp only [wpList, hw, if_true]
  left
  unfold Oper.wp execOp
  simp only [ho, resolve, invoke, builtin, Sem.run_bind, Sem.run_pure, Result.andThen_ok, List.map_toArray, List.map_cons, List.map_nil, hs, hx, hr]
  exact h v' w' h2
end
def FullI (data : List Int) (g : Nat) (X i : Nat) (a' : Option Addr) (c' : Nat) (w wr : World) : Prop := (i = 0 ∧ wr = w ∧ a' = some ⟨g, 0, none⟩ ∧ c' = data.length) ∨ (1 ≤ i ∧ Own wr w.heap.size 5 1 (.slice a' (data.length + i) c') (data.length + i) ((data ++ lows X i).map (.int .u8)) ∧ Below w.heap.size w wr)
theorem fnumf_any (data : List Int) (x : Int) (hl : data.length ≤ 100000000) (g : Nat) (w : World) (hrd : ∀ j u, (data.map (Value.int .u8))[j]? = some u → w.cell? ⟨g, j, none⟩ = some u) :
    Calls Try.prog 74 #[.slice (some ⟨g, 0, none⟩) data.length data.length, .int .i64 x] w (fun e w' => ∃ a c, e = .returned (.slice a (data ++ lows (u64N x) 8).length c) ∧ Own w' w.heap.size 5 1 (.slice a (data ++ lows (u64N x) 8).length c) (data ++ lows (u64N x) 8).length ((data ++ lows (u64N x) 8).map (.int .u8)) ∧ Below w.heap.size w w') := by
  have HU := Aside.mk (u64N_wrap x)
  generalize u64N x = X at *
  have H := Aside.mk (show FullI data g X 0 (some ⟨g, 0, none⟩) data.length w w from .inl ⟨rfl, rfl, rfl, rfl⟩)
  have HRD := Aside.mk hrd
  clear hrd
  generalize hdl : data.length = n at *
  have HDL := Aside.mk hdl
  go_enter Try.func74, Try.ntmps74
  go_wp2
  go_loopw [0, 5, 6] (fun bv jv iv wr => ∃ (i : Nat) (a' : Option Addr) (c' : Nat), i ≤ 8 ∧ bv = .slice a' (n + i) c' ∧ iv = .int .i64 (i : Int) ∧ Aside (FullI data g X i a' c' w wr)) (fun _ _ iv _ => 8 - (intOf iv).toNat)
  case atStart => exact ⟨0, _, _, by omega, rfl, rfl, by rw [← hdl] at H ⊢; exact H⟩
  case round =>
    clear H
    obtain ⟨i, a', c', hi, rfl, rfl, hp⟩ := hrel
    by_cases hlt : i < 8
    · rcases hp.out with ⟨rfl, rfl, rfl, rfl⟩ | ⟨h1, hown, hbel⟩
      · clear hp
        subst hdl
        go_wp2_with (at_builtin; refine wpList_appF _ rfl _ _ 37 37 rfl wr.heap.size 5 (.int .u8 0) 1 1 Try.underlying37 u8info rfl g data.length (data.map (.int .u8)) rfl (by simp) (fun j u hj => (Below.cell (p := ⟨g, j, none⟩) (below_new wr _) (World.block_lt_of_cell? _ _ (HRD.out j u hj))).trans (HRD.out j u hj)) _ 1 [_] rfl (src_one Try.underlying37 _ _ _ rfl rfl) (by decide) (by unfold maxLen; omega) (by omega) (by simp) ?_)
        intro v' w5 hown hbel b5 hb5 hlb5
        obtain ⟨a5, c5, rfl⟩ := hown.form
        have HO5 := Aside.mk hown
        have HB5 := Aside.mk (below_chain (below_new wr (.cells #[.int .u8 (IntKind.u64.wrap x % 256)] 5)) (by simpa using hbel))
        clear hown hbel hb5 hlb5
        go_wp2_with fail
        exact ⟨⟨1, a5, c5, by omega, rfl, by simp, ⟨.inr ⟨by omega, by
          have h1 : lows X 1 = [((X / 256 ^ 0 % 256 : Nat) : Int)] := rfl
          have h2 := shr_low HU.out 0
          rw [Nat.mul_zero] at h2
          rw [h1, List.map_append]
          have h3 := HO5.out
          rw [show IntKind.u64.wrap x % 256 = ((X / 256 ^ 0 % 256 : Nat) : Int) by rw [← h2]; simp] at h3
          exact h3, HB5.out⟩⟩⟩, by simp [intOf]⟩
      · have HO := Aside.mk (show Own wr w.heap.size 5 1 (.slice a' (n + i) c') (n + i) ((data ++ lows X i).map (.int .u8)) from hdl ▸ hown)
        have HBL := Aside.mk hbel
        have hsz := hbel.size
        clear hdl hown hbel hp
        go_wp2_with (at_builtin; refine wpList_app2 _ rfl _ _ 37 37 rfl w.heap.size 5 (.int .u8 0) 1 1 Try.underlying37 u8info rfl _ (n + i) ((data ++ lows X i).map (.int .u8)) rfl (HO.out.alloc _) _ 1 [_] rfl (src_one Try.underlying37 _ _ _ rfl rfl) (by unfold maxLen; omega) (by omega) (Nat.le_trans hsz (by simp)) ?_)
        intro v' w5 hA
        obtain ⟨a5, c5, rfl⟩ := hA.own.form
        have HA := Aside.mk hA
        clear hA
        go_wp2_with fail
        have e := HDL.out
        subst e
        exact ⟨⟨i + 1, a5, c5, by omega, by rw [Nat.add_assoc], by simp, ⟨.inr ⟨by omega, by
          have h3 := HA.out.own
          rw [lows_succ18]
          rw [shr_low HU.out i, ← List.map_append] at h3
          simpa [List.append_assoc, Nat.add_assoc] using h3, (below_chain HBL.out (below_new wr _)).trans ((Kept.of_grown HA.out.grown).to_below (Nat.le_trans hsz (by simp)) (fun k e => (HO.out.lt k e.symm).1))⟩⟩⟩, by simp [intOf]; omega⟩
    · obtain rfl : i = 8 := by omega
      go_wp2_with fail
      go_ret
      subst hdl
      rcases hp.out with ⟨h0, _⟩ | ⟨_, hown, hbel⟩
      · omega
      · have e8 : (data ++ lows X 8).length = data.length + 8 := by simp [len_lows]
        exact ⟨a', c', by rw [e8]; rfl, by rw [e8]; exact hown, hbel⟩
end Go.Proofs.Ytmhjjhaipcgbiaa
