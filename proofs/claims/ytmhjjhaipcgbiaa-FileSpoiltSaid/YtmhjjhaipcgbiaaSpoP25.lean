/- Texts of this claim, one behind the other: Ff. -/
import Derived.Test.YtmhjjhaipcgbiaaSpoP10
import Derived.Test.YtmhjjhaipcgbiaaSpoP13
import Derived.Lib.SlBytesConst

namespace Go.Proofs.Ytmhjjhaipcgbiaa
open Go.RowKit
set_option linter.unusedVariables false
set_option linter.unusedSimpArgs false
set_option maxRecDepth 100000
set_option maxHeartbeats 1000000
section
variable {P : Program}
theorem run_append_full (w : World) (base : Nat) (t tx ty e : TypeId) (i : TypeInfo) (z : Value) (size bytes : Nat) (ht : P.underlying t = some (.slice e)) (hi : P.info? e = some i) (hz : i.zero = some z)
    (hsize : i.size = size) (hby : i.bytes = bytes) (hzs : z.cells.size = size)
    (g n : Nat) (xs : List Value) (hx : xs.length = n * size) (hrd : ∀ j u, xs[j]? = some u → w.cell? ⟨g, j, none⟩ = some u)
    (x : Value) (m : Nat) (news : List Value) (hs : Src P size tx x m news w) (hm : 0 < m)
    (h63 : n + m ≤ maxLen) (hbytes : (n + m) * bytes ≤ 140737488355328) (hbase : base ≤ w.heap.size) :
    ∃ v' w', (Builtin.append_ #[t, tx] ty #[.slice (some ⟨g, 0, none⟩) n n, x]).run P w = .ok v' w' ∧ Own w' base e size v' (n + m) (xs ++ news) ∧ Below w.heap.size w w' ∧ (∃ b, v'.ownBlock = some b ∧ w.heap.size ≤ b) := by
  subst hsize
  subst hby
  have hl : news.length = m * i.size := hs.newsLen
  have hsmall : n + m ≤ 9223372036854775807 := by simp only [maxLen] at h63; omega
  have hlen : (xs ++ news).length = (n + m) * i.size := by rw [List.length_append, hx, hl, Nat.add_mul]
  have hge := grownCap_ge w (n + m) n e
  have hcm : grownCap w (n + m) n e ≤ maxLen := grownCap_le_maxLen w (n + m) n e h63
  have hown : Own (w.drew.alloc (.cells ((xs ++ news).toArray ++ Builtin.zeroCells z.cells (grownCap w (n + m) n e - (n + m))) e)) base e i.size
        (.slice (some ⟨w.heap.size, 0, none⟩) (n + m) (grownCap w (n + m) n e)) (n + m) (xs ++ news) := by
    refine ⟨hlen, .inr ⟨w.heap.size, 0, _, _, rfl, hbase, heap_alloc_new w.drew _, hge, hcm, ?_, fun j hj => ?_⟩⟩
    · simp only [Array.size_append, List.size_toArray, size_zeroCells, hzs, hlen, ← Nat.add_mul]
      rw [Nat.zero_add]
      exact Nat.le_of_eq (by congr 1; omega)
    · rw [Nat.zero_add, Array.getElem?_append_left (by simpa [hlen] using hj)]
      simp
  have hxs : ∀ j u, xs[j]? = some u → w.cell? ((⟨g, 0, none⟩ : Addr).add j) = some u := by
    intro j u hu
    rw [addr_add, Nat.zero_add]
    exact hrd j u hu
  have hold : (Builtin.firstCells i.size n (.slice (some ⟨g, 0, none⟩) n n)).run P w.drew = .ok xs.toArray w.drew := run_firstCells_some w.drew i.size n ⟨g, 0, none⟩ n n xs hx (by simpa using hxs)
  have hr := run_append_grow_src (P := P) w t tx ty e i z ht hi hz (some ⟨g, 0, none⟩) n n xs hold x m news hs (by omega) (by omega) (growslice_fits (by omega) hbytes)
  exact ⟨_, _, hr, hown, (below_drewN w _ 1).alloc (Nat.le_refl _) _, ⟨_, rfl, Nat.le_refl _⟩⟩
theorem wpList_appF (w : World) {ops : Array Oper} {rest : List Oper} {o : Oper} {a : Act} {Q : Exit → Act → World → Prop} (hgd : o.guard = none) (s x : Operand) (t tx : TypeId)
    (ho : o.op = .call { callee := .builtin .append, args := #[s, x], argTypes := #[t, tx] })
    (base : Nat) (e : TypeId) (z : Value) (size bytes : Nat) (ht : P.underlying t = some (.slice e)) (hi : (P.info? e).map (fun i => (i.zero, i.size, i.bytes)) = some (some z, size, bytes))
    (hzs : z.cells.size = size)
    (g n : Nat) (xs : List Value) (hs : a.eval s = .slice (some ⟨g, 0, none⟩) n n) (hx' : xs.length = n * size) (hrd : ∀ j u, xs[j]? = some u → w.cell? ⟨g, j, none⟩ = some u)
    (u : Value) (m : Nat) (news : List Value) (hx : a.eval x = u) (hsrc : Src P size tx u m news w) (hm : 0 < m)
    (h63 : n + m ≤ maxLen) (hbytes : (n + m) * bytes ≤ 140737488355328) (hbase : base ≤ w.heap.size)
    (h : ∀ v' w', (Own w' base e size v' (n + m) (xs ++ news) ∧ Below w.heap.size w w' ∧ (∃ b, v'.ownBlock = some b ∧ w.heap.size ≤ b)) → wpList P ops Q rest (a.put o.dst v') w') : wpList P ops Q (o :: rest) a w := by
  obtain ⟨i0, hi, hz0, hz1, hz2⟩ := info_parts hi
  obtain ⟨v', w', hr, h2⟩ := run_append_full (P := P) w base t tx o.type e i0 z size bytes ht hi hz0 hz1 hz2 hzs g n xs hx' hrd u m news hsrc hm h63 hbytes hbase
  have hw : Region.wanted o (yielded ops a.tmps) = true := by simp [Region.wanted, hgd]
  simp only [wpList, hw, if_true]
  left
  unfold Oper.wp execOp
  simp only [ho, resolve, invoke, builtin, Sem.run_bind, Sem.run_pure, Result.andThen_ok, List.map_toArray, List.map_cons, List.map_nil, hs, hx, hr]
  exact h v' w' h2
end
def FullI (data : List Int) (g : Nat) (X i : Nat) (a' : Option Addr) (c' : Nat) (w wr : World) : Prop := (i = 0 ∧ wr = w ∧ a' = some ⟨g, 0, none⟩ ∧ c' = data.length) ∨ (1 ≤ i ∧ Own wr w.heap.size 5 1 (.slice a' (data.length + i) c') (data.length + i) ((data ++ lows X i).map (.int .u8)) ∧ Below w.heap.size w wr)
theorem fnumf_any (data : List Int) (x : Int) (hl : data.length ≤ 100000000) (g : Nat) (w : World) (hrd : ∀ j u, (data.map (Value.int .u8))[j]? = some u → w.cell? ⟨g, j, none⟩ = some u) :
    Calls Try.prog 74 #[.slice (some ⟨g, 0, none⟩) data.length data.length, .int .i64 x] w (fun e w' => ∃ a c, e = .returned (.slice a (data ++ lows (u64N x) 8).length c) ∧ Own w' w.heap.size 5 1 (.slice a (data ++ lows (u64N x) 8).length c) (data ++ lows (u64N x) 8).length ((data ++ lows (u64N x) 8).map (.int .u8)) ∧ Below w.heap.size w w') := by
  have HU := Aside.mk (u64N_wrap x)
  generalize u64N x = X at *
  have H := Aside.mk (show FullI data g X 0 (some ⟨g, 0, none⟩) data.length w w from .inl ⟨rfl, rfl, rfl, rfl⟩)
  have HRD := Aside.mk hrd
  clear hrd
  generalize hdl : data.length = n at *
  have HDL := Aside.mk hdl
  go_enter Try.func74, Try.ntmps74
  go_wp2
  go_loopw [0, 5, 6] (fun bv jv iv wr => ∃ (i : Nat) (a' : Option Addr) (c' : Nat), i ≤ 8 ∧ bv = .slice a' (n + i) c' ∧ iv = .int .i64 (i : Int) ∧ Aside (FullI data g X i a' c' w wr)) (fun _ _ iv _ => 8 - (intOf iv).toNat)
  case atStart => exact ⟨0, _, _, by omega, rfl, rfl, by rw [← hdl] at H ⊢; exact H⟩
  case round =>
    clear H
    obtain ⟨i, a', c', hi, rfl, rfl, hp⟩ := hrel
    by_cases hlt : i < 8
    · rcases hp.out with ⟨rfl, rfl, rfl, rfl⟩ | ⟨h1, hown, hbel⟩
      · clear hp
        subst hdl
        go_wp2_with (at_builtin; refine wpList_appF _ rfl _ _ 37 37 rfl wr.heap.size 5 (.int .u8 0) 1 1 Try.underlying37 u8info rfl g data.length (data.map (.int .u8)) rfl (by simp) (fun j u hj => (Below.cell (p := ⟨g, j, none⟩) (below_new wr _) (World.block_lt_of_cell? _ _ (HRD.out j u hj))).trans (HRD.out j u hj)) _ 1 [_] rfl (src_one Try.underlying37 _ _ _ rfl rfl) (by decide) (by unfold maxLen; omega) (by omega) (by simp) ?_)
        intro v' w5 hown hbel b5 hb5 hlb5
        obtain ⟨a5, c5, rfl⟩ := hown.form
        have HO5 := Aside.mk hown
        have HB5 := Aside.mk (below_chain (below_new wr (.cells #[.int .u8 (IntKind.u64.wrap x % 256)] 5)) (by simpa using hbel))
        clear hown hbel hb5 hlb5
        go_wp2_with fail
        exact ⟨⟨1, a5, c5, by omega, rfl, by simp, ⟨.inr ⟨by omega, by
          have h1 : lows X 1 = [((X / 256 ^ 0 % 256 : Nat) : Int)] := rfl
          have h2 := shr_low HU.out 0
          rw [Nat.mul_zero] at h2
          rw [h1, List.map_append]
          have h3 := HO5.out
          rw [show IntKind.u64.wrap x % 256 = ((X / 256 ^ 0 % 256 : Nat) : Int) by rw [← h2]; simp] at h3
          exact h3, HB5.out⟩⟩⟩, by simp [intOf]⟩
      · have HO := Aside.mk (show Own wr w.heap.size 5 1 (.slice a' (n + i) c') (n + i) ((data ++ lows X i).map (.int .u8)) from hdl ▸ hown)
        have HBL := Aside.mk hbel
        have hsz := hbel.size
        clear hdl hown hbel hp
        go_wp2_with (at_builtin; refine wpList_app2 _ rfl _ _ 37 37 rfl w.heap.size 5 (.int .u8 0) 1 1 Try.underlying37 u8info rfl _ (n + i) ((data ++ lows X i).map (.int .u8)) rfl (HO.out.alloc _) _ 1 [_] rfl (src_one Try.underlying37 _ _ _ rfl rfl) (by unfold maxLen; omega) (by omega) (Nat.le_trans hsz (by simp)) ?_)
        intro v' w5 hA
        obtain ⟨a5, c5, rfl⟩ := hA.own.form
        have HA := Aside.mk hA
        clear hA
        go_wp2_with fail
        have e := HDL.out
        subst e
        exact ⟨⟨i + 1, a5, c5, by omega, by rw [Nat.add_assoc], by simp, ⟨.inr ⟨by omega, by
          have h3 := HA.out.own
          rw [lows_succ18]
          rw [shr_low HU.out i, ← List.map_append] at h3
          simpa [List.append_assoc, Nat.add_assoc] using h3, (below_chain HBL.out (below_new wr _)).trans ((Kept.of_grown HA.out.grown).to_below (Nat.le_trans hsz (by simp)) (fun k e => (HO.out.lt k e.symm).1))⟩⟩⟩, by simp [intOf]; omega⟩
    · obtain rfl : i = 8 := by omega
      go_wp2_with fail
      go_ret
      subst hdl
      rcases hp.out with ⟨h0, _⟩ | ⟨_, hown, hbel⟩
      · omega
      · have e8 : (data ++ lows X 8).length = data.length + 8 := by simp [len_lows]
        exact ⟨a', c', by rw [e8]; rfl, by rw [e8]; exact hown, hbel⟩
end Go.Proofs.Ytmhjjhaipcgbiaa
