/- PipeTells walked: it returns true and leaves what was there as it was. -/
import Derived.Test.YtjeenpjmpanfjaaPAll
import Derived.Test.YtjeenpjmpanfjaaPWakes
import Derived.Test.YtjeenpjmpanfjaaArgs
import Derived.Laws.BitsLemmas
import Derived.Deep.DeepCutAuto
namespace Go.Proofs.Ytjeenpjmpanfjaa
open Go.RowKit Go.Shelf
namespace Tells
set_option linter.unusedVariables false
set_option linter.unusedSimpArgs false
attribute [local go_sem] Oper.semAt_some
open PAll (strs len_strs strs_snoc strs_one)

theorem i64_and63 (n : Int) : bits .and .i64 n 63 = n % 64 := by
  have h127 : (BitVec.ofInt 64 63).toNat = 2 ^ 6 - 1 := by decide
  have key : (BitVec.ofInt 64 n &&& BitVec.ofInt 64 63).toNat = (n % ((2 ^ 64 : Nat) : Int)).toNat % 2 ^ 6 := by
    rw [BitVec.toNat_and, BitVec.toNat_ofInt, h127, Nat.and_two_pow_sub_one_eq_mod]
  show IntKind.i64.wrap ((BitVec.ofInt 64 n &&& BitVec.ofInt 64 63).toNat : Nat) = n % 64
  rw [key, IntKind.wrap_i64]
  omega

theorem one_and63 (m : Int) : 1 ≤ wrap64 (1 + bits .and .i64 m 63) ∧ wrap64 (1 + bits .and .i64 m 63) ≤ 64 := by
  rw [i64_and63]; unfold wrap64; omega

structure St (w : World) (b : Nat) (M : Int) (wr : World) (xs ys : List ByteArray) (sv lv : Value) : Prop where
  p : PStr.Is wr b M (strs xs) false sv
  l : Own wr (b + 1) 9 1 lv ys.length (strs ys)
  ne : ∀ k, lv.ownBlock = some k → sv.ownBlock ≠ some k
  bel : Below w.heap.size w wr
  le : (xs.length : Int) ≤ M
  hb : b = w.heap.size + 1
  res : wr.heap[w.heap.size]? = some (.cells #[.bool false] 4 (0, 0))

variable {w : World} {b : Nat} {M : Int} {wr : World} {xs ys : List ByteArray} {sv lv : Value}

theorem St.moved (h : St w b M wr xs ys sv lv) {xs' : List ByteArray} {sv' : Value} {w' : World} (hp : PStr.Is w' b M (strs xs') false sv') (hm : PStr.Mv wr b sv sv' w') (hle : (xs'.length : Int) ≤ M) :
    St w b M w' xs' ys sv' lv := by
  have hb := h.hb
  refine ⟨hp, h.l.kept hm.kept (fun k hk hs => ?_), fun k hk hs => ?_, h.bel.trans ((hm.below h.p).mono (by omega)), hle, hb, ?_⟩
  · rcases hs with rfl | hs
    · have := (h.l.lt _ hk).1; omega
    · exact h.ne k hk hs
  · rcases hm.row k hs with h1 | h1
    · exact h.ne k hk h1
    · have := (h.l.lt _ hk).2; omega
  · exact ((hm.below h.p).block _ (by omega)).trans h.res

theorem St.still (h : St w b M wr xs ys sv lv) (n : Nat) : St w b M (wr.drewN n) xs ys sv lv := ⟨h.p.drewN n, h.l, h.ne, h.bel.trans (below_drewN _ _ _), h.le, h.hb, h.res⟩

theorem St.app (h : St w b M wr xs ys sv lv) {ys' : List ByteArray} {lv' : Value} {o : Obj} {w' : World} (hl : Own w' (b + 1) 9 1 lv' ys'.length (strs ys')) (hg : (wr.alloc o).grownBy w' lv.ownBlock)
    (hat : lv'.ownBlock = lv.ownBlock ∨ ∃ g, lv'.ownBlock = some g ∧ wr.heap.size + 1 ≤ g) : St w b M w' xs ys' sv lv' := by
  have hb := h.hb
  have hk : Kept (fun k => lv.ownBlock = some k) wr w' := ((Kept.of_below ((Below.refl _ wr).alloc (Nat.le_refl _) o)).trans (Kept.of_grown hg) (fun k hk _ => hk.symm)).mono (fun k hk _ => hk)
  refine ⟨⟨(hk.block b (lt_of_blk h.p.blk) (fun e => by have := (h.l.lt _ e).1; omega)).trans h.p.blk, h.p.own.kept hk (fun k e e' => h.ne k e' e), h.p.one⟩, hl, fun k hk' hs => ?_, ?_, h.le, hb, ?_⟩
  · rcases hat with e | ⟨g, e, hg⟩
    · exact h.ne k (e ▸ hk') hs
    · rw [e] at hk'; cases hk'; have := (h.p.own.lt _ hs).2; omega
  · exact h.bel.trans (hk.to_below (Nat.le_of_lt (by have := lt_of_blk h.p.blk; omega)) (fun k e => by have := (h.l.lt _ e).1; omega))
  · exact (hk.block _ (lt_of_blk h.res) (fun e => by have := (h.l.lt _ e).1; omega)).trans h.res

theorem St.tail {x : ByteArray} {xs ys : List ByteArray} {cap g off : Nat} (h : St w b M wr xs (x :: ys) sv (.slice (some ⟨g, off, none⟩) (ys.length + 1) cap)) :
    St w b M wr xs ys sv (.slice (if cap = 1 then some ⟨g, off, none⟩ else some ⟨g, off + 1, none⟩) ys.length (cap - 1)) := by
  have hl := h.l
  have hc := hl.cut (i := 1) (j := ys.length + 1) (by omega) (Nat.le_refl _)
  refine ⟨h.p, ?_, fun k hk => h.ne k (by split at hk <;> exact hk), h.bel, h.le, h.hb, h.res⟩
  split
  · rename_i h1
    subst h1
    rcases hl.2 with ⟨h2, _⟩ | ⟨g', off', cap', cur, h2, h3, h4, h5, h6, h7, h8⟩
    · cases h2
    · simp only [Value.slice.injEq, Option.some.injEq, Addr.mk.injEq, and_true] at h2
      obtain ⟨⟨rfl, rfl⟩, _, rfl⟩ := h2
      obtain rfl : ys = [] := by cases ys with | nil => rfl | cons y ys => simp at h5
      exact ⟨by simp [strs], .inr ⟨g, off, 0, cur, rfl, h3, h4, Nat.le_refl _, by decide, by omega, fun j hj => by simp at hj⟩⟩
  · simpa [strs, List.take_of_length_le] using hc

theorem recv_loose (h : PStr.Is wr b M (strs xs) false sv) (h1 : 1 ≤ M) (h2 : (xs.length : Int) ≤ M) (h3 : M ≤ 64) :
    Calls Try.prog 17 #[.pointer (some ⟨b, 0, none⟩)] wr fun e w' => ∃ u1 u2 ys sv', e = .returned (.tuple #[u1, u2]) ∧ PStr.Is w' b M (strs ys) false sv' ∧ PStr.Mv wr b sv sv' w' ∧ (ys.length : Int) < M := by
  cases xs with
  | nil => exact (PStr.recv_open h).mono fun e w' ⟨he, hw⟩ => ⟨_, _, [], sv, he, hw ▸ h, ⟨hw ▸ Kept.refl _ _, fun k hk => .inl hk⟩, by simp; omega⟩
  | cons x xs =>
    refine (PStr.recv_some (xs := strs xs) x h (by rw [len_strs]; simp at h2; omega)).mono fun e w' ⟨he, sv', hp, hm⟩ => ⟨_, _, xs, sv', he, hp, hm, by simp at h2; omega⟩

theorem prefix_snoc {pre xs : List ByteArray} (h : pre <+: xs) (hl : pre.length < xs.length) : pre ++ [xs[pre.length]] <+: xs := by
  obtain ⟨t, rfl⟩ := h
  cases t with
  | nil => simp at hl
  | cons u t => exact ⟨t, by simp⟩
theorem snoc_prefix {pre xs : List ByteArray} {x : ByteArray} (h : pre ++ [x] <+: xs) (hl : pre.length < xs.length) : x = xs[pre.length] := by
  obtain ⟨t, rfl⟩ := h
  simp
theorem str_ne {x y : ByteArray} (h : x ≠ y) : (x.toList == y.toList) = false := by
  rw [beq_eq_false_iff_ne]
  intro e
  rw [ByteArray.toList_eq, ByteArray.toList_eq] at e
  exact h (Go.WideShapes.bytes_inj e)

structure Lp (w : World) (b : Nat) (M : Int) (N0 Bw base : Nat) (wv sv : Value) (xs zs pre : List ByteArray) (W : World) : Prop where
  n : W.heap[N0]? = some (.cells #[.int .i64 (pre.length : Int)] 3 (0, 0))
  res : W.heap[w.heap.size]? = some (.cells #[.bool false] 4 (0, 0))
  bw : W.heap[Bw]? = some (.cells #[wv] 39 (0, 0))
  wv : Own W base 9 1 wv xs.length (strs xs)
  p : PStr.Is W b M (strs zs) false sv
  bel : Below w.heap.size w W
  pre : pre <+: xs

theorem Lp.from {w : World} {b : Nat} {M : Int} {N0 Bw base : Nat} {wv sv : Value} {xs zs : List ByteArray} {B : Nat} (hB : w.heap.size ≤ B) : OwnFrom B (fun pre W => Lp w b M N0 Bw base wv sv xs zs pre W) := by
  intro pre W W' row h hg hr
  have hr' : ∀ r, row = some r → ∃ o : Obj, W.heap[r]? = some o ∧ o.isCells = false := fun r e => (hr r e).2
  exact ⟨blk_from h.n hg hr', blk_from h.res hg hr', blk_from h.bw hg hr', h.wv.from_ hg hr', ⟨blk_from h.p.blk hg hr', h.p.own.from_ hg hr', h.p.one⟩, h.bel.grown hg h.bel.size (fun k e => Nat.le_trans hB (hr k e).1), h.pre⟩

theorem Lp.step {w : World} {b : Nat} {M : Int} {N0 Bw base : Nat} {wv sv : Value} {xs zs pre : List ByteArray} {W : World} {x : ByteArray} (h : Lp w b M N0 Bw base wv sv xs zs pre W) (hN : w.heap.size ≤ N0) (hx : pre ++ [x] <+: xs) :
    Lp w b M N0 Bw base wv sv xs zs (pre ++ [x]) (W.setCell ⟨N0, 0, none⟩ (.int .i64 ((pre.length : Int) + 1))) := by
  have ho : ∀ k, k ≠ N0 → (W.setCell ⟨N0, 0, none⟩ (.int .i64 ((pre.length : Int) + 1))).heap[k]? = W.heap[k]? := fun k hk => Below.heap_setCell _ _ _ _ hk
  refine ⟨?_, (ho _ (blk_ne h.res h.n (by decide))).trans h.res, (ho _ (blk_ne h.bw h.n (by decide))).trans h.bw, h.wv.set_other (h.wv.blk_ne h.n (by decide)) _,
    ⟨(ho _ (blk_ne h.p.blk h.n (by decide))).trans h.p.blk, h.p.own.set_other (h.p.own.blk_ne h.n (by decide)) _, h.p.one⟩, h.bel.setCell hN _, hx⟩
  rw [heap_setCell_at h.n]
  simp

theorem seq_nil (a : Array Value) (w : World) : (binOp .eql 48 (.func (.func 20) #[] a) .nilFunc).run Try.prog w = .ok (.bool false) w := by kernel_rfl

def Strings (w : World) (a : Option Addr) (len : Nat) : Prop := len ≤ 9223372036854775807 ∧ ∀ i, i < len → ∃ g off x, a = some ⟨g, off, none⟩ ∧ w.cell? ⟨g, off + i, none⟩ = some (.string x)

set_option maxRecDepth 100000 in
set_option maxHeartbeats 4000000 in
theorem walk_in (m M : Int) (taken : Int) (more : ByteArray) (a1 : Option Addr) (len1 cap1 : Nat) (w : World) (hs : Strings w a1 len1) (hM : (1 ≤ m ∧ m ≤ 64 ∧ M = m) ∨ ((m < 1 ∨ 64 < m) ∧ M = wrap64 (1 + bits .and .i64 m 63))) (hM1 : 1 ≤ M) (hM2 : M ≤ 64) :
    Calls Try.prog 5 #[.int .i64 m, .slice a1 len1 cap1, .int .i64 taken, .string more] w fun e w' => e = .returned (.bool true) ∧ Below w.heap.size w w' := by
  have hlen := hs.1
  have HS := Aside.mk hs.2
  clear hs
  refine calls_of_marks Try.func5 rfl ?_
  simp only [Try.ntmps5, List.size_toArray, List.length_cons, List.length_nil, Nat.reduceAdd, Nat.reduceSub, Array.replicate_succ, Array.replicate_zero, List.push_toArray, List.append_toArray, List.nil_append, List.cons_append]
  obtain ⟨c, hc⟩ : ∃ c : Bool, (c = true ∧ (m < 1 ∨ 64 < m) ∧ M = wrap64 (1 + bits .and .i64 m 63)) ∨ (c = false ∧ 1 ≤ m ∧ m ≤ 64 ∧ M = m) := by
    rcases hM with h | h
    · exact ⟨false, .inr ⟨rfl, h⟩⟩
    · exact ⟨true, .inl ⟨rfl, h⟩⟩
  have HM := Aside.mk hc
  clear hM hc
  go_upto_region 1 with fail
  go_cut [24] from 19 to 24 (fun s24 wx => s24 = .bool c ∧ wx = w.alloc (.cells #[.bool false] 4))
  case first =>
    rcases HM.out with ⟨rfl, h1 | h1, h2⟩ | ⟨rfl, h1, h2, h3⟩
    · clear h2
      go_wp2_with fail
      go_meet
      exact ⟨rfl, rfl⟩
    · clear h2
      have h3 : ¬ m < 1 := by omega
      go_wp2_with fail
      go_meet
      exact ⟨rfl, rfl⟩
    · clear h3
      go_wp2_with fail
      go_meet
      exact ⟨by simp; omega, rfl⟩
  case rest =>
  obtain ⟨rfl, rfl⟩ := hcut
  go_upto_if 24 with fail
  go_cut [0] from 24 to 27 (fun s0 wx => s0 = .int .i64 M ∧ wx = w.alloc (.cells #[.bool false] 4))
  case first =>
    rcases HM.out with ⟨rfl, _, h2⟩ | ⟨rfl, _, _, h3⟩
    · have H2 := Aside.mk h2
      clear h2
      go_wp2_with fail
      go_meet
      exact ⟨by rw [H2.out], rfl⟩
    · have H2 := Aside.mk h3
      clear h3
      go_wp2_with fail
      go_meet
      exact ⟨by rw [H2.out], rfl⟩
  case rest =>
    obtain ⟨rfl, rfl⟩ := hcut
    clear HM
    go_wp2_with fail
    refine (PStr.new_ok M _ hM1 hM2).mono ?_
    rintro e w2 ⟨rfl, rfl⟩
    have H0 := Aside.mk (PStr.Is.new (w.alloc (.cells #[.bool false] 4)) M)
    have hr0 := Aside.mk (show ((w.alloc (.cells #[.bool false] 4)).alloc (.cells #[.int .i64 M, .slice none 0 0, .bool false] 54)).heap[w.heap.size]? = some (.cells #[.bool false] 4 (0, 0)) from
      (Below.heap_alloc _ _ _ (by simp)).trans (heap_alloc_new w _))
    have B0 := Aside.mk (((Below.refl w.heap.size w).alloc (Nat.le_refl _) (.cells #[.bool false] 4)).alloc (by simp) (.cells #[.int .i64 M, .slice none 0 0, .bool false] 54))
    rw [World.size_alloc] at H0
    generalize (w.alloc (.cells #[.bool false] 4)).alloc (.cells #[.int .i64 M, .slice none 0 0, .bool false] 54) = w2 at *
    go_wp2_with (go_at_call 7; refine (num_any _ _).mono ?_; rintro e w' ⟨rfl, rfl⟩)
    refine (wakes_any _).mono ?_
    rintro e w3 ⟨rfl, hb3⟩
    have hres := (hb3.block _ (lt_of_blk hr0.out)).trans hr0.out
    have hf0 := (frozen_blk (k := 0) hres)
    have hc0 := (cell_blk (k := 0) hres)
    simp at hc0
    have HR0 := Aside.mk hres
    have HP := Aside.mk (H0.out.below hb3)
    have B3 := Aside.mk (B0.out.trans (hb3.mono B0.out.size))
    clear hres hr0 H0 B0 hb3
    go_wp2_with fail
    have HST := Aside.mk (show ∃ sv, St w (w.heap.size + 1) M w3 [] [] sv (.slice none 0 0) from
      ⟨_, HP.out, Own.nil _ _ _ _, (fun k hk => by cases hk), B3.out, by show ((0 : Nat) : Int) ≤ M; omega, rfl, HR0.out⟩)
    go_loopw [11, 12] (fun vl ii wr => ∃ (i : Nat) (xs : List ByteArray), i ≤ len1 ∧ i ≤ 200 ∧ ii = .int .i64 (i : Int) ∧
        Aside (∃ sv, St w (w.heap.size + 1) M wr xs xs sv vl)) (fun _ ii _ => 200 - (intOf ii).toNat)
    case atStart => exact ⟨0, [], by omega, by omega, rfl, HST⟩
    case round =>
      obtain ⟨i, xs, hi1, hi2, rfl, hst⟩ := hrel
      clear HST HP HR0 B3
      obtain ⟨sv, hst⟩ := hst.out
      obtain ⟨la, lc, rfl⟩ := hst.l.form
      have hle := hst.le
      have ST := Aside.mk hst
      clear hst
      by_cases hlt : i < len1 ∧ i < 200
      · obtain ⟨hlt, hlt2⟩ := hlt
        obtain ⟨g, off, x, rfl, c1⟩ := HS.out i hlt
        have hc1 := (ST.out.bel.cell (p := ⟨g, off + i, none⟩) (by have := World.block_lt_of_cell? _ _ c1; simp at this ⊢; omega)).trans c1
        have hgs : g < w.heap.size := World.block_lt_of_cell? _ _ c1
        have HC0 := Aside.mk c1
        clear c1
        go_wp2_with fail
        by_cases hf : (xs.length : Int) = M
        · have HF := Aside.mk hf
          have hpos : 0 < xs.length := by omega
          clear hf
          refine (PStr.send_full x ST.out.p (by rw [len_strs]; exact HF.out)).mono ?_
          rintro e w4 ⟨rfl, n4, rfl⟩
          go_wp2_with (go_at_call 7; refine (num_any _ _).mono ?_; rintro e w' ⟨rfl, rfl⟩)
          · -- one is taken
            cases xs with
            | nil => simp at *
            | cons x0 xs =>
              refine (PStr.recv_some (xs := strs xs) x0 (ST.out.still n4).p (by rw [len_strs]; simp at hle; omega)).mono ?_
              rintro e w4 ⟨rfl, sv4, hp4, hm4⟩
              have hs4 := (ST.out.still n4).moved (xs' := xs) hp4 hm4 (by simp at hle ⊢; omega)
              obtain ⟨g4, off4, cap4, he4, _, _, hn4, hx4, hcl4, _⟩ := hs4.l.some_ (by simp)
              simp only [Value.slice.injEq, true_and] at he4
              obtain ⟨rfl, rfl⟩ := he4
              have hcl := hcl4 0 _ rfl
              simp only [Nat.add_zero, List.length_cons] at hcl hn4
              have ST4 := Aside.mk (St.tail hs4)
              clear hp4 hm4 hs4 hcl4
              go_wp2_with (go_at_call 7; refine (num_any _ _).mono ?_; rintro e w' ⟨rfl, rfl⟩)
              go_roundw
              case rel => exact ⟨i + 1, xs, by omega, by omega, by go_num, ⟨⟨_, ST4.out⟩⟩⟩
              case measure => simp [intOf]; omega
          · go_roundw
            case rel => exact ⟨i + 1, xs, by omega, by omega, by go_num, ⟨⟨_, ST.out.still n4⟩⟩⟩
            case measure => simp [intOf]; omega
        · have HF := Aside.mk hf
          clear hf
          refine (PStr.send_room x ST.out.p (by rw [len_strs]; have := HF.out; omega) hM2).mono ?_
          rintro e w4 ⟨rfl, sv4, hp4, hm4⟩
          have hs4 := ST.out.moved (xs' := xs ++ [x]) (by rw [← strs_snoc]; exact hp4) hm4 (by simp; have := HF.out; omega)
          have hbs := lt_of_blk hs4.p.blk
          have hlo := hs4.l
          have hc2 := (hs4.bel.cell (p := ⟨g, off + i, none⟩) hgs).trans HC0.out
          have ST4 := Aside.mk hs4
          clear hp4 hm4 hs4
          go_wp2_with (first | (go_at_call 7; refine (num_any _ _).mono ?_; rintro e w' ⟨rfl, rfl⟩) | (at_builtin; refine wpList_app _ rfl _ _ 39 39 rfl (w.heap.size + 1 + 1) 9 (.string ByteArray.empty) 1 16 Try.underlying39 PStr.info rfl _ _ _ rfl (hlo.alloc _) _ 1 [.string x] rfl (src_one Try.underlying39 _ _ _ rfl rfl) (by unfold maxLen; omega) (by omega) (by simp; omega) ?_))
          intro v' w5 hown' hgrow _ hat
          obtain ⟨a', cap', rfl⟩ := hown'.form
          have ST5 := Aside.mk (ST4.out.app (ys' := xs ++ [x]) (by rw [← strs_snoc]; simpa using hown') hgrow (by simpa using hat))
          clear hgrow hat hlo hc2 hown'
          go_wp2_with fail
          · -- one is taken
            obtain ⟨y0, ys, hy⟩ : ∃ y0 ys, xs ++ [x] = y0 :: ys := by cases xs with
              | nil => exact ⟨_, _, rfl⟩
              | cons a l => exact ⟨_, _, rfl⟩
            have hyl : ys.length = xs.length := by have := congrArg List.length hy; simp at this; omega
            have hp5 := ST5.out.p
            rw [hy] at hp5
            refine (PStr.recv_some (xs := strs ys) y0 hp5 (by rw [len_strs]; have := HF.out; omega)).mono ?_
            rintro e w6 ⟨rfl, sv6, hp6, hm6⟩
            have hs6 := ST5.out.moved (xs' := ys) hp6 hm6 (by omega)
            rw [hy] at hs6
            obtain ⟨g4, off4, cap4, he4, _, _, hn4, hx4, hcl4, _⟩ := hs6.l.some_ (by simp)
            rw [← hyl] at he4
            simp only [Value.slice.injEq, List.length_cons, true_and] at he4
            obtain ⟨rfl, rfl⟩ := he4
            have hcl := hcl4 0 _ rfl
            simp only [Nat.add_zero, List.length_cons] at hcl hn4
            rw [hyl] at hn4
            have ST6 := Aside.mk (St.tail (by rw [hyl]; exact hs6))
            have HYL := Aside.mk hyl
            clear hp6 hm6 hs6 hcl4 hy hyl hp5
            go_wp2_with (go_at_call 7; refine (num_any _ _).mono ?_; rintro e w' ⟨rfl, rfl⟩)
            go_roundw
            case rel => exact ⟨i + 1, ys, by omega, by omega, by go_num, ⟨⟨_, by rw [← HYL.out]; exact ST6.out⟩⟩⟩
            case measure => simp [intOf]; omega
          · go_roundw
            case rel => exact ⟨i + 1, xs ++ [x], by omega, by omega, by go_num, ⟨⟨_, by simpa using ST5.out⟩⟩⟩
            case measure => simp [intOf]; omega
      · have h9 : Aside (len1 ≤ i ∨ (i < len1 ∧ 200 ≤ i)) := ⟨by omega⟩
        clear hlt
        have hxl : xs.length ≤ 64 := by omega
        rcases h9.out with h10 | ⟨h10, h13⟩
        all_goals
          go_wp2_with fail
          refine (PAll.all_any ST.out.p hxl).mono ?_
          rintro e w4 ⟨Bs, v, rfl, hBs, hbs, hov, hvn, hb4⟩
          have BS := Aside.mk hbs
          have OV := Aside.mk hov
          have ST4 := Aside.mk (show St w (w.heap.size + 1) M w4 xs xs sv (.slice la xs.length lc) from ⟨ST.out.p.below hb4, ST.out.l.below hb4, ST.out.ne, ST.out.bel.trans (hb4.mono ST.out.bel.size), ST.out.le, rfl, (hb4.block _ (lt_of_blk ST.out.res)).trans ST.out.res⟩)
          clear hbs hov hb4
          have hsrc := (ST4.out.l.alloc (.cells #[] 9)).rd.src (P := Try.prog) (tx := 39) Try.underlying39 (strs_one xs)
          have hsz := ST4.out.bel.size
          go_wp2_with (at_builtin; refine wpList_app _ rfl _ _ 39 39 rfl w4.heap.size 9 (.string ByteArray.empty) 1 16 Try.underlying39 PStr.info rfl _ _ _ rfl (own_empty w4 w4.heap.size _ 9 1 rfl (Nat.le_refl _)) _ xs.length (strs xs) rfl hsrc (by unfold maxLen; omega) (by omega) (by simp) ?_)
          intro wv w5 hown5 hgrow _ hat
          obtain ⟨wa, wc, rfl⟩ := hown5.form
          have hk5 : Below w4.heap.size w4 w5 := ((Below.refl _ w4).alloc (Nat.le_refl _) _).grown hgrow (by simp) (fun k e => by cases e; exact Nat.le_refl _)
          have ST5 := Aside.mk (show St w (w.heap.size + 1) M w5 xs xs sv (.slice la xs.length lc) from ⟨ST4.out.p.below hk5, ST4.out.l.below hk5, ST4.out.ne, ST4.out.bel.trans (hk5.mono ST4.out.bel.size), ST4.out.le, rfl, (hk5.block _ (lt_of_blk ST4.out.res)).trans ST4.out.res⟩)
          have WV := Aside.mk hown5
          have K5 := Aside.mk hk5
          clear hown5 hgrow hat hk5 hsrc
          go_wp2_with fail
          have ST6 := Aside.mk (show St w (w.heap.size + 1) M (w5.alloc (.cells #[.slice wa xs.length wc] 39)) xs xs sv (.slice la xs.length lc) from
            have hk : Below w5.heap.size w5 (w5.alloc (.cells #[.slice wa xs.length wc] 39)) := (Below.refl _ _).alloc (Nat.le_refl _) _
            ⟨ST5.out.p.below hk, ST5.out.l.below hk, ST5.out.ne, ST5.out.bel.trans (hk.mono ST5.out.bel.size), ST5.out.le, rfl, (hk.block _ (lt_of_blk ST5.out.res)).trans ST5.out.res⟩)
          have BW := Aside.mk (heap_alloc_new w5 (.cells #[.slice wa xs.length wc] 39))
          have WV6 := Aside.mk (WV.out.alloc (.cells #[.slice wa xs.length wc] 39))
          have BS6 := Aside.mk ((Below.heap_alloc _ (.cells #[.slice wa xs.length wc] 39) _ (lt_of_blk ((K5.out.block _ (lt_of_blk BS.out)).trans BS.out))).trans ((K5.out.block _ (lt_of_blk BS.out)).trans BS.out))
          have OV6 := Aside.mk ((OV.out.below K5.out).alloc (.cells #[.slice wa xs.length wc] 39))
          have hs6 : w5.heap.size < (w5.alloc (.cells #[.slice wa xs.length wc] 39)).heap.size := by simp
          have hBs6 : Bs < w5.heap.size := lt_of_blk ((K5.out.block _ (lt_of_blk BS.out)).trans BS.out)
          have hgo := K5.out.size
          generalize w5.alloc (.cells #[.slice wa xs.length wc] 39) = w6 at *
          refine (recv_loose ST6.out.p hM1 hle hM2).mono ?_
          rintro e w7 ⟨u1, u2, ys, sv7, rfl, hp7, hm7, hy7⟩
          have ST7 := Aside.mk (ST6.out.moved hp7 hm7 (by omega))
          clear hp7
          go_wp2_with fail
          refine (PStr.send_room more ST7.out.p (by rw [len_strs]; exact hy7) hM2).mono ?_
          rintro e w8 ⟨rfl, sv8, hp8, hm8⟩
          have ST8 := Aside.mk (ST7.out.moved (xs' := ys ++ [more]) (by rw [← strs_snoc]; exact hp8) hm8 (by simp; omega))
          clear hp8
          have hbr : w.heap.size + 1 < wr.heap.size := lt_of_blk ST.out.p.blk
          have hfix : ∀ k, wr.heap.size ≤ k → k < w6.heap.size → w8.heap[k]? = w6.heap[k]? := by
            intro k h1 h2
            have h3 : sv.ownBlock ≠ some k := fun e => by have := (ST.out.p.own.lt k e).2; omega
            have h4 := hm7.kept.block k h2 (fun e => by rcases e with e | e <;> first | omega | exact h3 e)
            refine (hm8.kept.block k (Nat.lt_of_lt_of_le h2 hm7.kept.size) (fun e => ?_)).trans h4
            rcases e with e | e
            · omega
            · rcases hm7.row k e with e' | e'
              · exact h3 e'
              · omega
          have h68 : w6.heap.size ≤ w8.heap.size := Nat.le_trans hm7.kept.size hm8.kept.size
          have h4r : wr.heap.size ≤ w4.heap.size := Nat.le_of_lt (Nat.lt_of_le_of_lt hBs (lt_of_blk BS.out))
          have HF := Aside.mk hfix
          clear hfix hm7 hm8
          have hq := fun (w : World) => seq_nil #[.pointer (some ⟨Bs, 0, none⟩)] w
          go_wp2_with fail
          have hLp : Lp w (w.heap.size + 1) M w8.heap.size w5.heap.size w4.heap.size (.slice wa xs.length wc) sv8 xs (ys ++ [more]) [] (w8.alloc (.cells #[.int .i64 0] 3)) := by
            have hk : Below w8.heap.size w8 (w8.alloc (.cells #[.int .i64 0] 3)) := (Below.refl _ _).alloc (Nat.le_refl _) _
            refine ⟨heap_alloc_new w8 _, (hk.block _ (lt_of_blk ST8.out.res)).trans ST8.out.res, ?_, ?_, ST8.out.p.below hk, ST8.out.bel.trans (hk.mono ST8.out.bel.size), List.nil_prefix⟩
            · exact (hk.block _ (by omega)).trans ((HF.out _ (by omega) (by omega)).trans BW.out)
            · refine WV6.out.moved (fun k e => ?_)
              have := WV6.out.lt k e
              exact (hk.block _ (by omega)).trans (HF.out _ (by omega) (by omega))
          have hsq : SeqStopsK Fence.wide 8 Try.prog 20 #[.pointer (some ⟨Bs, 0, none⟩)] (fun x : ByteArray => #[Value.string x]) (Below w8.heap.size) (fun ys => ys = xs) (fun pre => pre <+: xs) xs.length (w8.alloc (.cells #[.int .i64 0] 3)) := by
            have hk : Below w8.heap.size w8 (w8.alloc (.cells #[.int .i64 0] 3)) := (Below.refl _ _).alloc (Nat.le_refl _) _
            have hov := OV6.out.moved (w' := w8.alloc (.cells #[.int .i64 0] 3)) (fun k e => by
              have := OV6.out.lt k e
              exact (hk.block _ (by omega)).trans (HF.out _ (by omega) (by omega)))
            have hbs := (hk.block _ (by omega)).trans ((HF.out Bs (by omega) (by omega)).trans BS6.out)
            exact PAll.tell_stops 8 (by decide) Bs w8.heap.size v xs _ (fun k e => by have := (OV6.out.lt k e).2; omega) (lt_of_blk hbs) ((cell_blk hbs).trans rfl) hov.rd
          have hsz9 : (w8.alloc (.cells #[.int .i64 0] 3)).heap.size = w8.heap.size + 1 := by simp
          have hsz8 := ST8.out.bel.size
          refine wp_range rfl (enters_of Try.func20 (by kernel_rfl) rfl) hsq belowK_t (belowK_b (by omega)) (Below.refl _ _) (fun _ => rfl)
            (fun pre W => Lp w (w.heap.size + 1) M w8.heap.size w5.heap.size w4.heap.size (.slice wa xs.length wc) sv8 xs (ys ++ [more]) pre W)
            (fun _ pre _ => ¬ pre <+: xs) (Lp.from (by omega)) (fun _ _ _ _ _ h _ _ => h) hLp _ (by intro l x W K hK; gi_wp2; exact hK) ?body ?done ?stop
          case body =>
            intro l pre x W hI hlen
            obtain ⟨g, off, cap, he, _, _, _, _, hcl, _⟩ := hI.wv.some_ (by omega)
            simp only [Value.slice.injEq, true_and] at he
            obtain ⟨rfl, rfl⟩ := he
            have hc1 := hcl pre.length _ (by unfold strs; rw [List.getElem?_map, List.getElem?_eq_getElem hlen]; rfl)
            have n1 := cell_blk (k := 0) hI.n
            have n2 := frozen_blk (k := 0) hI.n
            have n3 := cell_blk (k := 0) hI.bw
            have n4 := cell_blk (k := 0) hI.res
            have n5 := frozen_blk (k := 0) hI.res
            simp only [List.size_toArray, List.length_cons, List.length_nil, Nat.zero_add, Nat.lt_add_one, getElem?_pos, List.getElem_toArray, List.getElem_cons_zero] at n1 n3 n4
            obtain ⟨y, hy⟩ : ∃ y, y = xs[pre.length] := ⟨_, rfl⟩
            rw [← hy] at hc1
            have HI := Aside.mk hI
            have HY := Aside.mk hy
            clear hI hcl hy
            by_cases hxy : x = y
            · subst hxy
              gi_wp2
              have hpx : pre ++ [x] <+: xs := by
                rw [HY.out]; exact prefix_snoc HI.out.pre hlen
              exact ⟨(KeepsOthers.setCell _ _ _).from _, (Below.refl _ W).setCell (p := ⟨w8.heap.size, 0, none⟩) (Nat.le_refl _) _, HI.out.step hsz8 hpx⟩
            · have hne : (x.toList == y.toList) = false := str_ne hxy
              gi_wp2
              refine ⟨(KeepsOthers.setCell _ _ _).from _, fun hp => hxy ?_⟩
              rw [HY.out]; exact snoc_prefix hp hlen
          case done =>
            rintro D zs W hD rfl hI hK
            have n1 := cell_blk (k := 0) hI.n
            have n3 := cell_blk (k := 0) hI.bw
            have n4 := cell_blk (k := 0) hI.res
            have n5 := frozen_blk (k := 0) hI.res
            simp only [List.size_toArray, List.length_cons, List.length_nil, Nat.zero_add, Nat.lt_add_one, getElem?_pos, List.getElem_toArray, List.getElem_cons_zero] at n1 n3 n4
            have HI := Aside.mk hI
            have HD := Aside.mk hD
            have hq2 : ((zs.length : Int) == (zs.length : Int)) = true := by simp
            clear hI hD
            go_wp2_with fail
            refine (PStr.len_any HI.out.p).mono ?_
            rintro e w10 ⟨rfl, rfl⟩
            rw [len_strs]
            have hd8 : decide ((ys.length : Int) + 1 ≤ M) = true := by simp; omega
            go_wp2_with fail
            have hDr : D ≠ w.heap.size := by have := HD.out; omega
            have hK1 : (W.setCell ⟨w.heap.size, 0, none⟩ (.bool true)).heap[D]? = some (.deferred (some [])) := (Below.heap_setCell _ _ _ _ hDr).trans hK
            have hres : ((W.setCell ⟨w.heap.size, 0, none⟩ (.bool true)).putObj D (.deferred none)).cell? ⟨w.heap.size, 0, none⟩ = some (.bool true) := by
              rw [cell_blk ((World.putObj_heap_other (Ne.symm hDr)).trans (heap_setCell_at HI.out.res _))]; rfl
            have hbl : Below w.heap.size w ((W.setCell ⟨w.heap.size, 0, none⟩ (.bool true)).putObj D (.deferred none)) :=
              (HI.out.bel.setCell (p := ⟨w.heap.size, 0, none⟩) (Nat.le_refl _) (.bool true)).grown (grownBy_putObj' _ D _) (by simp [World.setCell]; exact HI.out.bel.size) (fun k e => by cases e; have := HD.out; omega)
            refine left_marks hK1 (v := .bool true) ?_ ⟨rfl, hbl⟩
            simp [results, Try.results5, go_sem, hres]
          case stop =>
            rintro D c pre W hD h1 h2 _
            exact absurd h1 h2

theorem walk (w0 : World) (m : Int) (wm : (Lit.int .i64 m).wf = true) (a1 : Option Addr) (len1 cap1 : Nat) (l : Sh.M (.sl .str)) (hl : Sh.Reads w0 (.sl .str) (Value.slice a1 len1 cap1).cells.toList l) (taken : Int) (wt : (Lit.int .i64 taken).wf = true) (more : ByteArray) (wr : more.size ≤ maxLen) :
    Calls Try.prog 5 #[.int .i64 m, .slice a1 len1 cap1, .int .i64 taken, .string more] w0 fun e w' => e = .returned (.bool true) ∧ Below w0.heap.size w0 w' := by
  have hs : Strings w0 a1 len1 := by
    obtain ⟨a, cap, hv, h1, h2, _, h3⟩ := hl
    simp only [Value.cells, List.cons.injEq, and_true, Value.slice.injEq] at hv
    obtain ⟨rfl, hlen, rfl⟩ := hv
    refine ⟨by unfold maxLen at h2; rw [hlen]; omega, fun i hi => ?_⟩
    obtain ⟨g, off, cs, ha, hc, hcell, rfl, _⟩ := h3 i (by rw [hlen] at hi; exact hi)
    have := hcell 0 _ rfl
    simp only [Sh.size, Nat.mul_one, Nat.add_zero] at this
    exact ⟨g, off, _, ha, this⟩
  by_cases hm : 1 ≤ m ∧ m ≤ 64
  · exact walk_in m m taken more a1 len1 cap1 w0 hs (.inl ⟨hm.1, hm.2, rfl⟩) hm.1 hm.2
  · have := one_and63 m
    exact walk_in m _ taken more a1 len1 cap1 w0 hs (.inr ⟨by omega, rfl⟩) this.1 this.2
end Tells
end Go.Proofs.Ytjeenpjmpanfjaa
