/- PipePlays walked: it returns true and leaves what was there as it was. -/
import Derived.Test.YtjeenpjmpanfjaaPWakes
import Derived.Test.YtjeenpjmpanfjaaArgs
namespace Go.Proofs.Ytjeenpjmpanfjaa
open Go.RowKit
namespace Plays
set_option linter.unusedVariables false
set_option linter.unusedSimpArgs false

def ints (xs : List Int) : List Value := xs.map (Value.int .i64)

structure St (w : World) (b : Nat) (M : Int) (wr : World) (xs ys : List Int) (closed : Bool) (sv lv : Value) : Prop where
  p : PInt.Is wr b M (ints xs) closed sv
  l : Own wr (b + 1) 3 1 lv ys.length (ints ys)
  ne : ∀ k, lv.ownBlock = some k → sv.ownBlock ≠ some k
  bel : Below b w wr
  le : (xs.length : Int) ≤ M

variable {w : World} {b : Nat} {M : Int} {wr : World} {xs ys : List Int} {closed : Bool} {sv lv : Value}

theorem St.moved (h : St w b M wr xs ys closed sv lv) {xs' : List Int} {closed' : Bool} {sv' : Value} {w' : World} (hp : PInt.Is w' b M (ints xs') closed' sv') (hm : PInt.Mv wr b sv sv' w') (hle : (xs'.length : Int) ≤ M) :
    St w b M w' xs' ys closed' sv' lv := by
  refine ⟨hp, h.l.kept hm.kept (fun k hk hs => ?_), fun k hk hs => ?_, h.bel.trans (hm.below h.p), hle⟩
  · rcases hs with rfl | hs
    · have := (h.l.lt _ hk).1; omega
    · exact h.ne k hk hs
  · rcases hm.row k hs with h1 | h1
    · exact h.ne k hk h1
    · have := (h.l.lt _ hk).2; omega

theorem St.still (h : St w b M wr xs ys closed sv lv) (n : Nat) : St w b M (wr.drewN n) xs ys closed sv lv := ⟨h.p.drewN n, h.l, h.ne, h.bel.trans (below_drewN _ _ _), h.le⟩

theorem St.shut (h : St w b M wr xs ys closed sv lv) {closed' : Bool} {w' : World} (hp : PInt.Is w' b M (ints xs) closed' sv) (hk : Kept (fun k => k = b) wr w') : St w b M w' xs ys closed' sv lv :=
  h.moved hp ⟨hk.mono (fun k hk _ => .inl hk), fun k hk => .inl hk⟩ h.le

theorem St.app (h : St w b M wr xs ys closed sv lv) {ys' : List Int} {lv' : Value} {o : Obj} {w' : World} (hl : Own w' (b + 1) 3 1 lv' ys'.length (ints ys')) (hg : (wr.alloc o).grownBy w' lv.ownBlock)
    (hat : lv'.ownBlock = lv.ownBlock ∨ ∃ g, lv'.ownBlock = some g ∧ wr.heap.size + 1 ≤ g) : St w b M w' xs ys' closed sv lv' := by
  have hk : Kept (fun k => lv.ownBlock = some k) wr w' := ((Kept.of_below ((Below.refl _ wr).alloc (Nat.le_refl _) o)).trans (Kept.of_grown hg) (fun k hk _ => hk.symm)).mono (fun k hk _ => hk)
  refine ⟨⟨(hk.block b (lt_of_blk h.p.blk) (fun e => by have := (h.l.lt _ e).1; omega)).trans h.p.blk, h.p.own.kept hk (fun k e e' => h.ne k e' e), h.p.one⟩, hl, fun k hk' hs => ?_, ?_, h.le⟩
  · rcases hat with e | ⟨g, e, hg⟩
    · exact h.ne k (e ▸ hk') hs
    · rw [e] at hk'; cases hk'; have := (h.p.own.lt _ hs).2; omega
  · exact h.bel.trans (hk.to_below (Nat.le_of_lt (lt_of_blk h.p.blk)) (fun k e => by have := (h.l.lt _ e).1; omega))

theorem len_ints (xs : List Int) : (ints xs).length = xs.length := by simp [ints]
theorem ints_snoc (xs : List Int) (v : Int) : ints xs ++ [.int .i64 v] = ints (xs ++ [v]) := by simp [ints]
theorem ints_one (xs : List Int) : ∀ u ∈ ints xs, u.oneCell' = true := by intro u hu; simp [ints] at hu; obtain ⟨a, _, rfl⟩ := hu; rfl

theorem St.tail {x : Int} {xs ys : List Int} {la : Option Addr} {cap g off : Nat} (h : St w b M wr xs (x :: ys) closed sv (.slice (some ⟨g, off, none⟩) (ys.length + 1) cap)) :
    St w b M wr xs ys closed sv (.slice (if cap = 1 then some ⟨g, off, none⟩ else some ⟨g, off + 1, none⟩) ys.length (cap - 1)) := by
  have hl := h.l
  have hc := hl.cut (i := 1) (j := ys.length + 1) (by omega) (Nat.le_refl _)
  refine ⟨h.p, ?_, fun k hk => h.ne k (by split at hk <;> exact hk), h.bel, h.le⟩
  split
  · rename_i h1
    subst h1
    rcases hl.2 with ⟨h2, _⟩ | ⟨g', off', cap', cur, h2, h3, h4, h5, h6, h7, h8⟩
    · cases h2
    · simp only [Value.slice.injEq, Option.some.injEq, Addr.mk.injEq, and_true, true_and] at h2
      obtain ⟨⟨rfl, rfl⟩, _, rfl⟩ := h2
      obtain rfl : ys = [] := by cases ys with | nil => rfl | cons y ys => simp at h5
      exact ⟨by simp [ints], .inr ⟨g, off, 0, cur, rfl, h3, h4, Nat.le_refl _, by decide, by omega, fun j hj => by simp at hj⟩⟩
  · simpa [ints, List.take_of_length_le] using hc

/-- what the walk knows of the steps -/
def Steps (w : World) (a : Option Addr) (len : Nat) : Prop := len ≤ 9223372036854775807 ∧ ∀ i, i < len → ∃ g off x y, a = some ⟨g, off, none⟩ ∧ w.cell? ⟨g, off + i * 2, none⟩ = some (.int .i64 x) ∧ w.cell? ⟨g, off + i * 2 + 1, none⟩ = some (.int .i64 y)

set_option maxRecDepth 100000 in
set_option maxHeartbeats 2000000 in
theorem walk_bad (m : Int) (a1 : Option Addr) (len1 cap1 : Nat) (w : World) (hm : m < 1 ∨ 64 < m) :
    Calls Try.prog 4 #[.int .i64 m, .slice a1 len1 cap1] w fun e w' => e = .returned (.bool true) ∧ Below w.heap.size w w' := by
  rcases hm with hm | hm
  · go_enter Try.func4, Try.ntmps4
    go_wp2_with fail
    refine (PInt.new_no m _ (.inl hm)).mono ?_
    rintro e w2 ⟨rfl, rfl⟩
    go_wp2_with (go_at_call 7; refine (num_any _ _).mono ?_; rintro e w' ⟨rfl, rfl⟩)
    refine (wakes_any _).mono ?_
    rintro e w3 ⟨rfl, hb3⟩
    go_wp2_with fail
    go_ret
    exact ⟨rfl, hb3⟩
  · have h1 : ¬ m < 1 := by omega
    go_enter Try.func4, Try.ntmps4
    go_wp2_with fail
    refine (PInt.new_no m _ (.inr hm)).mono ?_
    rintro e w2 ⟨rfl, rfl⟩
    go_wp2_with (go_at_call 7; refine (num_any _ _).mono ?_; rintro e w' ⟨rfl, rfl⟩)
    refine (wakes_any _).mono ?_
    rintro e w3 ⟨rfl, hb3⟩
    go_wp2_with fail
    go_ret
    exact ⟨rfl, hb3⟩

set_option maxRecDepth 100000 in
set_option maxHeartbeats 4000000 in
theorem walk_good (m : Int) (a1 : Option Addr) (len1 cap1 : Nat) (w : World) (hm1 : 1 ≤ m) (hm2 : m ≤ 64) (hs : Steps w a1 len1) :
    Calls Try.prog 4 #[.int .i64 m, .slice a1 len1 cap1] w fun e w' => e = .returned (.bool true) ∧ Below w.heap.size w w' := by
  have hlen := hs.1
  have HS := Aside.mk hs.2
  clear hs
  have t1 : ((m : Int) != m) = false := by simp
  go_enter Try.func4, Try.ntmps4
  go_wp2_with fail
  refine (PInt.new_ok m _ hm1 hm2).mono ?_
  rintro e w2 ⟨rfl, rfl⟩
  have H0 := Aside.mk (PInt.Is.new w m)
  have B0 := Aside.mk ((Below.refl w.heap.size w).alloc (Nat.le_refl _) (.cells #[.int .i64 m, .slice none 0 0, .bool false] 52))
  generalize w.alloc (.cells #[.int .i64 m, .slice none 0 0, .bool false] 52) = w2 at *
  go_wp2_with (go_at_call 7; refine (num_any _ _).mono ?_; rintro e w' ⟨rfl, rfl⟩)
  refine (PInt.most_any H0.out).mono ?_
  rintro e w' ⟨rfl, rfl⟩
  have HSt := Aside.mk (show ∃ sv, St w w.heap.size m w2 [] [] false sv (.slice none 0 0) from ⟨_, H0.out, Own.nil _ _ _ _, (fun k hk => by cases hk), B0.out, by show ((0 : Nat) : Int) ≤ m; omega⟩)
  clear H0 B0
  go_wp2_with fail
  go_loopw [7, 8, 9] (fun vl vc ii wr => ∃ (i : Nat) (xs : List Int) (closed : Bool), i ≤ len1 ∧ i ≤ 400 ∧ vc = .bool closed ∧ ii = .int .i64 (i : Int) ∧
      Aside (∃ sv, St w w.heap.size m wr xs xs closed sv vl)) (fun _ _ ii _ => 400 - (intOf ii).toNat)
  case atStart => exact ⟨0, [], false, by omega, by omega, rfl, rfl, HSt⟩
  case round =>
    obtain ⟨i, xs, closed, hi1, hi2, rfl, rfl, hst⟩ := hrel
    clear HSt
    obtain ⟨sv, hst⟩ := hst.out
    obtain ⟨la, lc, rfl⟩ := hst.l.form
    have hle := hst.le
    have ST := Aside.mk hst
    clear hst
    by_cases hlt : i < len1 ∧ i < 400
    · obtain ⟨hlt, hlt2⟩ := hlt
      obtain ⟨g, off, x, y, rfl, c1, c2⟩ := HS.out i hlt
      have hc1 := (ST.out.bel.cell (p := ⟨g, off + i * 2, none⟩) (World.block_lt_of_cell? _ _ c1)).trans c1
      have hc2 := (ST.out.bel.cell (p := ⟨g, off + i * 2 + 1, none⟩) (World.block_lt_of_cell? _ _ c2)).trans c2
      have hgs := World.block_lt_of_cell? _ _ c1
      simp only at hgs
      clear c1 c2
      by_cases d0 : (x.tmod 5 == 0) = true
      · cases closed with
        | true =>
          go_wp2_with fail
          refine (PInt.send_closed y ST.out.p).mono ?_
          rintro e w4 ⟨rfl, rfl⟩
          go_wp2_with (go_at_call 7; refine (num_any _ _).mono ?_; rintro e w' ⟨rfl, rfl⟩)
          go_roundw
          case rel => exact ⟨i + 1, xs, true, by omega, by omega, rfl, by go_num, ⟨⟨_, ST.out⟩⟩⟩
          case measure => simp [intOf]; omega
        | false =>
          by_cases hf : (xs.length : Int) = m
          · subst hf
            go_wp2_with fail
            refine (PInt.send_full y ST.out.p (by rw [len_ints])).mono ?_
            rintro e w4 ⟨rfl, n4, rfl⟩
            go_wp2_with (go_at_call 7; refine (num_any _ _).mono ?_; rintro e w' ⟨rfl, rfl⟩)
            go_roundw
            case rel => exact ⟨i + 1, xs, false, by omega, by omega, rfl, by go_num, ⟨⟨_, ST.out.still n4⟩⟩⟩
            case measure => simp [intOf]; omega
          · have hf1 : ((xs.length : Int) == m) = false := by simp; omega
            have HF := Aside.mk hf
            clear hf
            have hbs := lt_of_blk ST.out.p.blk
            have hlo := ST.out.l
            go_wp2_with (at_builtin; refine wpList_app _ rfl _ _ 22 22 rfl (w.heap.size + 1) 3 (.int .i64 0) 1 8 Try.underlying22 PInt.info rfl _ _ _ rfl (hlo.alloc _) _ 1 [.int .i64 y] rfl (src_one Try.underlying22 _ _ _ rfl rfl) (by unfold maxLen; omega) (by omega) (by simp; omega) ?_)
            intro v' w5 hown' hgrow _ hat
            obtain ⟨a', cap', rfl⟩ := hown'.form
            have ST5 := Aside.mk (ST.out.app (ys' := xs ++ [y]) (by rw [← ints_snoc]; simpa using hown') hgrow (by simpa using hat))
            have hc2' := (hgrow.cell (a := ⟨g, off + i * 2 + 1, none⟩) (v := .int .i64 y) (by rw [World.cell?_alloc_past _ _ _ (World.block_lt_of_cell? _ _ hc2)]; exact hc2) (fun e => by
              have h1 := (ST.out.l.lt _ e.symm).1
              simp only at h1
              omega))
            clear hgrow hat hlo hc2
            go_wp2_with fail
            refine (PInt.send_room y ST5.out.p (by rw [len_ints]; have := HF.out; omega) hm2).mono ?_
            rintro e w6 ⟨rfl, sv6, hp6, hm6⟩
            have ST6 := Aside.mk (ST5.out.moved (xs' := xs ++ [y]) (by rw [← ints_snoc]; exact hp6) hm6 (by simp; have := HF.out; omega))
            clear hp6 hm6
            go_wp2_with (go_at_call 7; refine (num_any _ _).mono ?_; rintro e w' ⟨rfl, rfl⟩)
            go_roundw
            case rel => exact ⟨i + 1, xs ++ [y], false, by omega, by omega, rfl, by go_num, ⟨⟨_, by simpa using ST6.out⟩⟩⟩
            case measure => simp [intOf]; omega
      have d0' : (x.tmod 5 == 0) = false := by simpa using d0
      clear d0
      by_cases d1 : (x.tmod 5 == 1) = true
      · cases xs with
        | nil =>
          cases closed with
          | true =>
            go_wp2_with fail
            refine (PInt.recv_closed ST.out.p).mono ?_
            rintro e w4 ⟨rfl, rfl⟩
            go_wp2_with (go_at_call 7; refine (num_any _ _).mono ?_; rintro e w' ⟨rfl, rfl⟩)
            go_roundw
            case rel => exact ⟨i + 1, [], true, by omega, by omega, rfl, by go_num, ⟨⟨_, ST.out⟩⟩⟩
            case measure => simp [intOf]; omega
          | false =>
            go_wp2_with fail
            refine (PInt.recv_open ST.out.p).mono ?_
            rintro e w4 ⟨rfl, rfl⟩
            go_wp2_with (go_at_call 7; refine (num_any _ _).mono ?_; rintro e w' ⟨rfl, rfl⟩)
            go_roundw
            case rel => exact ⟨i + 1, [], false, by omega, by omega, rfl, by go_num, ⟨⟨_, ST.out⟩⟩⟩
            case measure => simp [intOf]; omega
        | cons x0 xs =>
          go_wp2_with fail
          refine (PInt.recv_some (xs := ints xs) x0 ST.out.p (by rw [len_ints]; simp at hle; omega)).mono ?_
          rintro e w4 ⟨rfl, sv4, hp4, hm4⟩
          have hs4 := ST.out.moved (xs' := xs) hp4 hm4 (by simp at hle; omega)
          obtain ⟨g4, off4, cap4, he4, _, _, hn4, hx4, hcl4, _⟩ := hs4.l.some_ (by simp)
          simp only [Value.slice.injEq, true_and] at he4
          obtain ⟨rfl, rfl⟩ := he4
          have hcl := hcl4 0 _ rfl
          simp only [Nat.add_zero, List.length_cons] at hcl hn4
          have ST4 := Aside.mk (St.tail (la := none) hs4)
          clear hp4 hm4 hs4 hcl4
          go_wp2_with (go_at_call 7; refine (num_any _ _).mono ?_; rintro e w' ⟨rfl, rfl⟩)
          go_roundw
          case rel => exact ⟨i + 1, xs, closed, by omega, by omega, rfl, by go_num, ⟨⟨_, ST4.out⟩⟩⟩
          case measure => simp [intOf]; omega
      have d1' : (x.tmod 5 == 1) = false := by simpa using d1
      clear d1
      by_cases d2 : (x.tmod 5 == 2) = true
      · cases closed with
        | true =>
          go_wp2_with fail
          refine (PInt.close_closed ST.out.p).mono ?_
          rintro e w4 ⟨rfl, rfl⟩
          go_wp2_with (go_at_call 7; refine (num_any _ _).mono ?_; rintro e w' ⟨rfl, rfl⟩)
          go_roundw
          case rel => exact ⟨i + 1, xs, true, by omega, by omega, rfl, by go_num, ⟨⟨_, ST.out⟩⟩⟩
          case measure => simp [intOf]; omega
        | false =>
          go_wp2_with fail
          refine (PInt.close_open ST.out.p).mono ?_
          rintro e w4 ⟨rfl, hp4, hk4⟩
          have ST4 := Aside.mk (ST.out.shut hp4 hk4)
          clear hp4 hk4
          go_wp2_with (go_at_call 7; refine (num_any _ _).mono ?_; rintro e w' ⟨rfl, rfl⟩)
          go_roundw
          case rel => exact ⟨i + 1, xs, true, by omega, by omega, rfl, by go_num, ⟨⟨_, ST4.out⟩⟩⟩
          case measure => simp [intOf]; omega
      · have d2' : (x.tmod 5 == 2) = false := by simpa using d2
        clear d2
        have e1 : ((xs.length : Int) != (xs.length : Int)) = false := by simp
        have e2 : (closed != closed) = false := by simp
        go_wp2_with fail
        refine (PInt.len_any ST.out.p).mono ?_
        rintro e w4 ⟨rfl, rfl⟩
        rw [len_ints]
        go_wp2_with fail
        refine (PInt.closed_any ST.out.p).mono ?_
        rintro e w4 ⟨rfl, rfl⟩
        go_wp2_with fail
        go_roundw
        case rel => exact ⟨i + 1, xs, closed, by omega, by omega, rfl, by go_num, ⟨⟨_, ST.out⟩⟩⟩
        case measure => simp [intOf]; omega
    · have h9 : Aside (len1 ≤ i ∨ (i < len1 ∧ 400 ≤ i)) := ⟨by omega⟩
      clear hlt
      have e1 : ((xs.length : Int) == (xs.length : Int)) = true := by simp
      have e2 : (closed == closed) = true := by simp
      have e3 : (m == m) = true := by simp
      rcases h9.out with h10 | ⟨h10, h13⟩
      all_goals
        go_wp2_with fail
        refine (PInt.len_any ST.out.p).mono ?_
        rintro e w4 ⟨rfl, rfl⟩
        rw [len_ints]
        go_wp2_with fail
        refine (PInt.closed_any ST.out.p).mono ?_
        rintro e w4 ⟨rfl, rfl⟩
        go_wp2_with fail
        refine (PInt.most_any ST.out.p).mono ?_
        rintro e w4 ⟨rfl, rfl⟩
        go_wp2_with fail
        refine (wakes_any _).mono ?_
        rintro e w3 ⟨rfl, hb3⟩
        go_wp2_with fail
        go_ret
        exact ⟨rfl, ST.out.bel.trans (hb3.mono ST.out.bel.size)⟩

theorem walk (w0 : World) (m : Int) (wm : (Lit.int .i64 m).wf = true) (a1 : Option Addr) (len1 cap1 : Nat) (l : Sh.M (.sl (.st (.cons (.int .i64) (.cons (.int .i64) .nil))))) (hl : Sh.Reads w0 (.sl (.st (.cons (.int .i64) (.cons (.int .i64) .nil)))) (Value.slice a1 len1 cap1).cells.toList l) :
    Calls Try.prog 4 #[.int .i64 m, .slice a1 len1 cap1] w0 fun e w' => e = .returned (.bool true) ∧ Below w0.heap.size w0 w' := by
  by_cases hm : 1 ≤ m ∧ m ≤ 64
  · refine walk_good m a1 len1 cap1 w0 hm.1 hm.2 ?_
    obtain ⟨a, cap, hv, h1, h2, _, h3⟩ := hl
    simp only [Value.cells, List.cons.injEq, and_true, Value.slice.injEq] at hv
    obtain ⟨rfl, hlen, rfl⟩ := hv
    refine ⟨by unfold maxLen at h2; rw [hlen]; omega, fun i hi => ?_⟩
    obtain ⟨g, off, cs, ha, hc, hcell, c1, c2, rfl, _, ⟨rfl, _⟩, c3, c4, rfl, _, ⟨rfl, _⟩, rfl⟩ := h3 i (by rw [hlen] at hi; exact hi)
    exact ⟨g, off, _, _, ha, hcell 0 _ rfl, hcell 1 _ rfl⟩
  · exact walk_bad m a1 len1 cap1 w0 (by omega)
end Plays
end Go.Proofs.Ytjeenpjmpanfjaa
