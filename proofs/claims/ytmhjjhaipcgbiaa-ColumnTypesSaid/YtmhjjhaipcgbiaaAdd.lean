/- of, word at the kinds of fixed width. -/
import Derived.Test.YtmhjjhaipcgbiaaNew
namespace Go.Proofs.Ytmhjjhaipcgbiaa
open Go.RowKit
set_option linter.unusedVariables false
set_option linter.unusedSimpArgs false
set_option maxRecDepth 100000
set_option maxHeartbeats 1000000

theorem of_fixed (k s : Int) (h1 : (k == 15) = false) (h2 : (k == 16) = false) (w : World) : Calls Try.prog 57 #[.agg #[.int .i64 k, .int .i64 s]] w fun e w' => e = .returned (.iface 128 (.agg #[.int .i64 (widthOf k)])) ∧ w' = w.alloc (.cells #[.int .i64 k, .int .i64 s] 23) := by
  go_enter Try.func57, Try.ntmps57
  go_wp2_with (go_at_call 12; refine (width_any _ _).mono ?_; rintro e w1 ⟨rfl, rfl⟩)
  go_ret
  exact ⟨rfl, rfl⟩

/-- A number's lowest bytes, the lowest first. -/
def lows (X n : Nat) : List Int := (List.range n).map fun i => ((X / 256 ^ i % 256 : Nat) : Int)
theorem lows_succ (X n : Nat) : lows X (n + 1) = lows X n ++ [((X / 256 ^ n % 256 : Nat) : Int)] := by simp [lows, List.range_succ]
theorem len_lows (X n : Nat) : (lows X n).length = n := by simp [lows]

/-- What a call leaves: the blocks of S alone may have changed. -/
def WordP (bl lw base : Nat) (k s : Int) (nulls : List Bool) (data : List Int) (ends : List Int) (nv dv ev : Value) (X n : Nat) (w : World) (e : Ending) (w' : World) : Prop :=
  e = .returned (.tuple #[]) ∧ ∃ dv', IsB w' bl lw base k s nulls (data ++ lows X n) ends nv dv' ev ∧ Kept (fun b => b = bl ∨ dv.ownBlock = some b) w w' ∧ (dv'.ownBlock = dv.ownBlock ∨ ∃ b, dv'.ownBlock = some b ∧ w.heap.size ≤ b)

theorem word_any (bl lw base : Nat) (k s : Int) (nulls : List Bool) (data : List Int) (ends : List Int) (nv dv ev : Value) (X n : Nat) (hn : n ≤ 8) (hX : X < 18446744073709551616) (hl : data.length ≤ 100000000) (w : World) (h : IsB w bl lw base k s nulls data ends nv dv ev) (hb : base ≤ w.heap.size) :
    Calls Try.prog 106 #[.pointer (some ⟨bl, 0, none⟩), .int .u64 (X : Int), .int .i64 (n : Int)] w (WordP bl lw base k s nulls data ends nv dv ev X n w) := by
  have H0 := Aside.mk h
  clear h
  go_enter Try.func106, Try.ntmps106
  go_wp2
  go_loopw [1, 7] (fun xv iv wr => ∃ j : Nat, j ≤ n ∧ xv = .int .u64 ((X / 256 ^ j : Nat) : Int) ∧ iv = .int .i64 (j : Int) ∧ Aside (∃ dv', IsB wr bl lw base k s nulls (data ++ lows X j) ends nv dv' ev ∧ Kept (fun b => b = bl ∨ dv.ownBlock = some b) w wr ∧ (dv'.ownBlock = dv.ownBlock ∨ ∃ b, dv'.ownBlock = some b ∧ w.heap.size ≤ b))) (fun _ iv _ => n - (intOf iv).toNat)
  case atStart => exact ⟨0, by omega, by simp, rfl, ⟨dv, by simpa [lows] using H0.out, Kept.refl _ _, .inl rfl⟩⟩
  case round =>
    obtain ⟨j, hj, rfl, rfl, hp⟩ := hrel
    obtain ⟨dv', hp, hk, ho⟩ := hp.out
    clear H0
    by_cases hlt : j < n
    · have hX3 : X / 256 ^ j < 18446744073709551616 := Nat.lt_of_le_of_lt (Nat.div_le_self _ _) hX
      have hc3 := cell_blk (k := 3) hp.blk
      have hf3 := frozen_blk (k := 3) hp.blk
      simp at hc3
      obtain ⟨a1, c1, rfl⟩ := hp.data.form
      have hlen := len_lows X j
      have hdl : (data ++ lows X j).length ≤ 100000008 := by rw [List.length_append, hlen]; omega
      have hd := hp.data
      generalize hm : (data ++ lows X j).length = m at hd hc3 hdl hp ho
      have HP := Aside.mk hp
      have HD := Aside.mk hd
      have HM := Aside.mk hm
      have HK := Aside.mk hk
      have HO := Aside.mk ho
      clear hp hk ho hd hm hlen
      generalize hq : X / 256 ^ j = q at *
      have HQ := Aside.mk hq
      clear hq
      have hbs := lt_of_blk HP.out.blk
      go_wp2_with (at_builtin; refine wpList_app _ rfl _ _ 37 37 rfl base 5 (.int .u8 0) 1 1 Try.underlying37 u8info rfl _ _ _ rfl (HD.out.alloc _) _ 1 [.int .u8 ((q : Int) % 256)] rfl (src_one Try.underlying37 _ _ _ rfl rfl) (by unfold maxLen; omega) (by omega) (by have := HK.out.size; simp; omega) ?_)
      intro v' w5 hown' hgrow _ hat
      have e1 : data.map (Value.int .u8) ++ ((lows X j).map (Value.int .u8) ++ [.int .u8 ((q : Int) % 256)]) = (data ++ lows X (j + 1)).map (.int .u8) := by
        rw [lows_succ, HQ.out]; simp
      have e2 : m + 1 = (data ++ lows X (j + 1)).length := by rw [lows_succ, ← HM.out]; simp; omega
      rw [e1] at hown'
      obtain ⟨a5, c5, rfl⟩ := hown'.form
      have hown2 : Own w5 base 5 1 (.slice a5 (m + 1) c5) (data ++ lows X (j + 1)).length ((data ++ lows X (j + 1)).map (.int .u8)) := by rw [← e2]; exact hown'
      have hh := HP.out.app_data (.cells #[.int .u8 ((q : Int) % 256)] 5) hgrow hown2
      have hb5 := (hgrow.block bl (by simp; omega) (fun e => HP.out.data.blk_ne HP.out.blk (by decide) e.symm)).trans ((Below.heap_alloc _ _ _ hbs).trans HP.out.blk)
      have hc5 := cell_blk (k := 3) hb5
      have hf5 := frozen_blk (k := 3) hb5
      simp at hc5
      have HH := Aside.mk hh
      have HAT := Aside.mk hat
      clear hh hown2 e1 e2 hown' hgrow hat hb5
      go_wp2
      go_roundw
      case rel =>
        refine ⟨j + 1, by omega, ?_, by go_num, ⟨_, HH.out.1, (HK.out.trans HH.out.2 ?_), ?_⟩⟩
        · rw [Nat.pow_succ, ← Nat.div_div_eq_div_mul, HQ.out]; go_num
        · intro b hb1 hb2
          rcases hb1 with rfl | hb1
          · exact .inl rfl
          · rcases HO.out with h | ⟨b2, h, h2⟩
            · exact .inr (h ▸ hb1)
            · rw [h] at hb1; cases hb1; omega
        · rcases HAT.out with h | ⟨b2, h, h2⟩
          · rw [h]; exact HO.out
          · exact .inr ⟨b2, h, by have := HK.out.size; omega⟩
      case measure => simp [intOf]; omega
    · obtain rfl : j = n := by omega
      have HP := Aside.mk (And.intro hp (And.intro hk ho))
      clear hp hk ho
      go_wp2
      refine bodyPost_ret (v := .tuple #[]) (by simp [results, Try.results106, go_sem]) rfl ?_
      exact ⟨rfl, _, HP.out.1, HP.out.2.1, HP.out.2.2⟩
end Go.Proofs.Ytmhjjhaipcgbiaa
