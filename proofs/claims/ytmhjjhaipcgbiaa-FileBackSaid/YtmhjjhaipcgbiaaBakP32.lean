/- Texts of this claim, one behind the other: Fe, Gr. -/
import Derived.Test.YtmhjjhaipcgbiaaBakP25
import Derived.Test.YtmhjjhaipcgbiaaBakP28
import Derived.Test.YtmhjjhaipcgbiaaBakP31
import Derived.Deep.AppendSrc

namespace Go.Proofs.Ytmhjjhaipcgbiaa
open Go.RowKit
set_option linter.unusedVariables false
set_option linter.unusedSimpArgs false
set_option maxRecDepth 100000
set_option maxHeartbeats 1000000
def EncP (t : Tb) (n : Int) (w : World) (e : Ending) (w' : World) : Prop := Below w.heap.size w w' ∧ ((TableP t ∧ ∃ a c, e = .returned (.tuple #[.slice a (encT t).length c, .int .i64 0]) ∧ Own w' w.heap.size 5 1 (.slice a (encT t).length c) (encT t).length ((encT t).map (.int .u8))) ∨ (¬ TableP t ∧ e = .returned (.tuple #[.slice none 0 0, .int .i64 n])))
theorem flat_bytes {α : Type} (f : α → List Int) (l : List α) (h : ∀ x ∈ l, IsBytes (f x)) : IsBytes (l.flatMap f) := fun y hy => by
  obtain ⟨x, hx, hy⟩ := List.mem_flatMap.1 hy
  exact h x hx y hy
theorem app_bytes {a b : List Int} (ha : IsBytes a) (hb : IsBytes b) : IsBytes (a ++ b) := fun y hy => (List.mem_append.1 hy).elim (ha y) (hb y)
theorem encC_bytes {c : Col} (h : COK c) : IsBytes (encC c) := by
  unfold encC
  refine app_bytes (app_bytes (app_bytes h.bits (flat_bytes _ _ (fun x _ => lows_bytes _ _))) h.data) ?_
  split
  · exact app_bytes (lows_bytes _ _) (flat_bytes _ _ (fun x hx => app_bytes (lows_bytes _ _) (h.words x hx).1))
  · exact fun y hy => by cases hy
theorem encB_bytes {t : Tb} (h : ∀ c ∈ t.cs, COK c) : IsBytes (encB t) := by
  unfold encB
  refine app_bytes (app_bytes (app_bytes (app_bytes ?_ (lows_bytes _ _)) (flat_bytes _ _ (fun x _ => ?_))) (lows_bytes _ _)) (flat_bytes _ _ (fun x hx => encC_bytes (h x hx)))
  · intro x hx; simp at hx; omega
  · unfold encH
    exact app_bytes (app_bytes (app_bytes (app_bytes (lows_bytes _ _) (strL_bytes _)) (lows_bytes _ _)) (lows_bytes _ _)) (lows_bytes _ _)
theorem name_small {s : ByteArray} (h : nameB s = true) : s.size ≤ 64 := by
  unfold nameB at h
  simp only [Bool.and_eq_true, decide_eq_true_eq] at h
  exact h.1.1.2
theorem four_rd (w : World) : ∀ j u, (([77, 84, 71, 49] : List Int).map (Value.int .u8))[j]? = some u → (w.alloc (.cells #[.int .u8 77, .int .u8 84, .int .u8 71, .int .u8 49] 5 (4, 5))).cell? ⟨w.heap.size, j, none⟩ = some u := fun j u hu => by
  have hg : (w.alloc (.cells #[.int .u8 77, .int .u8 84, .int .u8 71, .int .u8 49] 5 (4, 5))).heap[w.heap.size]? = some (.cells #[.int .u8 77, .int .u8 84, .int .u8 71, .int .u8 49] 5 (4, 5)) := heap_alloc_new w _
  rw [cell_blk hg]
  have hj := (List.getElem?_eq_some_iff.1 hu).1
  rcases (show j = 0 ∨ j = 1 ∨ j = 2 ∨ j = 3 by simp at hj; omega) with rfl | rfl | rfl | rfl <;> exact hu
theorem box4 {w : World} {b : Nat} {x0 x1 x2 x3 : Value} {T : TypeId} (h : w.heap[b]? = some (.cells #[x0, x1, x2, x3] T (0, 0))) : w.cell? ⟨b, 0, none⟩ = some x0 ∧ w.cell? ⟨b, 1, none⟩ = some x1 ∧ w.cell? ⟨b, 2, none⟩ = some x2 ∧ w.cell? ⟨b, 3, none⟩ = some x3 := by
  refine ⟨?_, ?_, ?_, ?_⟩ <;> (rw [cell_blk h]; rfl)
theorem src_str {tx : TypeId} {w : World} (hk : (Try.prog).underlying tx = some .string) (s : ByteArray) : Src Try.prog 1 tx (.string s) s.size ((strL s).map (.int .u8)) w := by
  have := Src.ofString (w := w) hk s
  rwa [strL_cells] at this
theorem encode_any (t : Tb) (ht : TbE t) (H C : SL) (w : World) (h : RdTb w t H C) : Calls Try.prog 31 #[tbV t H C] w (EncP t 241 w) := by
  have HR := Aside.mk h
  have HT := Aside.mk ht
  have HEM := Aside.mk (fun W (hb : Below w.heap.size w W) => emit_any t ht.ok H C W (h.below hb))
  have hl1 := ht.ok.hl
  have hl2 := ht.ok.cl
  clear h ht
  dsimp only [tbV] at HEM ⊢
  have HB := Aside.mk (below_new w (.cells #[.slice H.a t.hs.length H.c, .int .i64 t.rows, .slice C.a t.cs.length C.c] 73))
  have HX := Aside.mk (heap_alloc_new w (.cells #[.slice H.a t.hs.length H.c, .int .i64 t.rows, .slice C.a t.cs.length C.c] 73))
  obtain ⟨t0, t1, t2⟩ := box3t HX.out
  by_cases hT : TableP t
  rotate_left
  · have HN := Aside.mk hT
    clear hT
    go_enter Try.func31, Try.ntmps31
    go_wp2_with (go_at_call 73; refine (HEM.out _ HB.out).mono ?_; rintro e w2 ⟨r, rfl, _, hr, hb⟩; have HB2 := Aside.mk (below_chain HB.out hb); obtain rfl := hr HN.out; clear hr hb)
    go_ret2
    exact ⟨HB2.out, .inr ⟨HN.out, rfl⟩⟩
  have HTP := Aside.mk hT
  have h64 : t.hs.length ≤ 64 := hT.1.2.1
  have HCH := Aside.mk (show t.cs.length = t.hs.length from hT.2.1)
  have HNS := Aside.mk (fun h (hh : h ∈ t.hs) => name_small (hT.1.2.2.1 h hh))
  clear hT
  go_enter Try.func31, Try.ntmps31
  go_upto_region 4 with (go_at_call 73; refine (HEM.out _ HB.out).mono ?_; rintro e w2 ⟨r, rfl, hr, _, hb⟩; have HB2 := Aside.mk (below_chain HB.out hb); obtain rfl := hr HTP.out; have HX2 := Aside.mk ((hb.block _ (lt_of_blk HX.out)).trans HX.out); clear t0 t1 t2 hr hb)
  obtain ⟨t0, t1, t2⟩ := box3t HX2.out
  have hcv := Lib.run_convert_bytes_const (P := Try.prog) w2 37 5 #[.int .u8 77, .int .u8 84, .int .u8 71, .int .u8 49] 4 4 (by rfl) (by rfl)
  have HBW := Aside.mk (below_new w2 (.cells #[.int .u8 77, .int .u8 84, .int .u8 71, .int .u8 49] 5 (4, 5)))
  have hx3 := (HBW.out.block _ (lt_of_blk HX2.out)).trans HX2.out
  have HX3 := Aside.mk hx3
  clear t0 t1 t2
  obtain ⟨t0, t1, t2⟩ := box3t hx3
  clear hx3
  have HN0 := Aside.mk (fnumf_any [77, 84, 71, 49] (t.hs.length : Int) (by simp) w2.heap.size (w2.alloc (.cells #[.int .u8 77, .int .u8 84, .int .u8 71, .int .u8 49] 5 (4, 5))) (four_rd w2))
  obtain ⟨d1, hd1⟩ : ∃ d, ([77, 84, 71, 49] : List Int) ++ lows (u64N t.hs.length) 8 = d := ⟨_, rfl⟩
  rw [hd1] at HN0
  have HDL := Aside.mk (show d1.length = 12 by rw [← hd1]; simp [len_lows])
  have HD1 := Aside.mk hd1
  clear hd1
  go_upto_region 5 with (go_at_call 74; refine HN0.out.mono ?_; rintro e w3 ⟨a1, c1, rfl, hown, hb⟩; have HE1 := Aside.mk (show EnI t H C d1 a1 c1 w w3 from ⟨hown.mono (Nat.le_trans HB2.out.size HBW.out.size), below_chain (below_chain HB2.out HBW.out) hb, (hb.block _ (lt_of_blk HX3.out)).trans HX3.out⟩); clear hown hb t0 t1 t2 hcv HN0 HX2 HX3 HB2 HBW)
  obtain ⟨t0, t1, t2⟩ := box3t HE1.out.box
  go_wp2_with fail
  clear t0 t1 t2
  obtain ⟨fd, hfd⟩ : ∃ f : Nat → List Int, f = fun i => d1 ++ (t.hs.take i).flatMap encH := ⟨_, rfl⟩
  have HF0 := Aside.mk (show fd 0 = d1 by rw [hfd]; simp)
  have HFN := Aside.mk (show ∀ i (h : i < t.hs.length), fd (i + 1) = fd i ++ encH t.hs[i] from fun i h => by rw [hfd]; dsimp only; rw [flat_take encH t.hs h, List.append_assoc])
  have HFL := Aside.mk (show ∀ i, (fd i).length ≤ 10000 from fun i => by
    have hfl := flat_len encH 96 (t.hs.take i) (fun x hx => encH_len x (HNS.out x (List.mem_of_mem_take hx)))
    have hti : (t.hs.take i).length ≤ 64 := Nat.le_trans (List.length_take_le' _ _) h64
    rw [hfd, List.length_append, HDL.out]; omega)
  have HFE := Aside.mk (show fd t.hs.length = d1 ++ t.hs.flatMap encH by rw [hfd]; dsimp only; rw [List.take_length])
  clear hfd
  rw [← HF0.out] at HE1 ⊢
  go_loopw [5, 7, 8, 29] (fun bv _ _ iv wr => ∃ (i : Nat) (a : Option Addr) (c : Nat), i ≤ t.hs.length ∧ bv = .slice a (fd i).length c ∧ iv = .int .i64 (i : Int) ∧ Aside (EnI t H C (fd i) a c w wr)) (fun _ _ _ iv _ => t.hs.length - (intOf iv).toNat)
  case atStart => exact ⟨0, a1, c1, by omega, rfl, rfl, ⟨HE1.out⟩⟩
  case round =>
    clear HE1
    obtain ⟨i, a, c, hi, rfl, rfl, HE⟩ := hrel
    by_cases hlt : i < t.hs.length
    · obtain ⟨g, off, e1, q1, q2, v0, v1, v2, v3⟩ := (HR.out.h.below HE.out.bel).at hlt
      have hns := HNS.out _ (List.getElem_mem hlt)
      have hdn := HFL.out i
      have HNX2 := Aside.mk (HFN.out i hlt)
      obtain ⟨d, hdd⟩ : ∃ x, fd i = x := ⟨_, rfl⟩
      rw [hdd] at HE hdn HNX2 ⊢
      clear hdd
      generalize t.hs[i] = hd at *
      have HHD := Aside.mk hdn
      cases hnl : hd.null with
      | true =>
        rw [hnl] at v3
        have HEH := Aside.mk (show encH hd = lows (u64N hd.name.size) 8 ++ strL hd.name ++ lows (u64N hd.k) 8 ++ lows (u64N hd.s) 8 ++ lows (u64N 1) 8 by unfold encH; rw [hnl]; rfl)
        clear hnl
        go_upto_region 11 with fail
        have hbw := below_new wr (.cells #[.string hd.name, .int .i64 hd.k, .int .i64 hd.s, .bool true] 137)
        have hbx := heap_alloc_new wr (.cells #[.string hd.name, .int .i64 hd.k, .int .i64 hd.s, .bool true] 137)
        generalize wr.alloc (.cells #[.string hd.name, .int .i64 hd.k, .int .i64 hd.s, .bool true] 137) = w5 at *
        have HE5 := Aside.mk (HE.out.below hbw)
        have HBX := Aside.mk hbx
        clear v0 v1 v2 v3 hbw hbx
        obtain ⟨b0, b1, b2, b3⟩ := box4 HBX.out
        refine wp_regionO (fun U : World => U.cell? ⟨wr.heap.size, 0, none⟩ = some (.string hd.name)) 8 9 (by kernel_rfl) rfl ?_
        have hS : (fun U : World => U.cell? ⟨wr.heap.size, 0, none⟩ = some (.string hd.name)) w5.drew := b0
        refine wpE_take (k := 0) (o := ⟨some 35, _, _, _, _, _⟩) (v := ?_) rfl (by kernel_rfl) (by kernel_rfl) (by kernel_rfl) (by kernel_rfl) (fun _ _ _ h => absurd h.1 (by simp)) (Or.inl ⟨by rfl, ?_⟩) (by assumption) ?_
        rotate_left
        · (intro w hSw; (try dsimp only at hSw); go_simp; (try with_reducible rfl))
        (try simp only [Act.put, List.setIfInBounds_toArray, List.set_cons_zero, List.set_cons_succ])
        refine wpE_take (k := 1) (o := ⟨some 36, _, _, _, _, _⟩) (v := ?_) rfl (by kernel_rfl) (by kernel_rfl) (by kernel_rfl) (by kernel_rfl) (fun _ _ _ h => absurd h.1 (by simp)) (Or.inl ⟨by rfl, ?_⟩) (by assumption) ?_
        rotate_left
        · (intro w hSw; (try dsimp only at hSw); go_simp; (try with_reducible rfl))
        (try simp only [Act.put, List.setIfInBounds_toArray, List.set_cons_zero, List.set_cons_succ])
        refine wpE_take (k := 2) (o := ⟨some 37, _, _, _, _, _⟩) (v := ?_) rfl (by kernel_rfl) (by kernel_rfl) (by kernel_rfl) (by kernel_rfl) (fun _ _ _ h => absurd h.1 (by simp)) (Or.inl ⟨by rfl, ?_⟩) (by assumption) ?_
        rotate_left
        · (intro w hSw; (try dsimp only at hSw); go_simp; (try with_reducible rfl))
        (try simp only [Act.put, List.setIfInBounds_toArray, List.set_cons_zero, List.set_cons_succ])
        refine wpE_take (k := 3) (o := ⟨some 38, _, _, _, _, _⟩) (v := ?_) rfl (by kernel_rfl) (by kernel_rfl) (by kernel_rfl) (by kernel_rfl) (fun _ _ _ h => absurd h.1 (by simp)) (Or.inl ⟨by rfl, ?_⟩) (by assumption) ?_
        rotate_left
        · (intro w hSw; (try dsimp only at hSw); go_simp; (try with_reducible rfl))
        (try simp only [Act.put, List.setIfInBounds_toArray, List.set_cons_zero, List.set_cons_succ])
        refine wpE_take (k := 5) (o := ⟨some 40, _, _, _, _, _⟩) (v := ?_) rfl (by kernel_rfl) (by kernel_rfl) (by kernel_rfl) (by kernel_rfl) (fun _ _ _ h => absurd h.1 (by simp)) (Or.inl ⟨by rfl, ?_⟩) (by assumption) ?_
        rotate_left
        · (intro w hSw; (try dsimp only at hSw); go_simp; (try with_reducible rfl))
        (try simp only [Act.put, List.setIfInBounds_toArray, List.set_cons_zero, List.set_cons_succ])
        refine wpE_take (k := 6) (o := ⟨some 41, _, _, _, _, _⟩) (v := ?_) rfl (by kernel_rfl) (by kernel_rfl) (by kernel_rfl) (by kernel_rfl) (fun _ _ _ h => absurd h.1 (by simp)) (Or.inl ⟨by rfl, ?_⟩) (by assumption) ?_
        rotate_left
        · (intro w hSw; (try dsimp only at hSw); go_simp; (try with_reducible rfl))
        (try simp only [Act.put, List.setIfInBounds_toArray, List.set_cons_zero, List.set_cons_succ])
        refine wpE_one (k := 4) (o := ⟨some 39, _, _, _, _, _⟩) rfl (by kernel_rfl) (fun K hK => ?_)
        refine step_call (P := Try.prog) w5.drew (by rfl) 74 [.tmp 35, .tmp 38] _ (by rfl) [.slice a d.length c, .int .i64 (hd.name.size : Int)] (by rfl) (fun _ _ => rfl) ((HE5.out.below (below_drewN w5 _ 1)).num (by have := HHD.out; omega) _) ?_
        rintro e w6 ⟨a2, c2, rfl, hE, hk⟩
        refine ⟨_, rfl, ?_⟩
        have HBX6 := Aside.mk (own_box (HE5.out.below (below_drewN w5 _ 1)).own hk (show w5.drew.heap[wr.heap.size]? = _ from HBX.out) (by decide))
        obtain ⟨d2, hd2⟩ : ∃ x, d ++ lows (u64N hd.name.size) 8 = x := ⟨_, rfl⟩
        rw [hd2] at hE ⊢
        have HE6 := Aside.mk hE
        have HD2 := Aside.mk hd2
        have hd2l : d2.length ≤ 10008 := by rw [← hd2, List.length_append, len_lows]; have := HHD.out; omega
        clear hE hk hd2
        refine hK.out _ _ (by obtain ⟨z0, _, _, _⟩ := box4 HBX6.out; exact z0) (fun hS => ?_)
        clear hK K
        try simp only [Act.put, List.setIfInBounds_toArray, List.set_cons_zero, List.set_cons_succ]
        refine wpE_one (k := 7) (o := ⟨some 42, _, _, _, _, _⟩) rfl (by kernel_rfl) (fun K hK => ?_)
        refine step_app2 (P := Try.prog) w6 (.tmp 39) (.tmp 41) 37 9 (by rfl) (by rfl) w.heap.size 5 (.int .u8 0) 1 1 Try.underlying37 u8info (by rfl) (.slice a2 d2.length c2) d2.length (d2.map (.int .u8)) (by rfl) HE6.out.own (.string hd.name) hd.name.size ((strL hd.name).map (.int .u8)) (by rfl) (src_str (by rfl) _) (by unfold maxLen; omega) (by omega) HE6.out.bel.size ?_
        intro v' w7 hA
        obtain ⟨a3, c3, rfl⟩ := hA.own.form
        obtain ⟨hE, hk, hl⟩ := HE6.out.app (strL_len _) hA
        have HBX7 := Aside.mk (own_box HE6.out.own hk HBX6.out (by decide))
        rw [hl]
        obtain ⟨d3, hd3⟩ : ∃ x, d2 ++ strL hd.name = x := ⟨_, rfl⟩
        rw [hd3] at hE ⊢
        have HE7 := Aside.mk hE
        have HD3 := Aside.mk hd3
        have hd3l : d3.length ≤ 10072 := by rw [← hd3, List.length_append, strL_len]; omega
        clear hE hk hl hA hd3
        refine hK.out _ _ (by obtain ⟨z0, _, _, _⟩ := box4 HBX7.out; exact z0) (fun hS => ?_)
        clear hK K
        try simp only [Act.put, List.setIfInBounds_toArray, List.set_cons_zero, List.set_cons_succ]
        refine wpE_last (k := 8) (o := ⟨some 5, _, _, _, _, _⟩) rfl (by kernel_rfl) (by kernel_rfl) rfl (fun K hK => ?_)
        go_simp
        refine hK.out _ _ ?_
        clear hK K
        refine ⟨rfl, ?_⟩
        clear hS b0 b1 b2 b3
        obtain ⟨b0, b1, b2, b3⟩ := box4 HBX7.out
        go_upto_region 12 with fail
        refine wp_regionO (fun U : World => U.cell? ⟨wr.heap.size, 1, none⟩ = some (.int .i64 hd.k) ∧ U.cell? ⟨wr.heap.size, 2, none⟩ = some (.int .i64 hd.s)) 11 12 (by kernel_rfl) rfl ?_
        have hS : (fun U : World => U.cell? ⟨wr.heap.size, 1, none⟩ = some (.int .i64 hd.k) ∧ U.cell? ⟨wr.heap.size, 2, none⟩ = some (.int .i64 hd.s)) w7.drew := ⟨b1, b2⟩
        refine wpE_take (k := 0) (o := ⟨some 43, _, _, _, _, _⟩) (v := ?_) rfl (by kernel_rfl) (by kernel_rfl) (by kernel_rfl) (by kernel_rfl) (fun _ _ _ h => absurd h.1 (by simp)) (Or.inl ⟨by rfl, ?_⟩) (by assumption) ?_
        rotate_left
        · (intro w hSw; obtain ⟨s1, s2⟩ := hSw; go_simp; (try with_reducible rfl))
        (try simp only [Act.put, List.setIfInBounds_toArray, List.set_cons_zero, List.set_cons_succ])
        refine wpE_take (k := 1) (o := ⟨some 44, _, _, _, _, _⟩) (v := ?_) rfl (by kernel_rfl) (by kernel_rfl) (by kernel_rfl) (by kernel_rfl) (fun _ _ _ h => absurd h.1 (by simp)) (Or.inl ⟨by rfl, ?_⟩) (by assumption) ?_
        rotate_left
        · (intro w hSw; obtain ⟨s1, s2⟩ := hSw; go_simp; (try with_reducible rfl))
        (try simp only [Act.put, List.setIfInBounds_toArray, List.set_cons_zero, List.set_cons_succ])
        refine wpE_take (k := 2) (o := ⟨some 45, _, _, _, _, _⟩) (v := ?_) rfl (by kernel_rfl) (by kernel_rfl) (by kernel_rfl) (by kernel_rfl) (fun _ _ _ h => absurd h.1 (by simp)) (Or.inl ⟨by rfl, ?_⟩) (by assumption) ?_
        rotate_left
        · (intro w hSw; obtain ⟨s1, s2⟩ := hSw; go_simp; (try with_reducible rfl))
        (try simp only [Act.put, List.setIfInBounds_toArray, List.set_cons_zero, List.set_cons_succ])
        refine wpE_take (k := 3) (o := ⟨some 46, _, _, _, _, _⟩) (v := ?_) rfl (by kernel_rfl) (by kernel_rfl) (by kernel_rfl) (by kernel_rfl) (fun _ _ _ h => absurd h.1 (by simp)) (Or.inl ⟨by rfl, ?_⟩) (by assumption) ?_
        rotate_left
        · (intro w hSw; obtain ⟨s1, s2⟩ := hSw; go_simp; (try with_reducible rfl))
        (try simp only [Act.put, List.setIfInBounds_toArray, List.set_cons_zero, List.set_cons_succ])
        refine wpE_take (k := 5) (o := ⟨some 48, _, _, _, _, _⟩) (v := ?_) rfl (by kernel_rfl) (by kernel_rfl) (by kernel_rfl) (by kernel_rfl) (fun _ _ _ h => absurd h.1 (by simp)) (Or.inl ⟨by rfl, ?_⟩) (by assumption) ?_
        rotate_left
        · (intro w hSw; obtain ⟨s1, s2⟩ := hSw; go_simp; (try with_reducible rfl))
        (try simp only [Act.put, List.setIfInBounds_toArray, List.set_cons_zero, List.set_cons_succ])
        refine wpE_take (k := 6) (o := ⟨some 49, _, _, _, _, _⟩) (v := ?_) rfl (by kernel_rfl) (by kernel_rfl) (by kernel_rfl) (by kernel_rfl) (fun _ _ _ h => absurd h.1 (by simp)) (Or.inl ⟨by rfl, ?_⟩) (by assumption) ?_
        rotate_left
        · (intro w hSw; obtain ⟨s1, s2⟩ := hSw; go_simp; (try with_reducible rfl))
        (try simp only [Act.put, List.setIfInBounds_toArray, List.set_cons_zero, List.set_cons_succ])
        refine wpE_take (k := 7) (o := ⟨some 50, _, _, _, _, _⟩) (v := ?_) rfl (by kernel_rfl) (by kernel_rfl) (by kernel_rfl) (by kernel_rfl) (fun _ _ _ h => absurd h.1 (by simp)) (Or.inl ⟨by rfl, ?_⟩) (by assumption) ?_
        rotate_left
        · (intro w hSw; obtain ⟨s1, s2⟩ := hSw; go_simp; (try with_reducible rfl))
        (try simp only [Act.put, List.setIfInBounds_toArray, List.set_cons_zero, List.set_cons_succ])
        refine wpE_take (k := 9) (o := ⟨some 52, _, _, _, _, _⟩) (v := ?_) rfl (by kernel_rfl) (by kernel_rfl) (by kernel_rfl) (by kernel_rfl) (fun _ _ _ h => absurd h.1 (by simp)) (Or.inl ⟨by rfl, ?_⟩) (by assumption) ?_
        rotate_left
        · (intro w hSw; obtain ⟨s1, s2⟩ := hSw; go_simp; (try with_reducible rfl))
        (try simp only [Act.put, List.setIfInBounds_toArray, List.set_cons_zero, List.set_cons_succ])
        refine wpE_one (k := 4) (o := ⟨some 47, _, _, _, _, _⟩) rfl (by kernel_rfl) (fun K hK => ?_)
        refine step_call (P := Try.prog) w7.drew (by rfl) 74 [.tmp 43, .tmp 46] _ (by rfl) [.slice a3 d3.length c3, .int .i64 hd.k] (by rfl) (fun _ _ => rfl) ((HE7.out.below (below_drewN w7 _ 1)).num (by omega) _) ?_
        rintro e w8 ⟨a4, c4, rfl, hE, hk⟩
        refine ⟨_, rfl, ?_⟩
        have HBX8 := Aside.mk (own_box (HE7.out.below (below_drewN w7 _ 1)).own hk (show (w7.drew).heap[wr.heap.size]? = _ from HBX7.out) (by decide))
        obtain ⟨d4, hq⟩ : ∃ y, d3 ++ lows (u64N hd.k) 8 = y := ⟨_, rfl⟩
        rw [hq] at hE ⊢
        have HE8 := Aside.mk hE
        have Hd4 := Aside.mk hq
        have d4l : d4.length ≤ 10080 := by rw [← hq, List.length_append, len_lows]; omega
        clear hE hk hq
        refine hK.out _ _ (by obtain ⟨_, z1, z2, _⟩ := box4 HBX8.out; exact ⟨z1, z2⟩) (fun hS => ?_)
        clear hK K
        try simp only [Act.put, List.setIfInBounds_toArray, List.set_cons_zero, List.set_cons_succ]
        refine wpE_one (k := 8) (o := ⟨some 51, _, _, _, _, _⟩) rfl (by kernel_rfl) (fun K hK => ?_)
        refine step_call (P := Try.prog) w8 (by rfl) 74 [.tmp 47, .tmp 50] _ (by rfl) [.slice a4 d4.length c4, .int .i64 hd.s] (by rfl) (fun _ _ => rfl) ((HE8.out).num (by omega) _) ?_
        rintro e w9 ⟨a5, c5, rfl, hE, hk⟩
        refine ⟨_, rfl, ?_⟩
        have HBX9 := Aside.mk (own_box (HE8.out).own hk (show (w8).heap[wr.heap.size]? = _ from HBX8.out) (by decide))
        obtain ⟨d5, hq⟩ : ∃ y, d4 ++ lows (u64N hd.s) 8 = y := ⟨_, rfl⟩
        rw [hq] at hE ⊢
        have HE9 := Aside.mk hE
        have Hd5 := Aside.mk hq
        have d5l : d5.length ≤ 10088 := by rw [← hq, List.length_append, len_lows]; omega
        clear hE hk hq
        refine hK.out _ _ (by obtain ⟨_, z1, z2, _⟩ := box4 HBX9.out; exact ⟨z1, z2⟩) (fun hS => ?_)
        clear hK K
        try simp only [Act.put, List.setIfInBounds_toArray, List.set_cons_zero, List.set_cons_succ]
        refine wpE_one (k := 10) (o := ⟨some 53, _, _, _, _, _⟩) rfl (by kernel_rfl) (fun K hK => ?_)
        refine step_call (P := Try.prog) w9 (by rfl) 74 [.tmp 51, .tmp 52] _ (by rfl) [.slice a5 d5.length c5, .int .i64 1] (by rfl) (fun _ _ => rfl) ((HE9.out).num (by omega) _) ?_
        rintro e w10 ⟨a6, c6, rfl, hE, hk⟩
        refine ⟨_, rfl, ?_⟩
        have HBX10 := Aside.mk (own_box (HE9.out).own hk (show (w9).heap[wr.heap.size]? = _ from HBX9.out) (by decide))
        obtain ⟨d6, hq⟩ : ∃ y, d5 ++ lows (u64N 1) 8 = y := ⟨_, rfl⟩
        rw [hq] at hE ⊢
        have HE10 := Aside.mk hE
        have Hd6 := Aside.mk hq
        have d6l : d6.length ≤ 10096 := by rw [← hq, List.length_append, len_lows]; omega
        clear hE hk hq
        refine hK.out _ _ (by obtain ⟨_, z1, z2, _⟩ := box4 HBX10.out; exact ⟨z1, z2⟩) (fun hS => ?_)
        clear hK K
        try simp only [Act.put, List.setIfInBounds_toArray, List.set_cons_zero, List.set_cons_succ]
        refine wpE_last (k := 11) (o := ⟨some 5, _, _, _, _, _⟩) rfl (by kernel_rfl) (by kernel_rfl) rfl (fun K hK => ?_)
        go_simp
        refine hK.out _ _ ?_
        clear hK K
        refine ⟨rfl, ?_⟩
        have he : fd (i + 1) = d6 := by rw [HNX2.out, HEH.out, ← Hd6.out, ← Hd5.out, ← Hd4.out, ← HD3.out, ← HD2.out]; simp only [List.append_assoc]
        have HQ := Aside.mk he
        clear he hS b0 b1 b2 b3 hd2l hd3l d4l d5l d6l
        go_wp2_with fail
        go_roundw
        case rel =>
          refine ⟨_, _, _, _, ⟨i + 1, by omega, a6, c6, ?_, ?_, ?_⟩, rfl, rfl, rfl, rfl⟩
          · rw [HQ.out]
          · simp
          · rw [HQ.out]; exact HE10
        case measure => simp [intOf]; omega
      | false =>
        rw [hnl] at v3
        have HEH := Aside.mk (show encH hd = lows (u64N hd.name.size) 8 ++ strL hd.name ++ lows (u64N hd.k) 8 ++ lows (u64N hd.s) 8 ++ lows (u64N 0) 8 by unfold encH; rw [hnl]; rfl)
        clear hnl
        go_upto_region 11 with fail
        have hbw := below_new wr (.cells #[.string hd.name, .int .i64 hd.k, .int .i64 hd.s, .bool false] 137)
        have hbx := heap_alloc_new wr (.cells #[.string hd.name, .int .i64 hd.k, .int .i64 hd.s, .bool false] 137)
        generalize wr.alloc (.cells #[.string hd.name, .int .i64 hd.k, .int .i64 hd.s, .bool false] 137) = w5 at *
        have HE5 := Aside.mk (HE.out.below hbw)
        have HBX := Aside.mk hbx
        clear v0 v1 v2 v3 hbw hbx
        obtain ⟨b0, b1, b2, b3⟩ := box4 HBX.out
        refine wp_regionO (fun U : World => U.cell? ⟨wr.heap.size, 0, none⟩ = some (.string hd.name)) 8 9 (by kernel_rfl) rfl ?_
        have hS : (fun U : World => U.cell? ⟨wr.heap.size, 0, none⟩ = some (.string hd.name)) w5.drew := b0
        refine wpE_take (k := 0) (o := ⟨some 35, _, _, _, _, _⟩) (v := ?_) rfl (by kernel_rfl) (by kernel_rfl) (by kernel_rfl) (by kernel_rfl) (fun _ _ _ h => absurd h.1 (by simp)) (Or.inl ⟨by rfl, ?_⟩) (by assumption) ?_
        rotate_left
        · (intro w hSw; (try dsimp only at hSw); go_simp; (try with_reducible rfl))
        (try simp only [Act.put, List.setIfInBounds_toArray, List.set_cons_zero, List.set_cons_succ])
        refine wpE_take (k := 1) (o := ⟨some 36, _, _, _, _, _⟩) (v := ?_) rfl (by kernel_rfl) (by kernel_rfl) (by kernel_rfl) (by kernel_rfl) (fun _ _ _ h => absurd h.1 (by simp)) (Or.inl ⟨by rfl, ?_⟩) (by assumption) ?_
        rotate_left
        · (intro w hSw; (try dsimp only at hSw); go_simp; (try with_reducible rfl))
        (try simp only [Act.put, List.setIfInBounds_toArray, List.set_cons_zero, List.set_cons_succ])
        refine wpE_take (k := 2) (o := ⟨some 37, _, _, _, _, _⟩) (v := ?_) rfl (by kernel_rfl) (by kernel_rfl) (by kernel_rfl) (by kernel_rfl) (fun _ _ _ h => absurd h.1 (by simp)) (Or.inl ⟨by rfl, ?_⟩) (by assumption) ?_
        rotate_left
        · (intro w hSw; (try dsimp only at hSw); go_simp; (try with_reducible rfl))
        (try simp only [Act.put, List.setIfInBounds_toArray, List.set_cons_zero, List.set_cons_succ])
        refine wpE_take (k := 3) (o := ⟨some 38, _, _, _, _, _⟩) (v := ?_) rfl (by kernel_rfl) (by kernel_rfl) (by kernel_rfl) (by kernel_rfl) (fun _ _ _ h => absurd h.1 (by simp)) (Or.inl ⟨by rfl, ?_⟩) (by assumption) ?_
        rotate_left
        · (intro w hSw; (try dsimp only at hSw); go_simp; (try with_reducible rfl))
        (try simp only [Act.put, List.setIfInBounds_toArray, List.set_cons_zero, List.set_cons_succ])
        refine wpE_take (k := 5) (o := ⟨some 40, _, _, _, _, _⟩) (v := ?_) rfl (by kernel_rfl) (by kernel_rfl) (by kernel_rfl) (by kernel_rfl) (fun _ _ _ h => absurd h.1 (by simp)) (Or.inl ⟨by rfl, ?_⟩) (by assumption) ?_
        rotate_left
        · (intro w hSw; (try dsimp only at hSw); go_simp; (try with_reducible rfl))
        (try simp only [Act.put, List.setIfInBounds_toArray, List.set_cons_zero, List.set_cons_succ])
        refine wpE_take (k := 6) (o := ⟨some 41, _, _, _, _, _⟩) (v := ?_) rfl (by kernel_rfl) (by kernel_rfl) (by kernel_rfl) (by kernel_rfl) (fun _ _ _ h => absurd h.1 (by simp)) (Or.inl ⟨by rfl, ?_⟩) (by assumption) ?_
        rotate_left
        · (intro w hSw; (try dsimp only at hSw); go_simp; (try with_reducible rfl))
        (try simp only [Act.put, List.setIfInBounds_toArray, List.set_cons_zero, List.set_cons_succ])
        refine wpE_one (k := 4) (o := ⟨some 39, _, _, _, _, _⟩) rfl (by kernel_rfl) (fun K hK => ?_)
        refine step_call (P := Try.prog) w5.drew (by rfl) 74 [.tmp 35, .tmp 38] _ (by rfl) [.slice a d.length c, .int .i64 (hd.name.size : Int)] (by rfl) (fun _ _ => rfl) ((HE5.out.below (below_drewN w5 _ 1)).num (by have := HHD.out; omega) _) ?_
        rintro e w6 ⟨a2, c2, rfl, hE, hk⟩
        refine ⟨_, rfl, ?_⟩
        have HBX6 := Aside.mk (own_box (HE5.out.below (below_drewN w5 _ 1)).own hk (show w5.drew.heap[wr.heap.size]? = _ from HBX.out) (by decide))
        obtain ⟨d2, hd2⟩ : ∃ x, d ++ lows (u64N hd.name.size) 8 = x := ⟨_, rfl⟩
        rw [hd2] at hE ⊢
        have HE6 := Aside.mk hE
        have HD2 := Aside.mk hd2
        have hd2l : d2.length ≤ 10008 := by rw [← hd2, List.length_append, len_lows]; have := HHD.out; omega
        clear hE hk hd2
        refine hK.out _ _ (by obtain ⟨z0, _, _, _⟩ := box4 HBX6.out; exact z0) (fun hS => ?_)
        clear hK K
        try simp only [Act.put, List.setIfInBounds_toArray, List.set_cons_zero, List.set_cons_succ]
        refine wpE_one (k := 7) (o := ⟨some 42, _, _, _, _, _⟩) rfl (by kernel_rfl) (fun K hK => ?_)
        refine step_app2 (P := Try.prog) w6 (.tmp 39) (.tmp 41) 37 9 (by rfl) (by rfl) w.heap.size 5 (.int .u8 0) 1 1 Try.underlying37 u8info (by rfl) (.slice a2 d2.length c2) d2.length (d2.map (.int .u8)) (by rfl) HE6.out.own (.string hd.name) hd.name.size ((strL hd.name).map (.int .u8)) (by rfl) (src_str (by rfl) _) (by unfold maxLen; omega) (by omega) HE6.out.bel.size ?_
        intro v' w7 hA
        obtain ⟨a3, c3, rfl⟩ := hA.own.form
        obtain ⟨hE, hk, hl⟩ := HE6.out.app (strL_len _) hA
        have HBX7 := Aside.mk (own_box HE6.out.own hk HBX6.out (by decide))
        rw [hl]
        obtain ⟨d3, hd3⟩ : ∃ x, d2 ++ strL hd.name = x := ⟨_, rfl⟩
        rw [hd3] at hE ⊢
        have HE7 := Aside.mk hE
        have HD3 := Aside.mk hd3
        have hd3l : d3.length ≤ 10072 := by rw [← hd3, List.length_append, strL_len]; omega
        clear hE hk hl hA hd3
        refine hK.out _ _ (by obtain ⟨z0, _, _, _⟩ := box4 HBX7.out; exact z0) (fun hS => ?_)
        clear hK K
        try simp only [Act.put, List.setIfInBounds_toArray, List.set_cons_zero, List.set_cons_succ]
        refine wpE_last (k := 8) (o := ⟨some 5, _, _, _, _, _⟩) rfl (by kernel_rfl) (by kernel_rfl) rfl (fun K hK => ?_)
        go_simp
        refine hK.out _ _ ?_
        clear hK K
        refine ⟨rfl, ?_⟩
        clear hS b0 b1 b2 b3
        obtain ⟨b0, b1, b2, b3⟩ := box4 HBX7.out
        go_upto_region 12 with fail
        refine wp_regionO (fun U : World => U.cell? ⟨wr.heap.size, 1, none⟩ = some (.int .i64 hd.k) ∧ U.cell? ⟨wr.heap.size, 2, none⟩ = some (.int .i64 hd.s)) 11 12 (by kernel_rfl) rfl ?_
        have hS : (fun U : World => U.cell? ⟨wr.heap.size, 1, none⟩ = some (.int .i64 hd.k) ∧ U.cell? ⟨wr.heap.size, 2, none⟩ = some (.int .i64 hd.s)) w7.drew := ⟨b1, b2⟩
        refine wpE_take (k := 0) (o := ⟨some 43, _, _, _, _, _⟩) (v := ?_) rfl (by kernel_rfl) (by kernel_rfl) (by kernel_rfl) (by kernel_rfl) (fun _ _ _ h => absurd h.1 (by simp)) (Or.inl ⟨by rfl, ?_⟩) (by assumption) ?_
        rotate_left
        · (intro w hSw; obtain ⟨s1, s2⟩ := hSw; go_simp; (try with_reducible rfl))
        (try simp only [Act.put, List.setIfInBounds_toArray, List.set_cons_zero, List.set_cons_succ])
        refine wpE_take (k := 1) (o := ⟨some 44, _, _, _, _, _⟩) (v := ?_) rfl (by kernel_rfl) (by kernel_rfl) (by kernel_rfl) (by kernel_rfl) (fun _ _ _ h => absurd h.1 (by simp)) (Or.inl ⟨by rfl, ?_⟩) (by assumption) ?_
        rotate_left
        · (intro w hSw; obtain ⟨s1, s2⟩ := hSw; go_simp; (try with_reducible rfl))
        (try simp only [Act.put, List.setIfInBounds_toArray, List.set_cons_zero, List.set_cons_succ])
        refine wpE_take (k := 2) (o := ⟨some 45, _, _, _, _, _⟩) (v := ?_) rfl (by kernel_rfl) (by kernel_rfl) (by kernel_rfl) (by kernel_rfl) (fun _ _ _ h => absurd h.1 (by simp)) (Or.inl ⟨by rfl, ?_⟩) (by assumption) ?_
        rotate_left
        · (intro w hSw; obtain ⟨s1, s2⟩ := hSw; go_simp; (try with_reducible rfl))
        (try simp only [Act.put, List.setIfInBounds_toArray, List.set_cons_zero, List.set_cons_succ])
        refine wpE_take (k := 3) (o := ⟨some 46, _, _, _, _, _⟩) (v := ?_) rfl (by kernel_rfl) (by kernel_rfl) (by kernel_rfl) (by kernel_rfl) (fun _ _ _ h => absurd h.1 (by simp)) (Or.inl ⟨by rfl, ?_⟩) (by assumption) ?_
        rotate_left
        · (intro w hSw; obtain ⟨s1, s2⟩ := hSw; go_simp; (try with_reducible rfl))
        (try simp only [Act.put, List.setIfInBounds_toArray, List.set_cons_zero, List.set_cons_succ])
        refine wpE_take (k := 5) (o := ⟨some 48, _, _, _, _, _⟩) (v := ?_) rfl (by kernel_rfl) (by kernel_rfl) (by kernel_rfl) (by kernel_rfl) (fun _ _ _ h => absurd h.1 (by simp)) (Or.inl ⟨by rfl, ?_⟩) (by assumption) ?_
        rotate_left
        · (intro w hSw; obtain ⟨s1, s2⟩ := hSw; go_simp; (try with_reducible rfl))
        (try simp only [Act.put, List.setIfInBounds_toArray, List.set_cons_zero, List.set_cons_succ])
        refine wpE_take (k := 6) (o := ⟨some 49, _, _, _, _, _⟩) (v := ?_) rfl (by kernel_rfl) (by kernel_rfl) (by kernel_rfl) (by kernel_rfl) (fun _ _ _ h => absurd h.1 (by simp)) (Or.inl ⟨by rfl, ?_⟩) (by assumption) ?_
        rotate_left
        · (intro w hSw; obtain ⟨s1, s2⟩ := hSw; go_simp; (try with_reducible rfl))
        (try simp only [Act.put, List.setIfInBounds_toArray, List.set_cons_zero, List.set_cons_succ])
        refine wpE_take (k := 7) (o := ⟨some 50, _, _, _, _, _⟩) (v := ?_) rfl (by kernel_rfl) (by kernel_rfl) (by kernel_rfl) (by kernel_rfl) (fun _ _ _ h => absurd h.1 (by simp)) (Or.inl ⟨by rfl, ?_⟩) (by assumption) ?_
        rotate_left
        · (intro w hSw; obtain ⟨s1, s2⟩ := hSw; go_simp; (try with_reducible rfl))
        (try simp only [Act.put, List.setIfInBounds_toArray, List.set_cons_zero, List.set_cons_succ])
        refine wpE_take (k := 9) (o := ⟨some 52, _, _, _, _, _⟩) (v := ?_) rfl (by kernel_rfl) (by kernel_rfl) (by kernel_rfl) (by kernel_rfl) (fun _ _ _ h => absurd h.1 (by simp)) (Or.inl ⟨by rfl, ?_⟩) (by assumption) ?_
        rotate_left
        · (intro w hSw; obtain ⟨s1, s2⟩ := hSw; go_simp; (try with_reducible rfl))
        (try simp only [Act.put, List.setIfInBounds_toArray, List.set_cons_zero, List.set_cons_succ])
        refine wpE_one (k := 4) (o := ⟨some 47, _, _, _, _, _⟩) rfl (by kernel_rfl) (fun K hK => ?_)
        refine step_call (P := Try.prog) w7.drew (by rfl) 74 [.tmp 43, .tmp 46] _ (by rfl) [.slice a3 d3.length c3, .int .i64 hd.k] (by rfl) (fun _ _ => rfl) ((HE7.out.below (below_drewN w7 _ 1)).num (by omega) _) ?_
        rintro e w8 ⟨a4, c4, rfl, hE, hk⟩
        refine ⟨_, rfl, ?_⟩
        have HBX8 := Aside.mk (own_box (HE7.out.below (below_drewN w7 _ 1)).own hk (show (w7.drew).heap[wr.heap.size]? = _ from HBX7.out) (by decide))
        obtain ⟨d4, hq⟩ : ∃ y, d3 ++ lows (u64N hd.k) 8 = y := ⟨_, rfl⟩
        rw [hq] at hE ⊢
        have HE8 := Aside.mk hE
        have Hd4 := Aside.mk hq
        have d4l : d4.length ≤ 10080 := by rw [← hq, List.length_append, len_lows]; omega
        clear hE hk hq
        refine hK.out _ _ (by obtain ⟨_, z1, z2, _⟩ := box4 HBX8.out; exact ⟨z1, z2⟩) (fun hS => ?_)
        clear hK K
        try simp only [Act.put, List.setIfInBounds_toArray, List.set_cons_zero, List.set_cons_succ]
        refine wpE_one (k := 8) (o := ⟨some 51, _, _, _, _, _⟩) rfl (by kernel_rfl) (fun K hK => ?_)
        refine step_call (P := Try.prog) w8 (by rfl) 74 [.tmp 47, .tmp 50] _ (by rfl) [.slice a4 d4.length c4, .int .i64 hd.s] (by rfl) (fun _ _ => rfl) ((HE8.out).num (by omega) _) ?_
        rintro e w9 ⟨a5, c5, rfl, hE, hk⟩
        refine ⟨_, rfl, ?_⟩
        have HBX9 := Aside.mk (own_box (HE8.out).own hk (show (w8).heap[wr.heap.size]? = _ from HBX8.out) (by decide))
        obtain ⟨d5, hq⟩ : ∃ y, d4 ++ lows (u64N hd.s) 8 = y := ⟨_, rfl⟩
        rw [hq] at hE ⊢
        have HE9 := Aside.mk hE
        have Hd5 := Aside.mk hq
        have d5l : d5.length ≤ 10088 := by rw [← hq, List.length_append, len_lows]; omega
        clear hE hk hq
        refine hK.out _ _ (by obtain ⟨_, z1, z2, _⟩ := box4 HBX9.out; exact ⟨z1, z2⟩) (fun hS => ?_)
        clear hK K
        try simp only [Act.put, List.setIfInBounds_toArray, List.set_cons_zero, List.set_cons_succ]
        refine wpE_one (k := 10) (o := ⟨some 53, _, _, _, _, _⟩) rfl (by kernel_rfl) (fun K hK => ?_)
        refine step_call (P := Try.prog) w9 (by rfl) 74 [.tmp 51, .tmp 52] _ (by rfl) [.slice a5 d5.length c5, .int .i64 0] (by rfl) (fun _ _ => rfl) ((HE9.out).num (by omega) _) ?_
        rintro e w10 ⟨a6, c6, rfl, hE, hk⟩
        refine ⟨_, rfl, ?_⟩
        have HBX10 := Aside.mk (own_box (HE9.out).own hk (show (w9).heap[wr.heap.size]? = _ from HBX9.out) (by decide))
        obtain ⟨d6, hq⟩ : ∃ y, d5 ++ lows (u64N 0) 8 = y := ⟨_, rfl⟩
        rw [hq] at hE ⊢
        have HE10 := Aside.mk hE
        have Hd6 := Aside.mk hq
        have d6l : d6.length ≤ 10096 := by rw [← hq, List.length_append, len_lows]; omega
        clear hE hk hq
        refine hK.out _ _ (by obtain ⟨_, z1, z2, _⟩ := box4 HBX10.out; exact ⟨z1, z2⟩) (fun hS => ?_)
        clear hK K
        try simp only [Act.put, List.setIfInBounds_toArray, List.set_cons_zero, List.set_cons_succ]
        refine wpE_last (k := 11) (o := ⟨some 5, _, _, _, _, _⟩) rfl (by kernel_rfl) (by kernel_rfl) rfl (fun K hK => ?_)
        go_simp
        refine hK.out _ _ ?_
        clear hK K
        refine ⟨rfl, ?_⟩
        have he : fd (i + 1) = d6 := by rw [HNX2.out, HEH.out, ← Hd6.out, ← Hd5.out, ← Hd4.out, ← HD3.out, ← HD2.out]; simp only [List.append_assoc]
        have HQ := Aside.mk he
        clear he hS b0 b1 b2 b3 hd2l hd3l d4l d5l d6l
        go_wp2_with fail
        go_roundw
        case rel =>
          refine ⟨_, _, _, _, ⟨i + 1, by omega, a6, c6, ?_, ?_, ?_⟩, rfl, rfl, rfl, rfl⟩
          · rw [HQ.out]
          · simp
          · rw [HQ.out]; exact HE10
        case measure => simp [intOf]; omega
    · obtain rfl : i = t.hs.length := by omega
      have hd7 := HFL.out t.hs.length
      obtain ⟨d7, hd7e⟩ : ∃ x, fd t.hs.length = x := ⟨_, rfl⟩
      rw [hd7e] at HE hd7 HFE ⊢
      clear hd7e
      obtain ⟨t0, t1, t2⟩ := box3t HE.out.box
      have HN := Aside.mk (HE.out.num (by omega) t.rows)
      obtain ⟨d8, hd8⟩ : ∃ x, d7 ++ lows (u64N t.rows) 8 = x := ⟨_, rfl⟩
      rw [hd8] at HN
      have hd8l : d8.length ≤ 10008 := by rw [← hd8, List.length_append, len_lows]; omega
      have HD8 := Aside.mk hd8
      clear hd8
      go_upto_region 15 with (go_at_call 74; refine HN.out.mono ?_; rintro e w4 ⟨a1, c1, rfl, hE, _⟩; have HE1 := Aside.mk hE; clear hE t0 t1 t2 HN)
      clear HE
      obtain ⟨t0, t1, t2⟩ := box3t HE1.out.box
      have hcl64 : t.cs.length ≤ 64 := by have := HCH.out; omega
      go_wp2_with fail
      clear t0 t1 t2
      obtain ⟨fc, hfc⟩ : ∃ f : Nat → List Int, f = fun i => d8 ++ (t.cs.take i).flatMap encC := ⟨_, rfl⟩
      have HC0 := Aside.mk (show fc 0 = d8 by rw [hfc]; simp)
      have HCN2 := Aside.mk (show ∀ i (h : i < t.cs.length), fc (i + 1) = fc i ++ encC t.cs[i] from fun i h => by rw [hfc]; dsimp only; rw [flat_take encC t.cs h, List.append_assoc])
      have HCL := Aside.mk (show ∀ i, (fc i).length ≤ 64010008 from fun i => by
        have hfl := flat_sub encC t.cs i
        have htt := HT.out.tot
        rw [hfc, List.length_append]; omega)
      have HCE := Aside.mk (show fc t.cs.length = d8 ++ t.cs.flatMap encC by rw [hfc]; dsimp only; rw [List.take_length])
      clear hfc
      rw [← HC0.out] at HE1 ⊢
      go_loopw [5, 10, 12, 14, 62] (fun bv _ _ _ iv wr => ∃ (i : Nat) (a : Option Addr) (c : Nat), i ≤ t.cs.length ∧ bv = .slice a (fc i).length c ∧ iv = .int .i64 (i : Int) ∧ Aside (EnI t H C (fc i) a c w wr)) (fun _ _ _ _ iv _ => t.cs.length - (intOf iv).toNat)
      case atStart => exact ⟨0, a1, c1, by omega, rfl, rfl, ⟨HE1.out⟩⟩
      case round =>
        clear HE1
        obtain ⟨i, a, c, hi, rfl, rfl, HE⟩ := hrel
        by_cases hlt : i < t.cs.length
        · obtain ⟨g, off, B, D, E, X, va, e1, q1, q2, h8, hrc⟩ := HR.out.c.at hlt
          have hsm := HT.out.sm _ (List.getElem_mem hlt)
          have hdn := HCL.out i
          have HNX2 := Aside.mk (HCN2.out i hlt)
          obtain ⟨d, hdd⟩ : ∃ x, fc i = x := ⟨_, rfl⟩
          rw [hdd] at HE hdn HNX2 ⊢
          clear hdd
          obtain ⟨y0, y1, y2, y3, y4, y5, y6, y7⟩ := h8.below HE.out.bel
          have HRC := Aside.mk hrc
          clear hrc h8
          obtain ⟨Ca, Cc⟩ := C
          dsimp only at e1 q1 q2
          subst e1
          generalize t.cs[i] = cl at *
          obtain ⟨sm1, sm2, sm3, sm4⟩ := hsm
          go_upto_region 18 with fail
          have hbw := below_new wr (.cells #[.int .i64 cl.k, .int .i64 cl.s, .int .i64 cl.n, .int .i64 cl.m, .slice B.a cl.bits.length B.c, .slice D.a cl.data.length D.c, .slice E.a cl.ends.length E.c, .slice X.a cl.words.length X.c] 43)
          have hbx := heap_alloc_new wr (.cells #[.int .i64 cl.k, .int .i64 cl.s, .int .i64 cl.n, .int .i64 cl.m, .slice B.a cl.bits.length B.c, .slice D.a cl.data.length D.c, .slice E.a cl.ends.length E.c, .slice X.a cl.words.length X.c] 43)
          generalize wr.alloc (.cells #[.int .i64 cl.k, .int .i64 cl.s, .int .i64 cl.n, .int .i64 cl.m, .slice B.a cl.bits.length B.c, .slice D.a cl.data.length D.c, .slice E.a cl.ends.length E.c, .slice X.a cl.words.length X.c] 43) = w5 at *
          have HE5 := Aside.mk (HE.out.below hbw)
          have HBX := Aside.mk hbx
          clear y0 y1 y2 y3 y4 y5 y6 y7 hbw hbx HE
          obtain ⟨b0, b1, b2, b3, b4, b5, b6, b7⟩ := box8 HBX.out
          go_wp2_with (at_builtin; refine wpList_app2 _ rfl _ _ 37 37 rfl w.heap.size 5 (.int .u8 0) 1 1 Try.underlying37 u8info rfl (.slice a d.length c) d.length (d.map (.int .u8)) rfl HE5.out.own _ cl.bits.length (cl.bits.map (.int .u8)) rfl ((HRC.out.bits.below HE5.out.bel).src Try.underlying37 (fun u hu => by obtain ⟨x, _, rfl⟩ := List.mem_map.1 hu; rfl)) (by unfold maxLen; omega) (by omega) HE5.out.bel.size ?_)
          intro v' w6 hA
          obtain ⟨a2, c2, rfl⟩ := hA.own.form
          obtain ⟨hE, hk, hl⟩ := HE5.out.app rfl hA
          have HBX6 := Aside.mk (own_box HE5.out.own hk HBX.out (by decide))
          rw [hl]
          obtain ⟨d2, hd2⟩ : ∃ x, d ++ cl.bits = x := ⟨_, rfl⟩
          rw [hd2] at hE ⊢
          have HE6 := Aside.mk hE
          have HD2 := Aside.mk hd2
          have hd2l : d2.length ≤ 66010008 := by rw [← hd2, List.length_append]; omega
          clear hE hk hl hA hd2 HE5 HBX b0 b1 b2 b3 b4 b5 b6 b7
          obtain ⟨b0, b1, b2, b3, b4, b5, b6, b7⟩ := box8 HBX6.out
          go_wp2_with fail
          clear b0 b1 b2 b3 b4 b5 b6 b7
          obtain ⟨fe, hfe⟩ : ∃ f : Nat → List Int, f = fun i => d2 ++ encE (cl.ends.take i) := ⟨_, rfl⟩
          have HQ0 := Aside.mk (show fe 0 = d2 by rw [hfe]; simp [encE])
          have HQN := Aside.mk (show ∀ i (h : i < cl.ends.length), fe (i + 1) = fe i ++ lows (u64N cl.ends[i]) 8 from fun i h => by rw [hfe]; dsimp only; unfold encE; rw [flat_take _ _ h, List.append_assoc])
          have HQL := Aside.mk (show ∀ i, (fe i).length ≤ 68010008 from fun i => by rw [hfe, List.length_append, encE_len, List.length_take]; omega)
          have HQE := Aside.mk (show fe cl.ends.length = d2 ++ encE cl.ends by rw [hfe]; dsimp only; rw [List.take_length])
          clear hfe
          rw [← HQ0.out] at HE6 ⊢
          go_loopw [5, 12, 74] (fun bv _ jv wq => ∃ (j : Nat) (a' : Option Addr) (c' : Nat), j ≤ cl.ends.length ∧ bv = .slice a' (fe j).length c' ∧ jv = .int .i64 (j : Int) ∧ Aside (EnI t H ⟨some ⟨g, off, none⟩, Cc⟩ (fe j) a' c' w wq ∧ wq.heap[wr.heap.size]? = some (.cells #[.int .i64 cl.k, .int .i64 cl.s, .int .i64 cl.n, .int .i64 cl.m, .slice B.a cl.bits.length B.c, .slice D.a cl.data.length D.c, .slice E.a cl.ends.length E.c, .slice X.a cl.words.length X.c] 43 (0, 0)))) (fun _ _ jv _ => cl.ends.length - (intOf jv).toNat)
          case atStart => exact ⟨0, a2, c2, by omega, rfl, rfl, ⟨HE6.out, HBX6.out⟩⟩
          case round =>
            clear HE6 HBX6
            obtain ⟨j, a', c', hj, rfl, rfl, HJ⟩ := hrel
            by_cases hjl : j < cl.ends.length
            · obtain ⟨ge, oe, ce, ee, _, _, hcc⟩ := (HRC.out.ends.below HJ.out.1.bel).some_ (by simpa using (show 0 < cl.ends.length by omega))
              have hxe := hcc j _ (by rw [List.getElem?_map, List.getElem?_eq_getElem hjl]; rfl)
              simp only [Value.slice.injEq, true_and] at ee
              obtain ⟨hEa, hEc⟩ := ee
              obtain ⟨Ea, Ec⟩ := E
              dsimp only at hEa hEc
              subst hEa
              subst hEc
              have HNX3 := Aside.mk (HQN.out j hjl)
              have hel := HQL.out j
              clear hcc
              obtain ⟨de, hde⟩ : ∃ x, fe j = x := ⟨_, rfl⟩
              rw [hde] at HJ hel HNX3 ⊢
              clear hde
              have hnn := HJ.out.1.num (by omega) cl.ends[j]
              rw [← HNX3.out] at hnn
              have HN := Aside.mk hnn
              clear hnn
              go_wp2_with (go_at_call 74; refine HN.out.mono ?_; rintro e w7 ⟨a7, c7, rfl, hE, hk⟩; have HJ7 := Aside.mk (And.intro hE (own_box HJ.out.1.own hk HJ.out.2 (by decide))); clear hE hk)
              go_roundw
              case rel =>
                exact ⟨j + 1, a7, c7, by omega, rfl, by simp, HJ7⟩
              case measure => simp [intOf]; omega
            · obtain rfl : j = cl.ends.length := by omega
              rw [HQE.out] at HJ ⊢
              have hd3l : (d2 ++ encE cl.ends).length ≤ 68010008 := by rw [List.length_append, encE_len]; omega
              obtain ⟨d3, hd3⟩ : ∃ x, d2 ++ encE cl.ends = x := ⟨_, rfl⟩
              rw [hd3] at HJ hd3l ⊢
              have HD3 := Aside.mk hd3
              clear hd3
              obtain ⟨b0, b1, b2, b3, b4, b5, b6, b7⟩ := box8 HJ.out.2
              have HE7 := Aside.mk HJ.out.1
              go_wp2_with (at_builtin; refine wpList_app2 _ rfl _ _ 37 37 rfl w.heap.size 5 (.int .u8 0) 1 1 Try.underlying37 u8info rfl (.slice a' d3.length c') d3.length (d3.map (.int .u8)) rfl HE7.out.own _ cl.data.length (cl.data.map (.int .u8)) rfl ((HRC.out.data.below HE7.out.bel).src Try.underlying37 (fun u hu => by obtain ⟨x, _, rfl⟩ := List.mem_map.1 hu; rfl)) (by unfold maxLen; omega) (by omega) HE7.out.bel.size ?_)
              intro v' w8 hA
              obtain ⟨a4, c4, rfl⟩ := hA.own.form
              obtain ⟨hE, hk, hl⟩ := HE7.out.app rfl hA
              have HBX8 := Aside.mk (own_box HE7.out.own hk HJ.out.2 (by decide))
              rw [hl]
              obtain ⟨d4, hd4⟩ : ∃ x, d3 ++ cl.data = x := ⟨_, rfl⟩
              rw [hd4] at hE ⊢
              have HE8 := Aside.mk hE
              have HD4 := Aside.mk hd4
              have hd4l : d4.length ≤ 70010008 := by rw [← hd4, List.length_append]; omega
              clear hE hk hl hA hd4 HE7 HJ b0 b1 b2 b3 b4 b5 b6 b7
              obtain ⟨b0, b1, b2, b3, b4, b5, b6, b7⟩ := box8 HBX8.out
              by_cases hk16 : cl.k = 16
              rotate_left
              · have hkk : (cl.k == 16) = false := by simpa using hk16
                have HEC := Aside.mk (show encC cl = cl.bits ++ encE cl.ends ++ cl.data by unfold encC; rw [if_neg hk16, List.append_nil])
                have HQ := Aside.mk (show fc (i + 1) = d4 by rw [HNX2.out, HEC.out, ← HD4.out, ← HD3.out, ← HD2.out]; simp only [List.append_assoc])
                clear hk16
                go_wp2_with fail
                go_roundw
                case rel => exact ⟨i + 1, a4, c4, by omega, by rw [HQ.out], by simp, ⟨by rw [HQ.out]; exact HE8.out⟩⟩
                case measure => simp [intOf]; omega
              · have hkk : (cl.k == 16) = true := by simpa using hk16
                have HEC := Aside.mk (show encC cl = cl.bits ++ encE cl.ends ++ cl.data ++ (lows (u64N cl.words.length) 8 ++ encW cl.words) by unfold encC; rw [if_pos hk16])
                clear hk16
                have hnn := HE8.out.num (by omega) (cl.words.length : Int)
                obtain ⟨d5, hd5⟩ : ∃ x, d4 ++ lows (u64N cl.words.length) 8 = x := ⟨_, rfl⟩
                rw [hd5] at hnn
                have hd5l : d5.length ≤ 70010016 := by rw [← hd5, List.length_append, len_lows]; omega
                have HD5 := Aside.mk hd5
                have HN := Aside.mk hnn
                clear hd5 hnn
                go_upto_region 27 with (go_at_call 74; refine HN.out.mono ?_; rintro e w9 ⟨a5, c5, rfl, hE, hk⟩; have HBX9 := Aside.mk (own_box HE8.out.own hk HBX8.out (by decide)); have HE9 := Aside.mk hE; clear hE hk b0 b1 b2 b3 b4 b5 b6 b7 HN)
                clear HE8 HBX8
                obtain ⟨b0, b1, b2, b3, b4, b5, b6, b7⟩ := box8 HBX9.out
                go_wp2_with fail
                clear b0 b1 b2 b3 b4 b5 b6 b7
                obtain ⟨fw, hfw⟩ : ∃ f : Nat → List Int, f = fun i => d5 ++ encW (cl.words.take i) := ⟨_, rfl⟩
                have HW0 := Aside.mk (show fw 0 = d5 by rw [hfw]; simp [encW])
                have HWN := Aside.mk (show ∀ i (h : i < cl.words.length), fw (i + 1) = fw i ++ txtL cl.words[i] from fun i h => by rw [hfw]; dsimp only; unfold encW; rw [flat_take _ _ h, List.append_assoc])
                have HWL := Aside.mk (show ∀ i, (fw i).length ≤ 75010016 from fun i => by
                  have := flat_sub txtL cl.words i
                  unfold encW at sm4
                  rw [hfw, List.length_append]; unfold encW; omega)
                have HWE := Aside.mk (show fw cl.words.length = d5 ++ encW cl.words by rw [hfw]; dsimp only; rw [List.take_length])
                clear hfw
                rw [← HW0.out] at HE9 ⊢
                go_loopw [5, 14, 98] (fun bv _ jv wq => ∃ (j : Nat) (a' : Option Addr) (c' : Nat), j ≤ cl.words.length ∧ bv = .slice a' (fw j).length c' ∧ jv = .int .i64 (j : Int) ∧ Aside (EnI t H ⟨some ⟨g, off, none⟩, Cc⟩ (fw j) a' c' w wq)) (fun _ _ jv _ => cl.words.length - (intOf jv).toNat)
                case atStart => exact ⟨0, a5, c5, by omega, rfl, rfl, ⟨HE9.out⟩⟩
                case round =>
                  clear HE9 HBX9
                  obtain ⟨j, a', c', hj, rfl, rfl, HJ⟩ := hrel
                  by_cases hjl : j < cl.words.length
                  · have hwr := HRC.out.below HJ.out.bel
                    obtain ⟨gx, ox, cx, ex, _, _, hcx⟩ := hwr.words.some_ (by rw [hwr.words.1]; omega)
                    obtain ⟨wa, wc, hv, hrw⟩ := HRC.out.each.2 j _ (List.getElem?_eq_getElem hjl)
                    have hxe := hcx j _ hv
                    simp only [Value.slice.injEq, true_and] at ex
                    obtain ⟨hXa, hXc⟩ := ex
                    have HNX3 := Aside.mk (HWN.out j hjl)
                    have hel := HWL.out j
                    have hel2 := HWL.out (j + 1)
                    have HRW := Aside.mk hrw
                    clear hwr hcx hv hrw
                    obtain ⟨Xa, Xc⟩ := X
                    dsimp only at hXa hXc
                    subst hXa
                    subst hXc
                    obtain ⟨de, hde⟩ : ∃ x, fw j = x := ⟨_, rfl⟩
                    rw [hde] at HJ hel HNX3 ⊢
                    clear hde
                    obtain ⟨wd, hwd⟩ : ∃ x, cl.words[j] = x := ⟨_, rfl⟩
                    rw [hwd] at HRW HNX3 hxe
                    clear hwd
                    have hlen : de.length + 8 + wd.length ≤ 75010016 := by rw [HNX3.out] at hel2; unfold txtL at hel2; rw [List.length_append, List.length_append, len_lows] at hel2; omega
                    have hnn := HJ.out.num (by omega) (wd.length : Int)
                    obtain ⟨d6, hd6⟩ : ∃ x, de ++ lows (u64N wd.length) 8 = x := ⟨_, rfl⟩
                    rw [hd6] at hnn
                    have hd6l : d6.length + wd.length ≤ 75010016 := by rw [← hd6, List.length_append, len_lows]; omega
                    have HD6 := Aside.mk hd6
                    have HN := Aside.mk hnn
                    clear hd6 hnn hel hel2 hlen
                    go_wp2_with (first
                      | (go_at_call 74; refine HN.out.mono ?_; rintro e w10 ⟨a6, c6, rfl, hE, hk⟩; have HE10 := Aside.mk hE; clear hE hk HN)
                      | (at_builtin; refine wpList_app2 _ rfl _ _ 37 37 rfl w.heap.size 5 (.int .u8 0) 1 1 Try.underlying37 u8info rfl (.slice a6 d6.length c6) d6.length (d6.map (.int .u8)) rfl HE10.out.own _ wd.length (wd.map (.int .u8)) rfl ((HRW.out.below HE10.out.bel).src Try.underlying37 (fun u hu => by obtain ⟨x, _, rfl⟩ := List.mem_map.1 hu; rfl)) (by unfold maxLen; omega) (by omega) HE10.out.bel.size ?_))
                    intro v' w11 hA
                    obtain ⟨a7, c7, rfl⟩ := hA.own.form
                    obtain ⟨hE, hk, hl⟩ := HE10.out.app rfl hA
                    rw [hl]
                    have HQW := Aside.mk (show fw (j + 1) = d6 ++ wd by rw [HNX3.out, ← HD6.out]; unfold txtL; rw [List.append_assoc])
                    rw [← HQW.out] at hE ⊢
                    have HE11 := Aside.mk hE
                    clear hE hk hl hA
                    go_wp2_with fail
                    go_roundw
                    case rel => exact ⟨j + 1, a7, c7, by omega, rfl, by simp, HE11⟩
                    case measure => simp [intOf]; omega
                  · obtain rfl : j = cl.words.length := by omega
                    rw [HWE.out] at HJ ⊢
                    have HQ := Aside.mk (show fc (i + 1) = d5 ++ encW cl.words by rw [HNX2.out, HEC.out, ← HD5.out, ← HD4.out, ← HD3.out, ← HD2.out]; simp only [List.append_assoc])
                    rw [← HQ.out] at HJ ⊢
                    go_wp2_with fail
                    go_roundw
                    case rel => exact ⟨i + 1, a', c', by omega, rfl, by simp, HJ⟩
                    case measure => simp [intOf]; omega
        · obtain rfl : i = t.cs.length := by omega
          have hbl := HCL.out t.cs.length
          have heb : fc t.cs.length = encB t := by rw [HCE.out, ← HD8.out, HFE.out, ← HD1.out]; unfold encB; simp only [List.append_assoc]
          rw [heb] at HE hbl ⊢
          have HSM := Aside.mk (fsum_any (encB t) (encB_bytes HT.out.ok.cok) ⟨a, c⟩ wr HE.out.own.rd)
          have HET := Aside.mk (show encT t = encB t ++ lows (sumN (encB t)) 8 from rfl)
          have hnn := fnumu_any w.heap.size (encB t) (sumN (encB t)) (sumN_lt _) (by omega) a c wr HE.out.own HE.out.bel.size
          rw [← HET.out] at hnn
          have HN := Aside.mk hnn
          clear hnn heb
          unfold SumP at HSM
          generalize sumN (encB t) = sm at *
          obtain ⟨et, het⟩ : ∃ x, encT t = x := ⟨_, rfl⟩
          rw [het] at HN
          have HQT := Aside.mk het
          clear het HET
          generalize encB t = eb at *
          go_wp2_with (first
            | (go_at_call 76; refine HSM.out.mono ?_; rintro e w12 ⟨rfl, rfl⟩)
            | (go_at_call 75; refine HN.out.mono ?_; rintro e w13 ⟨a8, c8, rfl, ho, hk⟩; have HO := Aside.mk ho; have HB13 := Aside.mk (HE.out.bel.trans (hk.to_below HE.out.bel.size (fun k e => (HE.out.own.lt k e).1))); clear ho hk))
          go_ret2
          exact ⟨HB13.out, .inl ⟨HTP.out, a8, c8, by rw [HQT.out]; rfl, by rw [HQT.out]; exact HO.out⟩⟩
end Go.Proofs.Ytmhjjhaipcgbiaa


namespace Go.Proofs.Ytmhjjhaipcgbiaa
open Go.RowKit
set_option linter.unusedVariables false
set_option linter.unusedSimpArgs false
set_option maxRecDepth 100000
set_option maxHeartbeats 1000000
def p1 (X : List Int) : RS := takeS 4 ⟨X, false⟩
def pH (X : List Int) : List Hd × RS := headsR (numR (p1 X)).toNat (numS (p1 X))
def pRows (X : List Int) : Int := numR (pH X).2
def p3 (X : List Int) : RS := numS (pH X).2
def pC (X : List Int) : List Col × RS := colsR (pRows X) (pH X).1 (p3 X)
def pT (X : List Int) : Tb := ⟨(pH X).1, pRows X, (pC X).1⟩
theorem parse_of {t : Tb} (hT : TableP t) (hE : TbE t) : takeL 4 ⟨encB t, false⟩ = [77, 84, 71, 49] ∧ (pH (encB t)).1 = t.hs ∧ (p3 (encB t)).short = false ∧ pT (encB t) = t ∧ (pC (encB t)).2.short = false := by
  obtain ⟨⟨hl1, hl2, hnm, hty, _⟩, hlen, hcols⟩ := hT
  have hrows : 0 ≤ t.rows ∧ t.rows ≤ 4611686018427387904 := by
    have h0 : 0 < t.cs.length := by omega
    obtain ⟨_, _, e, hz⟩ := hcols 0 h0 (by omega)
    have hm := check_zero hz
    have hml := mask_len hm.2.1
    have := (hE.sm _ (List.getElem_mem h0)).b
    rw [hm.2.2.1, e] at hml
    omega
  have e : encB t = [77, 84, 71, 49] ++ (lows (u64N t.hs.length) 8 ++ (t.hs.flatMap encH ++ (lows (u64N t.rows) 8 ++ (t.cs.flatMap encC ++ [])))) := by
    unfold encB; simp only [List.append_assoc, List.append_nil]
  obtain ⟨a1, a2⟩ := take_of (n := 4) (X := [77, 84, 71, 49]) rfl (lows (u64N t.hs.length) 8 ++ (t.hs.flatMap encH ++ (lows (u64N t.rows) 8 ++ (t.cs.flatMap encC ++ []))))
  obtain ⟨b1, b2⟩ := numi_of (x := (t.hs.length : Int)) (by omega) (by omega) (t.hs.flatMap encH ++ (lows (u64N t.rows) 8 ++ (t.cs.flatMap encC ++ [])))
  have hh := heads_of t.hs (lows (u64N t.rows) 8 ++ (t.cs.flatMap encC ++ [])) (fun h hh => ⟨by have := hnm h hh; exact name_small this, hty h hh⟩)
  obtain ⟨c1, c2⟩ := numi_of (x := t.rows) hrows.1 hrows.2 (t.cs.flatMap encC ++ [])
  have hc := cols_of t.rows t.hs t.cs [] hlen hE.ok.cok hcols
  have hp1 : p1 (encB t) = ⟨lows (u64N t.hs.length) 8 ++ (t.hs.flatMap encH ++ (lows (u64N t.rows) 8 ++ (t.cs.flatMap encC ++ []))), false⟩ := by unfold p1; rw [e, a2]
  have hpH : pH (encB t) = (t.hs, ⟨lows (u64N t.rows) 8 ++ (t.cs.flatMap encC ++ []), false⟩) := by unfold pH; rw [hp1, b1, b2, Int.toNat_natCast, hh]
  have hpr : pRows (encB t) = t.rows := by unfold pRows; rw [hpH, c1]
  have hp3 : p3 (encB t) = ⟨t.cs.flatMap encC ++ [], false⟩ := by unfold p3; rw [hpH, c2]
  have hpC : pC (encB t) = (t.cs, ⟨[], false⟩) := by unfold pC; rw [hpr, hpH, hp3, hc]
  refine ⟨by rw [e, a1], by rw [hpH], by rw [hp3], ?_, by rw [hpC]⟩
  unfold pT
  rw [hpH, hpr, hpC]
theorem enc_split {t : Tb} {bs : List Int} {n : Nat} (hn : n + 8 = bs.length) (h : encT t = bs) : encB t = bs.take n := by
  subst h
  unfold encT at hn ⊢
  rw [List.length_append, lows_len] at hn
  have hn' : n = (encB t).length := by omega
  subst hn'
  exact (List.take_left' rfl).symm
theorem heads_fit {X : List Int} (hb : IsBytes X) (hl : X.length ≤ 1900000) : (pH X).1.length ≤ 10000000 ∧ NamesOK (pH X).1 ∧ (∀ h ∈ (pH X).1, (0 ≤ h.k ∧ h.k ≤ 4611686018427387904) ∧ 0 ≤ h.s ∧ h.s ≤ 4611686018427387904) ∧ IsBytes (p3 X).rest ∧ (p3 X).rest.length ≤ 1900000 := by
  have h1 : IsBytes (p1 X).rest := takeS_bytes (s := ⟨X, false⟩) hb 4
  have h2 := takeS_le 4 ⟨X, false⟩
  have h3 := numS_le (p1 X)
  obtain ⟨q1, q2, q3, q4, _⟩ := headsR_facts (numR (p1 X)).toNat (numS (p1 X)) (numS_bytes h1)
  have hp : (p1 X).rest.length ≤ X.length := h2
  have h4 := numS_le (pH X).2
  have e4 : (p3 X).rest.length ≤ (pH X).2.rest.length := h4
  have e5 : (pH X).2.rest.length ≤ (numS (p1 X)).rest.length := q3
  have e6 : (pH X).1.length + (pH X).2.rest.length ≤ (numS (p1 X)).rest.length + 1 := q2
  refine ⟨by omega, fun h hh => ?_, fun h hh => (q1 h hh).2, numS_bytes q4, by omega⟩
  have := (q1 h hh).1
  omega
theorem table_fit {X : List Int} (hb : IsBytes X) (hl : X.length ≤ 1900000) (hs : SchemaP (pH X).1) : TbE (pT X) := by
  obtain ⟨a1, a2, a3, a4, a5⟩ := heads_fit hb hl
  obtain ⟨q1, q2, q3, _⟩ := colsR_facts (numR_bd (pH X).2) (pH X).1 (p3 X) a4 a5 a3
  have hl64 := hs.2.1
  have e1 : (pC X).1.length = (pH X).1.length := q1
  have e3 : ((pC X).1.flatMap encC).length + (pC X).2.rest.length ≤ (p3 X).rest.length + 32 * (pH X).1.length := q3
  refine ⟨⟨a1, ?_, a2, fun c hc => (q2 c hc).1⟩, fun c hc => (q2 c hc).2, ?_⟩
  · show (pC X).1.length ≤ _
    omega
  · show ((pC X).1.flatMap encC).length ≤ _
    omega
end Go.Proofs.Ytmhjjhaipcgbiaa
