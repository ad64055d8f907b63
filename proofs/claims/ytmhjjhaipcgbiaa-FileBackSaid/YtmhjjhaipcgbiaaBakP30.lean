/- Texts of this claim, one behind the other: Gh, Gc, Gp. -/
import Derived.Test.YtmhjjhaipcgbiaaBakP29
import Derived.Test.YtmhjjhaipcgbiaaBakP28
import Derived.Test.YtmhjjhaipcgbiaaBakP7
import Derived.Test.YtmhjjhaipcgbiaaBakP23
import Derived.Test.YtmhjjhaipcgbiaaBakP18
import Derived.Test.YtmhjjhaipcgbiaaBakP25
import Derived.Test.YtmhjjhaipcgbiaaBakP19

namespace Go.Proofs.Ytmhjjhaipcgbiaa
open Go.RowKit
set_option linter.unusedVariables false
set_option linter.unusedSimpArgs false
set_option maxRecDepth 100000
set_option maxHeartbeats 1000000
def hS2 (s : RS) : RS := takeS (numR s) (numS s)
def hS3 (s : RS) : RS := numS (hS2 s)
def hS4 (s : RS) : RS := numS (hS3 s)
def hS5 (s : RS) : RS := numS (hS4 s)
def hdR (s : RS) : Hd := ⟨strOfNums (takeL (numR s) (numS s)), numR (hS2 s), numR (hS3 s), decide (numR (hS4 s) = 1)⟩
def headsR : Nat → RS → List Hd × RS
  | 0, s => ([], s)
  | n + 1, s => if s.short then ([], s) else (hdR s :: (headsR n (hS5 s)).1, (headsR n (hS5 s)).2)
theorem takeS_le (n : Int) (s : RS) : (takeS n s).rest.length ≤ s.rest.length := by
  unfold takeS
  split
  · exact Nat.le_refl _
  · rw [List.length_drop]; omega
theorem takeS_ok {n : Int} {s : RS} (h : (takeS n s).short = false) : s.short = false ∧ 0 ≤ n ∧ (takeS n s).rest.length + n.toNat = s.rest.length := by
  unfold takeS at h ⊢
  split at h
  · cases h
  · rename_i hb
    rw [if_neg hb]
    unfold takeB at hb
    simp only [Bool.or_eq_true, decide_eq_true_eq, not_or, Bool.not_eq_true, Int.not_lt] at hb
    obtain ⟨⟨hs, h0⟩, h1⟩ := hb
    refine ⟨hs, h0, ?_⟩
    rw [List.length_drop]; omega
theorem numS_le (s : RS) : (numS s).rest.length ≤ s.rest.length := by
  unfold numS
  split
  · exact takeS_le _ _
  · exact takeS_le _ _
theorem numS_ok {s : RS} (h : (numS s).short = false) : s.short = false ∧ (numS s).rest.length + 8 = s.rest.length ∧ numX s ≤ 4611686018427387904 := by
  unfold numS at h ⊢
  split at h
  · cases h
  · rename_i hb
    rw [if_neg hb]
    obtain ⟨h1, _, h2⟩ := takeS_ok h
    exact ⟨h1, h2, by omega⟩
theorem numR_bd (s : RS) : 0 ≤ numR s ∧ numR s ≤ 4611686018427387904 := by
  unfold numR
  split <;> omega
theorem hS5_le (s : RS) : (hS5 s).rest.length ≤ s.rest.length := by
  have h1 := numS_le s
  have h2 := takeS_le (numR s) (numS s)
  have h3 := numS_le (hS2 s)
  have h4 := numS_le (hS3 s)
  have h5 := numS_le (hS4 s)
  unfold hS5
  unfold hS4 at *
  unfold hS3 at *
  unfold hS2 at *
  omega
theorem hS5_ok {s : RS} (h : (hS5 s).short = false) : (hS5 s).rest.length + 32 ≤ s.rest.length := by
  obtain ⟨a1, a2, _⟩ := numS_ok h
  obtain ⟨b1, b2, _⟩ := numS_ok a1
  obtain ⟨c1, c2, _⟩ := numS_ok b1
  obtain ⟨d1, d2, d3⟩ := takeS_ok c1
  obtain ⟨e1, e2, _⟩ := numS_ok d1
  unfold hS5
  unfold hS4 at *
  unfold hS3 at *
  unfold hS2 at *
  omega
structure HdI (w : World) (b : Nat) (s0 : RS) (fin : List Hd × RS) (m : Nat) (hs : List Hd) (s : RS) (a : Option Addr) (c : Nat) (A : SL) (W : World) : Prop where
  own : Own W w.heap.size 137 4 (.slice a hs.length c) hs.length (hs.flatMap hdCells)
  rd : RdR W b A s
  kept : Kept (fun k => k = b) w W
  lt : b < w.heap.size
  hds : hs ++ (headsR m s).1 = fin.1
  fin : (headsR m s).2 = fin.2
  few : hs.length ≤ s0.rest.length + 1
  few2 : s.short = false → hs.length + s.rest.length ≤ s0.rest.length
  le : s.rest.length ≤ s0.rest.length
theorem HdI.next {w : World} {b : Nat} {s0 : RS} {fin : List Hd × RS} {m : Nat} {hs : List Hd} {s : RS} {a a' : Option Addr} {c c' : Nat} {A A' : SL} {W W' : World} (h : HdI w b s0 fin (m + 1) hs s a c A W) (hs0 : s.short = false)
    (ho : Own W' w.heap.size 137 4 (.slice a' (hs.length + 1) c') (hs.length + 1) (hs.flatMap hdCells ++ hdCells (hdR s))) (hr : RdR W' b A' (hS5 s)) (hk : Kept (fun k => k = b) w W') : HdI w b s0 fin m (hs ++ [hdR s]) (hS5 s) a' c' A' W' := by
  have e1 : (headsR (m + 1) s).1 = hdR s :: (headsR m (hS5 s)).1 := by rw [headsR, if_neg (by rw [hs0]; decide)]
  have e2 : (headsR (m + 1) s).2 = (headsR m (hS5 s)).2 := by rw [headsR, if_neg (by rw [hs0]; decide)]
  have h1 := h.few2 hs0
  have hle := hS5_le s
  refine ⟨?_, hr, hk, h.lt, ?_, ?_, ?_, fun hsh => ?_, ?_⟩
  · rw [List.length_append, List.length_singleton, List.flatMap_append]
    simpa using ho
  · rw [List.append_assoc, List.singleton_append, ← e1]; exact h.hds
  · rw [← e2]; exact h.fin
  · rw [List.length_append, List.length_singleton]; omega
  · rw [List.length_append, List.length_singleton]
    have := hS5_ok hsh
    omega
  · have := h.le; omega
def HeadsQ (hs : List Hd) (b : Nat) (s : RS) (w : World) (e : Ending) (w' : World) : Prop := ∃ H A' : SL, e = .returned (.slice H.a hs.length H.c) ∧ Own w' w.heap.size 137 4 (.slice H.a hs.length H.c) hs.length (hs.flatMap hdCells) ∧ RdR w' b A' s ∧ Kept (fun k => k = b) w w'
theorem HdI.done {w : World} {b : Nat} {s0 : RS} {fin : List Hd × RS} {m : Nat} {hs : List Hd} {s : RS} {a : Option Addr} {c : Nat} {A : SL} {W : World} (h : HdI w b s0 fin m hs s a c A W) (hd : m = 0 ∨ s.short = true) : HeadsQ fin.1 b fin.2 w (.returned (.slice a hs.length c)) W := by
  have e : headsR m s = ([], s) := by
    rcases hd with rfl | hd
    · rfl
    · cases m with
      | zero => rfl
      | succ m => rw [headsR, if_pos hd]
  have e1 := h.hds
  have e2 := h.fin
  rw [e] at e1 e2
  simp only [List.append_nil] at e1
  rw [← e1, ← e2]
  exact ⟨⟨a, c⟩, A, rfl, h.own, h.rd, h.kept⟩
theorem own_keptR {W W' : World} {base b : Nat} {v : Value} {n : Nat} {xs : List Value} (h : Own W base 137 4 v n xs) {r : Array Value} {f : Nat × Nat} (hr : W.heap[b]? = some (.cells r 145 f)) (hk : Kept (fun k => k = b) W W') : Own W' base 137 4 v n xs :=
  h.kept hk (fun k e e2 => h.blk_ne hr (by decide) (e2 ▸ e))
theorem boxH4 {w : World} {b : Nat} {x0 x1 x2 x3 : Value} {T : TypeId} (h : w.heap[b]? = some (.cells #[x0, x1, x2, x3] T (0, 0))) : w.cell? ⟨b, 0, none⟩ = some x0 ∧ w.cell? ⟨b, 1, none⟩ = some x1 ∧ w.cell? ⟨b, 2, none⟩ = some x2 ∧ w.cell? ⟨b, 3, none⟩ = some x3 := by
  refine ⟨?_, ?_, ?_, ?_⟩ <;> (rw [cell_blk h]; rfl)
theorem heads20_any (s : RS) (b : Nat) (A : SL) (w : World) (h : RdR w b A s) : Calls Try.prog 81 #[.pointer (some ⟨b, 0, none⟩)] w (HeadsQ (headsR (numR s).toNat (numS s)).1 b (headsR (numR s).toNat (numS s)).2 w) := by
  have HNM := Aside.mk (number_any s b A w h)
  have hnb := numR_bd s
  have hlt := lt_of_blk h.box
  have hfw := h.few
  clear h
  generalize hn : numR s = n at *
  obtain ⟨m, rfl⟩ := Int.eq_ofNat_of_zero_le hnb.1
  have hle : (numS s).rest.length ≤ 100000000 := Nat.le_trans (numS_le s) hfw
  generalize numS s = s0 at *
  simp only [Int.toNat_natCast]
  obtain ⟨fin, hfin⟩ : ∃ f, f = headsR m s0 := ⟨_, rfl⟩
  rw [← hfin]
  have HF := Aside.mk hfin
  have HB := Aside.mk hlt
  have HLE := Aside.mk hle
  clear hfin hlt hfw hn hle
  have hm1 : (m : Int) ≤ 4611686018427387904 := hnb.2
  clear hnb
  go_enter Try.func81, Try.ntmps81
  go_wp2_with (go_at_call 82; refine HNM.out.mono ?_; rintro e w2 ⟨rfl, A2, hr, hk⟩; have HI := Aside.mk (show HdI w b s0 fin m [] s0 none 0 A2 w2 from ⟨Own.nil _ _ _ _, hr, hk, HB.out, by rw [HF.out]; rfl, by rw [HF.out], Nat.zero_le _, fun _ => by simp, Nat.le_refl _⟩); clear hr hk HNM)
  go_loopw [3, 5, 6] (fun ov iv _ wr => ∃ (i : Nat) (hs : List Hd) (s : RS) (a : Option Addr) (c : Nat) (A : SL), i ≤ m ∧ iv = .int .i64 (i : Int) ∧ ov = .slice a hs.length c ∧ Aside (HdI w b s0 fin (m - i) hs s a c A wr)) (fun _ iv _ _ => m - (intOf iv).toNat)
  case atStart => exact ⟨0, [], s0, none, 0, A2, Nat.zero_le _, rfl, rfl, HI⟩
  case round =>
    clear HI
    obtain ⟨i, hs, s, a, c, A, hi, rfl, rfl, HI⟩ := hrel
    have hfz := fun k => frozen_blk (k := k) HI.out.rd.box
    obtain ⟨c0, c1⟩ := boxR HI.out.rd.box
    by_cases hlt : i < m
    · have hd : decide ((i : Int) < (m : Int)) = true := decide_eq_true (by omega)
      cases hsh : s.short with
      | true =>
        rw [hsh] at c1
        have HE := Aside.mk (HI.out.done (.inr hsh))
        clear hsh
        go_wp2_with fail
        go_ret
        exact HE.out
      | false =>
        rw [hsh] at c1
        have HSH := Aside.mk hsh
        clear hsh
        have HRR := Aside.mk HI.out.rd
        have HOO := Aside.mk HI.out.own
        have HKK := Aside.mk HI.out.kept
        have HHB := Aside.mk (fun k e => (HI.out.own.lt k e).2)
        have HSZ := Nat.le_refl wr.heap.size
        go_upto_region 6 with fail
        clear c0 c1 hfz
        go_upto_region 7 with (first
          | (go_at_call 82; refine (number_any _ _ _ _ HRR.out).mono ?_; rintro e w3 ⟨rfl, A3, hr, hk⟩; replace HOO := Aside.mk (own_keptR HOO.out HRR.out.box hk); replace HKK := Aside.mk (HKK.out.trans hk (fun k e _ => e)); replace HRR := Aside.mk hr; replace HSZ := Nat.le_trans HSZ hk.size; clear hr hk)
          | (go_at_call 80; refine (take_any _ _ _ _ _ HRR.out).mono ?_; rintro e w4 ⟨T, A4, rfl, ht, hr, hk⟩; replace HOO := Aside.mk (own_keptR HOO.out HRR.out.box hk); replace HKK := Aside.mk (HKK.out.trans hk (fun k e _ => e)); replace HRR := Aside.mk hr; have hcv := conv_any _ _ _ _ rfl w4 ht.rd; replace HSZ := Nat.le_trans HSZ hk.size; have HKK0 := HKK; clear hr hk ht))
        have hx5 := heap_alloc_new w4 (.cells #[.string (strOfNums (takeL (numR s) (numS s))), .int .i64 0, .int .i64 0, .bool false] 137)
        have hb5 := below_new w4 (.cells #[.string (strOfNums (takeL (numR s) (numS s))), .int .i64 0, .int .i64 0, .bool false] 137)
        replace HOO := Aside.mk (HOO.out.below hb5)
        replace HKK := Aside.mk (HKK.out.trans (Kept.of_below (S := fun k => k = b) hb5) (fun k e _ => e))
        replace HRR := Aside.mk (show RdR _ b A4 (hS2 s) from HRR.out.below hb5)
        have HX := Aside.mk hx5
        have hblo : w.heap.size ≤ w4.heap.size := HKK0.out.size
        clear hx5 hb5 hcv
        generalize w4.alloc (.cells #[.string (strOfNums (takeL (numR s) (numS s))), .int .i64 0, .int .i64 0, .bool false] 137) = w5 at *
        generalize w4.heap.size = hb at *
        generalize hnm : strOfNums (takeL (numR s) (numS s)) = nm at *
        have HNMQ := Aside.mk hnm
        clear hnm
        go_upto_region 8 with (go_at_call 82; refine (number_any _ _ _ _ HRR.out).mono ?_; rintro e w3 ⟨rfl, A3, hr, hk⟩; replace HOO := Aside.mk (own_keptR HOO.out HRR.out.box hk); replace HX := Aside.mk ((hk.block _ (lt_of_blk HX.out) (blk_ne HX.out HRR.out.box (by decide))).trans HX.out); replace HKK := Aside.mk (HKK.out.trans hk (fun k e _ => e)); replace HRR := Aside.mk hr; have hfh := fun k => frozen_blk (k := k) HX.out; obtain ⟨x0, x1, x2, x3⟩ := boxH4 HX.out; clear hr hk)
        have K7 : Kept (fun k => k = hb) w3 _ := (Kept.setCell w3 ⟨hb, 1, none⟩ (.int .i64 (numR (hS2 s)))).trans (Kept.setCell _ ⟨hb, 2, none⟩ (.int .i64 (numR (hS3 s)))) (fun k e _ => e)
        have hx1 := heap_setCell_at (k := 1) HX.out (.int .i64 (numR (hS2 s)))
        have hx2 := heap_setCell_at (k := 2) hx1 (.int .i64 (numR (hS3 s)))
        simp only [Array.setIfInBounds, List.setIfInBounds_toArray, List.set_cons_zero, List.set_cons_succ] at hx1 hx2
        replace HX := Aside.mk (show _ = some (Obj.cells #[.string nm, .int .i64 (numR (hS2 s)), .int .i64 (numR (hS3 s)), .bool false] 137 (0, 0)) from by simpa using hx2)
        replace HRR := Aside.mk (show RdR _ b A3 (hS4 s) from HRR.out.kept K7 (fun k e => by have := HB.out; omega))
        replace HOO := Aside.mk (HOO.out.kept K7 (fun k e e' => by have := HHB.out k e; omega))
        replace HKK := Aside.mk (HKK.out.trans K7 (fun k e h' => by omega))
        clear hx1 hx2 K7 x0 x1 x2 x3 hfh
        generalize hW7 : (w3.setCell ⟨hb, 1, none⟩ (.int .i64 (numR (hS2 s)))).setCell ⟨hb, 2, none⟩ (.int .i64 (numR (hS3 s))) = w7 at *
        have e7 : (w3.setCell ⟨hb, 1, none⟩ (.int .i64 (numR (hS2 s)))).setCell ⟨hb, 2, none⟩ (.int .i64 (numR (numS (hS2 s)))) = w7 := hW7
        rw [e7]
        clear e7 hW7
        generalize hq : decide (numR (hS4 s) = 1) = q at *
        have HQ := Aside.mk hq
        have hq2 : (numR (hS4 s) == 1) = q := by rw [← hq]; rfl
        clear hq
        go_upto_region 9 with (go_at_call 82; refine (number_any _ _ _ _ HRR.out).mono ?_; rintro e w8 ⟨rfl, A3, hr, hk⟩; replace HOO := Aside.mk (own_keptR HOO.out HRR.out.box hk); replace HX := Aside.mk ((hk.block _ (lt_of_blk HX.out) (blk_ne HX.out HRR.out.box (by decide))).trans HX.out); replace HKK := Aside.mk (HKK.out.trans hk (fun k e _ => e)); replace HRR := Aside.mk hr; have hfh := fun k => frozen_blk (k := k) HX.out; obtain ⟨x0, x1, x2, x3⟩ := boxH4 HX.out; clear hr hk)
        have K9 : Kept (fun k => k = hb) w8 _ := Kept.setCell w8 ⟨hb, 3, none⟩ (.bool q)
        have hx3 := heap_setCell_at (k := 3) HX.out (.bool q)
        simp only [Array.setIfInBounds, List.setIfInBounds_toArray, List.set_cons_zero, List.set_cons_succ] at hx3
        replace HX := Aside.mk (show _ = some (Obj.cells #[.string nm, .int .i64 (numR (hS2 s)), .int .i64 (numR (hS3 s)), .bool q] 137 (0, 0)) from by simpa using hx3)
        replace HRR := Aside.mk (show RdR _ b A3 (hS5 s) from HRR.out.kept K9 (fun k e => by have := HB.out; omega))
        replace HOO := Aside.mk (HOO.out.kept K9 (fun k e e' => by have := HHB.out k e; omega))
        replace HKK := Aside.mk (HKK.out.trans K9 (fun k e h' => by omega))
        clear hx3 K9 x0 x1 x2 x3 hfh hq2
        generalize w8.setCell ⟨hb, 3, none⟩ (.bool q) = w9 at *
        obtain ⟨x0, x1, x2, x3⟩ := boxH4 HX.out
        have hhd : hdCells (hdR s) = [.string nm, .int .i64 (numR (hS2 s)), .int .i64 (numR (hS3 s)), .bool q] := by
          rw [← HQ.out, ← HNMQ.out]; rfl
        have HHD := Aside.mk hhd
        have hfew : hs.length ≤ 100000001 := by have := HI.out.few; have := HLE.out; omega
        have hwz : w.heap.size ≤ w9.heap.size := HKK.out.size
        clear hhd
        go_wp2_with (at_builtin; refine wpList_app2 _ rfl _ _ 70 70 rfl w.heap.size 137 (.agg #[.string ByteArray.empty, .int .i64 0, .int .i64 0, .bool false]) 4 40 Try.underlying70 headinfo rfl (.slice a hs.length c) hs.length _ rfl (HOO.out.alloc _) _ 1 [.string nm, .int .i64 (numR (hS2 s)), .int .i64 (numR (hS3 s)), .bool q] rfl (src_head _ _ _ _ _) (by unfold maxLen; omega) (by omega) (by simp; omega) ?_; intro v' w10 hA; obtain ⟨a8, c8, rfl⟩ := hA.own.form; have HA := Aside.mk hA; clear hA)
        have K10 : Kept (fun k => (Value.slice a hs.length c).ownBlock = some k) w9 w10 := (Kept.of_below (S := fun k => (Value.slice a hs.length c).ownBlock = some k) (below_new w9 _)).trans (Kept.of_grown HA.out.grown) (fun k e _ => e.symm)
        have HN := Aside.mk ((show HdI w b s0 fin (m - (i + 1) + 1) hs s a c A wr from by rw [show m - (i + 1) + 1 = m - i by omega]; exact HI.out).next HSH.out (by rw [HHD.out]; exact HA.out.own) (HRR.out.kept K10 (fun k e => by have := (HOO.out.lt k e).1; have := HB.out; omega)) (HKK.out.trans K10 (fun k e h' => by have := (HOO.out.lt k e).1; omega)))
        have hw1 : IntKind.i64.wrap ((i : Int) + 1) = (i : Int) + 1 := by rw [IntWalk.i64_left, IntWalk.wrap64_in]; omega
        clear K10 HA HRR HOO HKK HX x0 x1 x2 x3
        go_wp2_with fail
        go_roundw
        case rel => exact ⟨i + 1, hs ++ [hdR s], hS5 s, a8, c8, A3, by omega, by go_num, by rw [List.length_append, List.length_singleton], HN⟩
        case measure => simp [intOf]; omega
    · obtain rfl : i = m := by omega
      have hd : decide ((i : Int) < (i : Int)) = false := decide_eq_false (by omega)
      have HE := Aside.mk (HI.out.done (.inl (by omega)))
      go_wp2_with fail
      go_ret
      exact HE.out
end Go.Proofs.Ytmhjjhaipcgbiaa


namespace Go.Proofs.Ytmhjjhaipcgbiaa
open Go.RowKit
set_option linter.unusedVariables false
set_option linter.unusedSimpArgs false
set_option maxRecDepth 100000
set_option maxHeartbeats 1000000
def endsR : Nat → RS → Int → List Int × Int × RS
  | 0, s, z => ([], z, s)
  | n + 1, s, z => if s.short then ([], z, s) else (numR s :: (endsR n (numS s) (numR s)).1, (endsR n (numS s) (numR s)).2)
def wordsR : Nat → RS → List (List Int) × RS
  | 0, s => ([], s)
  | n + 1, s => if s.short then ([], s) else (takeL (numR s) (numS s) :: (wordsR n (hS2 s)).1, (wordsR n (hS2 s)).2)
def colEnds (k rows : Int) (s : RS) : List Int × Int × RS := if k = 15 then endsR rows.toNat (takeS ((rows + 7) / 8) s) (rows * widthOf k) else ([], rows * widthOf k, takeS ((rows + 7) / 8) s)
def colWords (k : Int) (s : RS) : List (List Int) × RS := if k = 16 then wordsR (numR s).toNat (numS s) else ([], s)
def colS3 (k rows : Int) (s : RS) : RS := takeS (colEnds k rows s).2.1 (colEnds k rows s).2.2
def colR (k sc rows : Int) (s : RS) : Col × RS :=
  if 8 * (s.rest.length : Int) < rows then (⟨0, 0, 0, 0, [], [], [], []⟩, ⟨s.rest, true⟩)
  else (⟨k, sc, rows, rows, takeL ((rows + 7) / 8) s, takeL (colEnds k rows s).2.1 (colEnds k rows s).2.2, (colEnds k rows s).1, (colWords k (colS3 k rows s)).1⟩, (colWords k (colS3 k rows s)).2)
theorem hS2_le (s : RS) : (hS2 s).rest.length ≤ s.rest.length := by
  have h1 := numS_le s
  have h2 := takeS_le (numR s) (numS s)
  unfold hS2
  omega
theorem hS2_ok {s : RS} (h : (hS2 s).short = false) : (hS2 s).rest.length + 8 + (numR s).toNat = s.rest.length ∧ s.short = false := by
  obtain ⟨d1, d2, d3⟩ := takeS_ok h
  obtain ⟨e1, e2, _⟩ := numS_ok d1
  unfold hS2
  exact ⟨by omega, e1⟩
structure OwnD (w : World) (base : Nat) (c : Col) (B D E X : SL) (vals : List Value) : Prop where
  bits : Own w base 5 1 (.slice B.a c.bits.length B.c) c.bits.length (c.bits.map (.int .u8))
  data : Own w base 5 1 (.slice D.a c.data.length D.c) c.data.length (c.data.map (.int .u8))
  ends : Own w base 3 1 (.slice E.a c.ends.length E.c) c.ends.length (c.ends.map (.int .i64))
  words : Own w base 37 1 (.slice X.a c.words.length X.c) c.words.length vals
  len : vals.length = c.words.length
  each : ∀ (i : Nat) t, c.words[i]? = some t → ∃ a cap, vals[i]? = some (.slice a t.length cap) ∧ Own w base 5 1 (.slice a t.length cap) t.length (t.map (.int .u8))
theorem OwnD.rd {w : World} {base : Nat} {c : Col} {B D E X : SL} {vals : List Value} (h : OwnD w base c B D E X vals) : RdC w c B D E X vals :=
  ⟨h.bits.rd, h.data.rd, h.ends.rd, h.words.rd, h.len, fun i t hi => by
    obtain ⟨a, cap, h1, h2⟩ := h.each i t hi
    exact ⟨a, cap, h1, h2.rd⟩⟩
theorem OwnD.kept {W W' : World} {base : Nat} {c : Col} {B D E X : SL} {vals : List Value} {S : Nat → Prop} (h : OwnD W base c B D E X vals) (hk : Kept S W W') (hS : ∀ k, base ≤ k → k < W.heap.size → ¬ S k) : OwnD W' base c B D E X vals :=
  ⟨h.bits.kept hk (fun k e => hS k (h.bits.lt k e).1 (h.bits.lt k e).2), h.data.kept hk (fun k e => hS k (h.data.lt k e).1 (h.data.lt k e).2), h.ends.kept hk (fun k e => hS k (h.ends.lt k e).1 (h.ends.lt k e).2), h.words.kept hk (fun k e => hS k (h.words.lt k e).1 (h.words.lt k e).2), h.len, fun i t hi => by
    obtain ⟨a, cap, h1, h2⟩ := h.each i t hi
    exact ⟨a, cap, h1, h2.kept hk (fun k e => hS k (h2.lt k e).1 (h2.lt k e).2)⟩⟩
theorem OwnD.turn {W W' : World} {base : Nat} {c : Col} {B D E X : SL} {vals : List Value} {S : Nat → Prop} (h : OwnD W base c B D E X vals) (hk : Kept S W W') (h1 : ∀ b cs f, W.heap[b]? = some (.cells cs 5 f) → ¬ S b) (h2 : ∀ b cs f, W.heap[b]? = some (.cells cs 3 f) → ¬ S b) (h3 : ∀ b cs f, W.heap[b]? = some (.cells cs 37 f) → ¬ S b) : OwnD W' base c B D E X vals := by
  have key : ∀ {E' : TypeId} {v : Value} {n sz : Nat} {xs : List Value}, Own W base E' sz v n xs → (∀ b cs f, W.heap[b]? = some (.cells cs E' f) → ¬ S b) → Own W' base E' sz v n xs := fun h0 hS => h0.kept hk (fun b e => by obtain ⟨cur, hcur⟩ := own_blk h0 e; exact hS b _ _ hcur)
  exact ⟨key h.bits h1, key h.data h1, key h.ends h2, key h.words h3, h.len, fun i t hi => by
    obtain ⟨a, cap, q1, q2⟩ := h.each i t hi
    exact ⟨a, cap, q1, key q2 h1⟩⟩
theorem OwnD.mono {w : World} {base base' : Nat} {c : Col} {B D E X : SL} {vals : List Value} (h : OwnD w base c B D E X vals) (hb : base' ≤ base) : OwnD w base' c B D E X vals :=
  ⟨h.bits.mono hb, h.data.mono hb, h.ends.mono hb, h.words.mono hb, h.len, fun i t hi => by
    obtain ⟨a, cap, h1, h2⟩ := h.each i t hi
    exact ⟨a, cap, h1, h2.mono hb⟩⟩
structure ColM (w : World) (b tb rb cb : Nat) (k sc : Int) (c : Col) (B D E X : SL) (vals : List Value) (s : RS) (A : SL) (W : World) : Prop where
  box : W.heap[cb]? = some (.cells #[.int .i64 c.k, .int .i64 c.s, .int .i64 c.n, .int .i64 c.m, .slice B.a c.bits.length B.c, .slice D.a c.data.length D.c, .slice E.a c.ends.length E.c, .slice X.a c.words.length X.c] 43 (0, 0))
  tbox : W.heap[tb]? = some (.cells #[.int .i64 k, .int .i64 sc] 23 (0, 0))
  rbox : W.heap[rb]? = some (.cells #[.int .i64 0, .int .i64 0, .int .i64 0, .int .i64 0, .slice none 0 0, .slice none 0 0, .slice none 0 0, .slice none 0 0] 43 (0, 0))
  own : OwnD W w.heap.size c B D E X vals
  rd : RdR W b A s
  kept : Kept (fun k => k = b) w W
  lo : b < w.heap.size ∧ w.heap.size ≤ tb ∧ w.heap.size ≤ rb ∧ w.heap.size ≤ cb ∧ rb ≠ cb
section
variable {w W W' : World} {b tb rb cb : Nat} {k sc : Int} {c : Col} {B D E X : SL} {vals : List Value} {s : RS} {A : SL}
theorem ColM.call (h : ColM w b tb rb cb k sc c B D E X vals s A W) {s' : RS} {A' : SL} (hr : RdR W' b A' s') (hk : Kept (fun k => k = b) W W') : ColM w b tb rb cb k sc c B D E X vals s' A' W' := by
  have l0 := h.lo
  refine ⟨(hk.block _ (lt_of_blk h.box) (by omega)).trans h.box, (hk.block _ (lt_of_blk h.tbox) (by omega)).trans h.tbox, (hk.block _ (lt_of_blk h.rbox) (by omega)).trans h.rbox, h.own.kept hk (fun k e _ e' => by omega), hr, h.kept.trans hk (fun k e _ => e), l0⟩
theorem ColM.below (h : ColM w b tb rb cb k sc c B D E X vals s A W) (hb : Below W.heap.size W W') : ColM w b tb rb cb k sc c B D E X vals s A W' :=
  h.call (h.rd.below hb) (Kept.of_below hb)
theorem ColM.setData (h : ColM w b tb rb cb k sc c B D E X vals s A W) {l : List Int} {T : SL} (ho : Own W w.heap.size 5 1 (.slice T.a l.length T.c) l.length (l.map (.int .u8))) : ColM w b tb rb cb k sc ⟨c.k, c.s, c.n, c.m, c.bits, l, c.ends, c.words⟩ B T E X vals s A (W.setCell ⟨cb, 5, none⟩ (.slice T.a l.length T.c)) := by
  have l0 := h.lo
  have hk : Kept (fun k => k = cb) W (W.setCell ⟨cb, 5, none⟩ (.slice T.a l.length T.c)) := Kept.setCell W ⟨cb, 5, none⟩ _
  have ne : ∀ {T' : TypeId}, T' ≠ 43 → ∀ b cs f, W.heap[b]? = some (.cells cs T' f) → ¬ b = cb := fun ht b cs f hb => blk_ne hb h.box ht
  have hbx := heap_setCell_at (k := 5) h.box (.slice T.a l.length T.c)
  have ho' := h.own.turn hk (ne (by decide)) (ne (by decide)) (ne (by decide))
  refine ⟨by simpa using hbx, (hk.block _ (lt_of_blk h.tbox) (ne (by decide) _ _ _ h.tbox)).trans h.tbox, (hk.block _ (lt_of_blk h.rbox) l0.2.2.2.2).trans h.rbox, ⟨ho'.bits, ho.kept hk (fun b e => by obtain ⟨cur, hcur⟩ := own_blk ho e; exact ne (by decide) _ _ _ hcur), ho'.ends, ho'.words, ho'.len, ho'.each⟩, h.rd.kept hk (fun k e => by omega), h.kept.trans hk (fun k e _ => by omega), l0⟩
theorem ColM.grow (h : ColM w b tb rb cb k sc c B D E X vals s A W) {v : Value} {E' : TypeId} {n : Nat} {xs : List Value} (hv : Own W w.heap.size E' 1 v n xs) (hE : E' ≠ 43 ∧ E' ≠ 23 ∧ E' ≠ 145) (hk : Kept (fun k => v.ownBlock = some k) W W') (i : Nat) (u : Value) :
    Kept (fun k => v.ownBlock = some k ∨ k = cb) W (W'.setCell ⟨cb, i, none⟩ u) ∧ (W'.setCell ⟨cb, i, none⟩ u).heap[tb]? = some (.cells #[.int .i64 k, .int .i64 sc] 23 (0, 0)) ∧
    (W'.setCell ⟨cb, i, none⟩ u).heap[rb]? = some (.cells #[.int .i64 0, .int .i64 0, .int .i64 0, .int .i64 0, .slice none 0 0, .slice none 0 0, .slice none 0 0, .slice none 0 0] 43 (0, 0)) ∧ RdR (W'.setCell ⟨cb, i, none⟩ u) b A s ∧ Kept (fun k => k = b) w (W'.setCell ⟨cb, i, none⟩ u) ∧
    W'.heap[cb]? = some (.cells #[.int .i64 c.k, .int .i64 c.s, .int .i64 c.n, .int .i64 c.m, .slice B.a c.bits.length B.c, .slice D.a c.data.length D.c, .slice E.a c.ends.length E.c, .slice X.a c.words.length X.c] 43 (0, 0)) := by
  have l0 := h.lo
  have K : Kept (fun k => v.ownBlock = some k ∨ k = cb) W (W'.setCell ⟨cb, i, none⟩ u) := (hk.mono (fun k e _ => Or.inl e)).trans (Kept.setCell W' ⟨cb, i, none⟩ _) (fun k e _ => Or.inr e)
  have nb : ∀ {b' : Nat} {cs : Array Value} {T' : TypeId} {f : Nat × Nat}, W.heap[b']? = some (.cells cs T' f) → T' ≠ E' → b' ≠ cb → ¬ (v.ownBlock = some b' ∨ b' = cb) := fun hb ht hn e => e.elim (fun e => hv.blk_ne hb ht e) hn
  refine ⟨K, (K.block _ (lt_of_blk h.tbox) (nb h.tbox (Ne.symm hE.2.1) (blk_ne h.tbox h.box (by decide)))).trans h.tbox, (K.block _ (lt_of_blk h.rbox) (nb h.rbox (Ne.symm hE.1) l0.2.2.2.2)).trans h.rbox, h.rd.kept K (fun k e => ?_), h.kept.trans K (fun k e _ => ?_), (hk.block _ (lt_of_blk h.box) (fun e => hv.blk_ne h.box (Ne.symm hE.1) e)).trans h.box⟩
  · rcases e with e | e
    · have := (hv.lt k e).1; omega
    · omega
  · rcases e with e | e
    · have := (hv.lt k e).1; omega
    · omega
theorem ColM.addEnd (h : ColM w b tb rb cb k sc c B D E X vals s A W) {x : Int} {o : Obj} {a5 : Option Addr} {c5 : Nat} (hA : AppP (W.alloc o) w.heap.size 3 1 (.slice E.a c.ends.length E.c) c.ends.length (c.ends.map (.int .i64)) 1 [.int .i64 x] (.slice a5 (c.ends.length + 1) c5) W') :
    ColM w b tb rb cb k sc ⟨c.k, c.s, c.n, c.m, c.bits, c.data, c.ends ++ [x], c.words⟩ B D ⟨a5, c5⟩ X vals s A (W'.setCell ⟨cb, 6, none⟩ (.slice a5 (c.ends.length + 1) c5)) := by
  have l0 := h.lo
  have hk : Kept (fun k => (Value.slice E.a c.ends.length E.c).ownBlock = some k) W W' := (Kept.of_below (S := fun k => (Value.slice E.a c.ends.length E.c).ownBlock = some k) (below_new W o)).trans (Kept.of_grown hA.grown) (fun k e _ => e.symm)
  obtain ⟨K, g1, g2, g3, g4, g5⟩ := h.grow h.own.ends ⟨by decide, by decide, by decide⟩ hk 6 (.slice a5 (c.ends.length + 1) c5)
  have nb : ∀ {b' : Nat} {cs : Array Value} {T' : TypeId} {f : Nat × Nat}, W.heap[b']? = some (.cells cs T' f) → T' ≠ 3 → T' ≠ 43 → ¬ ((Value.slice E.a c.ends.length E.c).ownBlock = some b' ∨ b' = cb) := fun hb ht hn e => e.elim (fun e => h.own.ends.blk_ne hb ht e) (fun e => blk_ne hb h.box hn e)
  have tu : ∀ {T' : TypeId} {v : Value} {n sz : Nat} {xs : List Value}, Own W w.heap.size T' sz v n xs → T' ≠ 3 → T' ≠ 43 → Own (W'.setCell ⟨cb, 6, none⟩ (.slice a5 (c.ends.length + 1) c5)) w.heap.size T' sz v n xs := fun h0 ht hn => h0.kept K (fun b e => by obtain ⟨cur, hcur⟩ := own_blk h0 e; exact nb hcur ht hn)
  have hbx := heap_setCell_at (k := 6) g5 (.slice a5 (c.ends.length + 1) c5)
  have he : Own (W'.setCell ⟨cb, 6, none⟩ (.slice a5 (c.ends.length + 1) c5)) w.heap.size 3 1 (.slice a5 (c.ends.length + 1) c5) (c.ends.length + 1) ((c.ends ++ [x]).map (.int .i64)) := by
    rw [List.map_append]
    exact hA.own.set_other (fun e => hA.own.blk_ne g5 (by decide) e) _
  have hl : (c.ends ++ [x]).length = c.ends.length + 1 := by simp
  refine ⟨by dsimp only; rw [hl]; simpa using hbx, g1, g2, ⟨tu h.own.bits (by decide) (by decide), tu h.own.data (by decide) (by decide), by dsimp only; rw [hl]; exact he, tu h.own.words (by decide) (by decide), h.own.len, fun i t hi => ?_⟩, g3, g4, l0⟩
  obtain ⟨a, cap, q1, q2⟩ := h.own.each i t hi
  exact ⟨a, cap, q1, tu q2 (by decide) (by decide)⟩
theorem ColM.addWord (h : ColM w b tb rb cb k sc c B D E X vals s A W) {t : List Int} {T : SL} (ht : Own W w.heap.size 5 1 (.slice T.a t.length T.c) t.length (t.map (.int .u8))) {o : Obj} {a5 : Option Addr} {c5 : Nat} (hA : AppP (W.alloc o) w.heap.size 37 1 (.slice X.a c.words.length X.c) c.words.length vals 1 [.slice T.a t.length T.c] (.slice a5 (c.words.length + 1) c5) W') :
    ColM w b tb rb cb k sc ⟨c.k, c.s, c.n, c.m, c.bits, c.data, c.ends, c.words ++ [t]⟩ B D E ⟨a5, c5⟩ (vals ++ [.slice T.a t.length T.c]) s A (W'.setCell ⟨cb, 7, none⟩ (.slice a5 (c.words.length + 1) c5)) := by
  have l0 := h.lo
  have hk : Kept (fun k => (Value.slice X.a c.words.length X.c).ownBlock = some k) W W' := (Kept.of_below (S := fun k => (Value.slice X.a c.words.length X.c).ownBlock = some k) (below_new W o)).trans (Kept.of_grown hA.grown) (fun k e _ => e.symm)
  obtain ⟨K, g1, g2, g3, g4, g5⟩ := h.grow h.own.words ⟨by decide, by decide, by decide⟩ hk 7 (.slice a5 (c.words.length + 1) c5)
  have nb : ∀ {b' : Nat} {cs : Array Value} {T' : TypeId} {f : Nat × Nat}, W.heap[b']? = some (.cells cs T' f) → T' ≠ 37 → T' ≠ 43 → ¬ ((Value.slice X.a c.words.length X.c).ownBlock = some b' ∨ b' = cb) := fun hb ht hn e => e.elim (fun e => h.own.words.blk_ne hb ht e) (fun e => blk_ne hb h.box hn e)
  have tu : ∀ {T' : TypeId} {v : Value} {n sz : Nat} {xs : List Value}, Own W w.heap.size T' sz v n xs → T' ≠ 37 → T' ≠ 43 → Own (W'.setCell ⟨cb, 7, none⟩ (.slice a5 (c.words.length + 1) c5)) w.heap.size T' sz v n xs := fun h0 ht hn => h0.kept K (fun b e => by obtain ⟨cur, hcur⟩ := own_blk h0 e; exact nb hcur ht hn)
  have hbx := heap_setCell_at (k := 7) g5 (.slice a5 (c.words.length + 1) c5)
  have hw : Own (W'.setCell ⟨cb, 7, none⟩ (.slice a5 (c.words.length + 1) c5)) w.heap.size 37 1 (.slice a5 (c.words.length + 1) c5) (c.words.length + 1) (vals ++ [.slice T.a t.length T.c]) := hA.own.set_other (fun e => hA.own.blk_ne g5 (by decide) e) _
  have hl : (c.words ++ [t]).length = c.words.length + 1 := by simp
  refine ⟨by dsimp only; rw [hl]; simpa using hbx, g1, g2, ⟨tu h.own.bits (by decide) (by decide), tu h.own.data (by decide) (by decide), tu h.own.ends (by decide) (by decide), by dsimp only; rw [hl]; exact hw, by dsimp only; rw [hl, List.length_append, h.own.len]; rfl, fun i u hi => ?_⟩, g3, g4, l0⟩
  rcases Nat.lt_or_ge i c.words.length with hlt | hge
  · dsimp only at hi
    rw [List.getElem?_append_left hlt] at hi
    obtain ⟨a, cap, q1, q2⟩ := h.own.each i u hi
    exact ⟨a, cap, by rw [List.getElem?_append_left (by rw [h.own.len]; exact hlt)]; exact q1, tu q2 (by decide) (by decide)⟩
  · dsimp only at hi
    rw [List.getElem?_append_right hge] at hi
    have hi0 : i - c.words.length = 0 := by
      have := (List.getElem?_eq_some_iff.1 hi).1
      simp at this; omega
    rw [hi0] at hi
    simp at hi
    subst hi
    exact ⟨T.a, T.c, by rw [List.getElem?_append_right (by rw [h.own.len]; exact hge), h.own.len, hi0]; rfl, tu ht (by decide) (by decide)⟩
end
end Go.Proofs.Ytmhjjhaipcgbiaa


namespace Go.Proofs.Ytmhjjhaipcgbiaa
open Go.RowKit
set_option linter.unusedVariables false
set_option linter.unusedSimpArgs false
set_option maxRecDepth 100000
set_option maxHeartbeats 1000000
theorem take_of {n : Int} {X : List Int} (h : (X.length : Int) = n) (r : List Int) : takeL n ⟨X ++ r, false⟩ = X ∧ takeS n ⟨X ++ r, false⟩ = ⟨r, false⟩ := by
  subst h
  have hb : takeB (X.length : Int) ⟨X ++ r, false⟩ = false := by
    unfold takeB
    simp only [Bool.false_or, Bool.or_eq_false_iff, decide_eq_false_iff_not, Int.not_lt, List.length_append]
    omega
  unfold takeL takeS
  rw [hb]
  simp
theorem num_of {x : Nat} (hx : x ≤ 4611686018427387904) (r : List Int) : numR ⟨lows x 8 ++ r, false⟩ = (x : Int) ∧ numS ⟨lows x 8 ++ r, false⟩ = ⟨r, false⟩ := by
  obtain ⟨h1, h2⟩ := take_of (n := 8) (X := lows x 8) (by rw [lows_len]; rfl) r
  have hX : numX ⟨lows x 8 ++ r, false⟩ = x := by
    unfold numX
    rw [h1, lows_len, wordAt_lows (lows x 8) 0 x 8 (fun j hj => by rw [Nat.zero_add, List.getD_eq_getElem?_getD, lows_get _ _ _ hj]; rfl)]
    have : (256 : Nat) ^ 8 = 18446744073709551616 := by decide
    rw [this]; omega
  unfold numR numS
  rw [hX, if_neg (by omega), if_neg (by omega), h2]
  exact ⟨rfl, rfl⟩
theorem numi_of {x : Int} (h0 : 0 ≤ x) (h1 : x ≤ 4611686018427387904) (r : List Int) : numR ⟨lows (u64N x) 8 ++ r, false⟩ = x ∧ numS ⟨lows (u64N x) 8 ++ r, false⟩ = ⟨r, false⟩ := by
  obtain ⟨n, rfl⟩ := Int.eq_ofNat_of_zero_le h0
  rw [u64N_nat (by omega)]
  exact num_of (by omega) r
theorem str_strL (s : ByteArray) : strOfNums (strL s) = s := by
  unfold strOfNums strL
  rw [List.map_map]
  have : (s.data.toList.map ((fun n : Int => UInt8.ofNat n.toNat) ∘ fun b : UInt8 => (b.toNat : Int))) = s.data.toList := by
    conv => rhs; rw [← List.map_id s.data.toList]
    refine List.map_congr_left fun b _ => ?_
    simp
  rw [this]
theorem ok_type {k s : Int} (h : okType k s = true) : 1 ≤ k ∧ k ≤ 16 ∧ 0 ≤ s ∧ s ≤ 18 := by
  unfold okType at h
  have := of_decide_eq_true h
  omega
theorem hd_of {h : Hd} (hn : h.name.size ≤ 64) (ht : okType h.k h.s = true) (r : List Int) : hdR ⟨encH h ++ r, false⟩ = h ∧ hS5 ⟨encH h ++ r, false⟩ = ⟨r, false⟩ := by
  have hk := ok_type ht
  have e : encH h ++ r = lows (u64N h.name.size) 8 ++ (strL h.name ++ (lows (u64N h.k) 8 ++ (lows (u64N h.s) 8 ++ (lows (u64N (if h.null then 1 else 0)) 8 ++ r)))) := by
    unfold encH; simp only [List.append_assoc]
  obtain ⟨a1, a2⟩ := numi_of (x := (h.name.size : Int)) (by omega) (by omega) (strL h.name ++ (lows (u64N h.k) 8 ++ (lows (u64N h.s) 8 ++ (lows (u64N (if h.null then 1 else 0)) 8 ++ r))))
  obtain ⟨b1, b2⟩ := take_of (n := (h.name.size : Int)) (X := strL h.name) (by rw [strL_len]) (lows (u64N h.k) 8 ++ (lows (u64N h.s) 8 ++ (lows (u64N (if h.null then 1 else 0)) 8 ++ r)))
  obtain ⟨c1, c2⟩ := numi_of (x := h.k) (by omega) (by omega) (lows (u64N h.s) 8 ++ (lows (u64N (if h.null then 1 else 0)) 8 ++ r))
  obtain ⟨d1, d2⟩ := numi_of (x := h.s) (by omega) (by omega) (lows (u64N (if h.null then 1 else 0)) 8 ++ r)
  obtain ⟨e1, e2⟩ := numi_of (x := if h.null then 1 else 0) (by split <;> omega) (by split <;> omega) r
  have f2 : hS2 ⟨encH h ++ r, false⟩ = ⟨lows (u64N h.k) 8 ++ (lows (u64N h.s) 8 ++ (lows (u64N (if h.null then 1 else 0)) 8 ++ r)), false⟩ := by unfold hS2; rw [e, a1, a2, b2]
  have f3 : hS3 ⟨encH h ++ r, false⟩ = ⟨lows (u64N h.s) 8 ++ (lows (u64N (if h.null then 1 else 0)) 8 ++ r), false⟩ := by unfold hS3; rw [f2, c2]
  have f4 : hS4 ⟨encH h ++ r, false⟩ = ⟨lows (u64N (if h.null then 1 else 0)) 8 ++ r, false⟩ := by unfold hS4; rw [f3, d2]
  refine ⟨?_, by unfold hS5; rw [f4, e2]⟩
  unfold hdR
  rw [f2, f3, f4, c1, d1, e1, e, a1, a2, b1, str_strL]
  obtain ⟨nm, k, s, nl⟩ := h
  cases nl <;> rfl
theorem heads_of : ∀ (hs : List Hd) (r : List Int), (∀ h ∈ hs, h.name.size ≤ 64 ∧ okType h.k h.s = true) → headsR hs.length ⟨hs.flatMap encH ++ r, false⟩ = (hs, ⟨r, false⟩)
  | [], r, _ => rfl
  | h :: hs, r, hh => by
    have h1 := hh h (List.mem_cons_self ..)
    have ih := heads_of hs r (fun x hx => hh x (List.mem_cons_of_mem _ hx))
    obtain ⟨a, b⟩ := hd_of h1.1 h1.2 (hs.flatMap encH ++ r)
    rw [List.flatMap_cons, List.append_assoc, List.length_cons, headsR, if_neg (by simp), a, b, ih]
theorem ends_of : ∀ (es : List Int) (r : List Int) (z : Int), (∀ e ∈ es, 0 ≤ e ∧ e ≤ 4611686018427387904) → endsR es.length ⟨encE es ++ r, false⟩ z = (es, (es.getLast?).getD z, ⟨r, false⟩)
  | [], r, z, _ => rfl
  | e :: es, r, z, hh => by
    have h1 := hh e (List.mem_cons_self ..)
    have ih := ends_of es r e (fun x hx => hh x (List.mem_cons_of_mem _ hx))
    have e1 : encE (e :: es) ++ r = lows (u64N e) 8 ++ (encE es ++ r) := by unfold encE; rw [List.flatMap_cons, List.append_assoc]
    obtain ⟨a, b⟩ := numi_of h1.1 h1.2 (encE es ++ r)
    rw [e1, List.length_cons, endsR, if_neg (by simp), a, b, ih]
    cases es with
    | nil => rfl
    | cons x l => simp [List.getLast?_cons]
theorem words_of : ∀ (ws : List (List Int)) (r : List Int), (∀ t ∈ ws, t.length ≤ 4611686018427387904) → wordsR ws.length ⟨encW ws ++ r, false⟩ = (ws, ⟨r, false⟩)
  | [], r, _ => rfl
  | t :: ws, r, hh => by
    have h1 := hh t (List.mem_cons_self ..)
    have ih := words_of ws r (fun x hx => hh x (List.mem_cons_of_mem _ hx))
    have e1 : encW (t :: ws) ++ r = lows (u64N (t.length : Int)) 8 ++ (t ++ (encW ws ++ r)) := by unfold encW txtL; rw [List.flatMap_cons]; simp only [List.append_assoc]
    obtain ⟨a, b⟩ := numi_of (x := (t.length : Int)) (by omega) (by omega) (t ++ (encW ws ++ r))
    obtain ⟨c, d⟩ := take_of (n := (t.length : Int)) (X := t) rfl (encW ws ++ r)
    rw [e1, List.length_cons, wordsR, if_neg (by simp)]
    unfold hS2
    rw [a, b, c, d, ih]
theorem mask_len {m : Int} {bs : List Int} (h : maskOK m bs = true) : (bs.length : Int) = (m + 7) / 8 ∧ 0 ≤ m := by
  unfold maskOK at h
  rw [decide_eq_true_eq] at h
  obtain ⟨h1, h2, h3, _⟩ := h
  omega
theorem last_ahead {es : List Int} (h : es ≠ []) (z : Int) : (es.getLast?).getD z = aheadI es es.length := by
  unfold aheadI
  have hl : es.length ≠ 0 := fun e => h (List.eq_nil_of_length_eq_zero e)
  rw [if_neg hl, List.getLast?_eq_getElem?, List.getD_eq_getElem?_getD]
  have : es.length - 1 < es.length := by omega
  rw [List.getElem?_eq_getElem this]
  rfl
theorem run_facts {c : Col} (h : mayRunning c = true) : (c.ends.length : Int) = c.n ∧ c.words = [] ∧ (∀ e ∈ c.ends, 0 ≤ e ∧ e ≤ (c.data.length : Int)) ∧ aheadI c.ends c.ends.length = (c.data.length : Int) := by
  unfold mayRunning at h
  simp only [Bool.and_eq_true, beq_iff_eq, List.isEmpty_iff, List.all_eq_true, List.mem_range, Bool.not_eq_true', Bool.or_eq_false_iff, decide_eq_false_iff_not, Int.not_lt] at h
  obtain ⟨⟨⟨h1, h2⟩, h3⟩, h4⟩ := h
  have hge : ∀ i, i < c.ends.length → 0 ≤ c.ends.getD i 0 := by
    intro i
    induction i with
    | zero =>
      intro hi
      have := (h3 0 hi).1.1
      simpa [aheadI] using this
    | succ i ih =>
      intro hi
      have := (h3 (i + 1) hi).1.1
      have h0 := ih (by omega)
      have e : aheadI c.ends (i + 1) = c.ends.getD i 0 := by unfold aheadI; rw [if_neg (by omega)]; rfl
      rw [e] at this
      omega
  refine ⟨h1, h2, fun e he => ?_, h4⟩
  obtain ⟨i, hi, rfl⟩ := List.mem_iff_getElem.1 he
  have hg : c.ends.getD i 0 = c.ends[i] := by rw [List.getD_eq_getElem?_getD, List.getElem?_eq_getElem hi]; rfl
  have a := hge i hi
  have b := (h3 i hi).1.2
  rw [hg] at a b
  exact ⟨a, b⟩
theorem sized_facts {W : Nat} {c : Col} (hW : 0 < W) (h : sizedB W c = true) : (c.data.length : Int) = c.n * (W : Int) ∧ c.ends = [] := by
  unfold sizedB at h
  simp only [Bool.and_eq_true, beq_iff_eq, List.isEmpty_iff] at h
  obtain ⟨⟨h1, h2⟩, h3⟩ := h
  refine ⟨?_, h3⟩
  rw [← h2]
  have := Nat.div_add_mod c.data.length W
  rw [h1] at this
  have e : c.data.length = c.data.length / W * W := by rw [Nat.mul_comm]; omega
  exact_mod_cast e
theorem col_of {c : Col} (hc : COK c) (hz : checkC c = 0) (r : List Int) : colR c.k c.s c.n ⟨encC c ++ r, false⟩ = (c, ⟨r, false⟩) := by
  obtain ⟨ho, hm, hmn, hb⟩ := check_zero hz
  obtain ⟨hml, hm0⟩ := mask_len hm
  rw [hmn] at hml hm0
  have hld := hc.ld
  have hlw := hc.lw
  have hwl : ∀ t ∈ c.words, t.length ≤ 4611686018427387904 := fun t ht => by have := (hc.words t ht).2; omega
  obtain ⟨k, s, n, m, bits, data, ends, words⟩ := c
  dsimp only at *
  subst hmn
  have hn : ¬ 8 * (((⟨encC ⟨k, s, m, m, bits, data, ends, words⟩ ++ r, false⟩ : RS)).rest.length : Int) < m := by
    dsimp only
    unfold encC
    dsimp only
    simp only [List.length_append]
    omega
  unfold colR
  rw [if_neg hn]
  clear hn
  have key : ∀ (rest : List Int) (z : Int), encC ⟨k, s, m, m, bits, data, ends, words⟩ ++ r = bits ++ rest → takeL ((m + 7) / 8) ⟨encC ⟨k, s, m, m, bits, data, ends, words⟩ ++ r, false⟩ = bits ∧ takeS ((m + 7) / 8) ⟨encC ⟨k, s, m, m, bits, data, ends, words⟩ ++ r, false⟩ = ⟨rest, false⟩ := fun rest z e => by
    rw [e]; exact take_of hml rest
  unfold mayB at hb
  dsimp only at hb
  by_cases h15 : k = 15
  · rw [if_pos h15] at hb
    obtain ⟨q1, q2, q3, q4⟩ := run_facts hb
    dsimp only at q1 q2 q3 q4
    subst q2
    have e : encC ⟨k, s, m, m, bits, data, ends, []⟩ ++ r = bits ++ (encE ends ++ (data ++ r)) := by
      unfold encC; dsimp only; rw [if_neg (by omega)]; simp only [List.append_assoc, List.nil_append]
    obtain ⟨a1, a2⟩ := key _ 0 e
    have hmt : m.toNat = ends.length := by omega
    have hce : colEnds k m ⟨encC ⟨k, s, m, m, bits, data, ends, []⟩ ++ r, false⟩ = (ends, (data.length : Int), ⟨data ++ r, false⟩) := by
      unfold colEnds
      rw [if_pos h15, a2, hmt, ends_of ends (data ++ r) _ (fun x hx => ⟨(q3 x hx).1, by have := (q3 x hx).2; omega⟩)]
      by_cases he : ends = []
      · subst he
        have h0 : (data.length : Int) = 0 := by rw [← q4]; rfl
        have hm00 : m = 0 := by simpa using q1.symm
        rw [h0, hm00]; simp
      · rw [last_ahead he, q4]
    obtain ⟨b1, b2⟩ := take_of (n := (data.length : Int)) (X := data) rfl r
    have h3 : colS3 k m ⟨encC ⟨k, s, m, m, bits, data, ends, []⟩ ++ r, false⟩ = ⟨r, false⟩ := by unfold colS3; rw [hce, b2]
    have hw : colWords k ⟨r, false⟩ = ([], ⟨r, false⟩) := by unfold colWords; rw [if_neg (by omega)]
    rw [h3, hw, hce, a1, b1]
  · rw [if_neg h15] at hb
    by_cases h16 : k = 16
    · rw [if_pos h16] at hb
      unfold mayCoded at hb
      simp only [Bool.and_eq_true] at hb
      obtain ⟨q1, q2⟩ := sized_facts (by decide) hb.1.1
      dsimp only at q1 q2
      subst q2
      have e : encC ⟨k, s, m, m, bits, data, [], words⟩ ++ r = bits ++ (data ++ (lows (u64N (words.length : Int)) 8 ++ (encW words ++ r))) := by
        unfold encC; dsimp only; rw [if_pos h16]; simp only [encE, List.flatMap_nil, List.append_nil, List.append_assoc]
      obtain ⟨a1, a2⟩ := key _ 0 e
      have hw4 : widthOf k = 4 := by rw [h16]; rfl
      have hce : colEnds k m ⟨encC ⟨k, s, m, m, bits, data, [], words⟩ ++ r, false⟩ = ([], (data.length : Int), ⟨data ++ (lows (u64N (words.length : Int)) 8 ++ (encW words ++ r)), false⟩) := by
        unfold colEnds
        rw [if_neg h15, a2, hw4, q1]; rfl
      obtain ⟨b1, b2⟩ := take_of (n := (data.length : Int)) (X := data) rfl (lows (u64N (words.length : Int)) 8 ++ (encW words ++ r))
      have h3 : colS3 k m ⟨encC ⟨k, s, m, m, bits, data, [], words⟩ ++ r, false⟩ = ⟨lows (u64N (words.length : Int)) 8 ++ (encW words ++ r), false⟩ := by unfold colS3; rw [hce, b2]
      obtain ⟨c1, c2⟩ := numi_of (x := (words.length : Int)) (by omega) (by omega) (encW words ++ r)
      have hw : colWords k ⟨lows (u64N (words.length : Int)) 8 ++ (encW words ++ r), false⟩ = (words, ⟨r, false⟩) := by
        unfold colWords
        rw [if_pos h16, c1, c2, Int.toNat_natCast, words_of words r hwl]
      rw [h3, hw, hce, a1, b1]
    · rw [if_neg h16] at hb
      unfold mayFixed at hb
      simp only [Bool.and_eq_true, List.isEmpty_iff] at hb
      have hk := ok_type ho
      have hW : 0 < (widthOf k).toNat ∧ ((widthOf k).toNat : Int) = widthOf k := by
        unfold widthOf
        have h1 := hk.1
        have h2 := hk.2.1
        split
        · decide
        split
        · decide
        split
        · decide
        split
        · decide
        · omega
      obtain ⟨q1, q2⟩ := sized_facts hW.1 hb.1.1
      have q3 := hb.1.2
      dsimp only at q1 q2 q3
      subst q2
      subst q3
      have e : encC ⟨k, s, m, m, bits, data, [], []⟩ ++ r = bits ++ (data ++ r) := by
        unfold encC; dsimp only; rw [if_neg h16]; simp only [encE, List.flatMap_nil, List.append_nil, List.append_assoc]
      obtain ⟨a1, a2⟩ := key _ 0 e
      have hce : colEnds k m ⟨encC ⟨k, s, m, m, bits, data, [], []⟩ ++ r, false⟩ = ([], (data.length : Int), ⟨data ++ r, false⟩) := by
        unfold colEnds
        rw [if_neg h15, a2, q1, hW.2]
      obtain ⟨b1, b2⟩ := take_of (n := (data.length : Int)) (X := data) rfl r
      have h3 : colS3 k m ⟨encC ⟨k, s, m, m, bits, data, [], []⟩ ++ r, false⟩ = ⟨r, false⟩ := by unfold colS3; rw [hce, b2]
      have hw : colWords k ⟨r, false⟩ = ([], ⟨r, false⟩) := by unfold colWords; rw [if_neg h16]
      rw [h3, hw, hce, a1, b1]
def colsR (rows : Int) : List Hd → RS → List Col × RS
  | [], s => ([], s)
  | h :: hs, s => ((colR h.k h.s rows s).1 :: (colsR rows hs (colR h.k h.s rows s).2).1, (colsR rows hs (colR h.k h.s rows s).2).2)
theorem cols_of (rows : Int) : ∀ (hs : List Hd) (cs : List Col) (r : List Int), cs.length = hs.length → (∀ c ∈ cs, COK c) → (∀ i (hi : i < cs.length) (hh : i < hs.length), cs[i].k = hs[i].k ∧ cs[i].s = hs[i].s ∧ cs[i].n = rows ∧ checkC cs[i] = 0) → colsR rows hs ⟨cs.flatMap encC ++ r, false⟩ = (cs, ⟨r, false⟩)
  | [], [], r, _, _, _ => rfl
  | [], c :: cs, r, h, _, _ => by simp at h
  | h :: hs, [], r, hl, _, _ => by simp at hl
  | h :: hs, c :: cs, r, hl, hc, hh => by
    obtain ⟨e1, e2, e3, e4⟩ := hh 0 (by simp) (by simp)
    simp only [List.getElem_cons_zero] at e1 e2 e3 e4
    have ih := cols_of rows hs cs r (by simpa using hl) (fun x hx => hc x (List.mem_cons_of_mem _ hx)) (fun i hi hj => by
      have := hh (i + 1) (by simpa using hi) (by simpa using hj)
      simpa using this)
    have hcol := col_of (hc c (List.mem_cons_self ..)) e4 (cs.flatMap encC ++ r)
    rw [e1, e2, e3] at hcol
    rw [List.flatMap_cons, List.append_assoc, colsR, hcol, ih]
end Go.Proofs.Ytmhjjhaipcgbiaa
