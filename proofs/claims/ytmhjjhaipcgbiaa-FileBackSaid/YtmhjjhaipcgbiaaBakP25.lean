/- Texts of this claim, one behind the other: Ft, Fe0, Twin. -/
import Derived.Test.YtmhjjhaipcgbiaaBakP24
import Derived.Test.YtmhjjhaipcgbiaaBakP18
import Derived.Test.YtmhjjhaipcgbiaaBakP23
import Derived.Test.YtmhjjhaipcgbiaaBakP17
import Derived.Test.YtmhjjhaipcgbiaaBakP20
import Derived.Test.YtmhjjhaipcgbiaaBakP10

namespace Go.Proofs.Ytmhjjhaipcgbiaa
open Go.RowKit
set_option linter.unusedVariables false
set_option linter.unusedSimpArgs false
set_option maxRecDepth 100000
set_option maxHeartbeats 1000000
structure Tb where
  hs : List Hd
  rows : Int
  cs : List Col
def tbV (t : Tb) (H C : SL) : Value := .agg #[.slice H.a t.hs.length H.c, .int .i64 t.rows, .slice C.a t.cs.length C.c]
def colL (c : Col) (B D E X : SL) : List Value := [.int .i64 c.k, .int .i64 c.s, .int .i64 c.n, .int .i64 c.m, .slice B.a c.bits.length B.c, .slice D.a c.data.length D.c, .slice E.a c.ends.length E.c, .slice X.a c.words.length X.c]
def RdCs (w : World) (C : SL) (cs : List Col) : Prop :=
  ∃ xs, Rd w 8 (.slice C.a cs.length C.c) cs.length xs ∧ ∀ (i : Nat) c, cs[i]? = some c → ∃ B D E X va, (∀ (j : Nat) u, (colL c B D E X)[j]? = some u → xs[i * 8 + j]? = some u) ∧ RdC w c B D E X va
theorem RdCs.below {w w' : World} {C : SL} {cs : List Col} (h : RdCs w C cs) (hb : Below w.heap.size w w') : RdCs w' C cs := by
  obtain ⟨xs, h1, h2⟩ := h
  exact ⟨xs, h1.below hb, fun i c hi => by obtain ⟨B, D, E, X, va, a, b⟩ := h2 i c hi; exact ⟨B, D, E, X, va, a, b.below hb⟩⟩
structure C8 (w : World) (b o : Nat) (c : Col) (B D E X : SL) : Prop where
  x0 : w.cell? ⟨b, o, none⟩ = some (.int .i64 c.k)
  x1 : w.cell? ⟨b, o + 1, none⟩ = some (.int .i64 c.s)
  x2 : w.cell? ⟨b, o + 2, none⟩ = some (.int .i64 c.n)
  x3 : w.cell? ⟨b, o + 3, none⟩ = some (.int .i64 c.m)
  x4 : w.cell? ⟨b, o + 4, none⟩ = some (.slice B.a c.bits.length B.c)
  x5 : w.cell? ⟨b, o + 5, none⟩ = some (.slice D.a c.data.length D.c)
  x6 : w.cell? ⟨b, o + 6, none⟩ = some (.slice E.a c.ends.length E.c)
  x7 : w.cell? ⟨b, o + 7, none⟩ = some (.slice X.a c.words.length X.c)
theorem C8.below {w w' : World} {b o : Nat} {c : Col} {B D E X : SL} (h : C8 w b o c B D E X) (hb : Below w.heap.size w w') : C8 w' b o c B D E X := by
  have hl := World.block_lt_of_cell? _ _ h.x0
  exact ⟨(hb.cell (p := ⟨b, o, none⟩) hl).trans h.x0, (hb.cell (p := ⟨b, o + 1, none⟩) hl).trans h.x1, (hb.cell (p := ⟨b, o + 2, none⟩) hl).trans h.x2, (hb.cell (p := ⟨b, o + 3, none⟩) hl).trans h.x3, (hb.cell (p := ⟨b, o + 4, none⟩) hl).trans h.x4, (hb.cell (p := ⟨b, o + 5, none⟩) hl).trans h.x5, (hb.cell (p := ⟨b, o + 6, none⟩) hl).trans h.x6, (hb.cell (p := ⟨b, o + 7, none⟩) hl).trans h.x7⟩
theorem RdCs.at {w : World} {C : SL} {cs : List Col} (h : RdCs w C cs) {i : Nat} (hi : i < cs.length) : ∃ b off B D E X va, C.a = some ⟨b, off, none⟩ ∧ cs.length ≤ C.c ∧ C.c ≤ 9223372036854775807 ∧ C8 w b (off + i * 8) cs[i] B D E X ∧ RdC w cs[i] B D E X va := by
  obtain ⟨xs, h1, h2⟩ := h
  obtain ⟨B, D, E, X, va, a, hr⟩ := h2 i _ (List.getElem?_eq_getElem hi)
  obtain ⟨g, off, cap, e, q1, q2, hc⟩ := h1.some_ (by rw [h1.len]; omega)
  simp only [Value.slice.injEq, true_and] at e
  obtain ⟨e1, e2⟩ := e
  refine ⟨g, off, B, D, E, X, va, e1, e2 ▸ q1, e2 ▸ q2, ⟨?_, ?_, ?_, ?_, ?_, ?_, ?_, ?_⟩, hr⟩
  · exact hc _ _ (a 0 _ rfl)
  · rw [Nat.add_assoc]; exact hc _ _ (a 1 _ rfl)
  · rw [Nat.add_assoc]; exact hc _ _ (a 2 _ rfl)
  · rw [Nat.add_assoc]; exact hc _ _ (a 3 _ rfl)
  · rw [Nat.add_assoc]; exact hc _ _ (a 4 _ rfl)
  · rw [Nat.add_assoc]; exact hc _ _ (a 5 _ rfl)
  · rw [Nat.add_assoc]; exact hc _ _ (a 6 _ rfl)
  · rw [Nat.add_assoc]; exact hc _ _ (a 7 _ rfl)
structure RdTb (w : World) (t : Tb) (H C : SL) : Prop where
  h : RdH w H t.hs
  c : RdCs w C t.cs
theorem RdTb.below {w w' : World} {t : Tb} {H C : SL} (h : RdTb w t H C) (hb : Below w.heap.size w w') : RdTb w' t H C := ⟨h.h.below hb, h.c.below hb⟩
structure TbOK (t : Tb) : Prop where
  hl : t.hs.length ≤ 10000000
  cl : t.cs.length ≤ 10000000
  hn : NamesOK t.hs
  cok : ∀ c ∈ t.cs, COK c
def TableP (t : Tb) : Prop := SchemaP t.hs ∧ t.cs.length = t.hs.length ∧ ∀ i (hi : i < t.cs.length) (hh : i < t.hs.length), t.cs[i].k = t.hs[i].k ∧ t.cs[i].s = t.hs[i].s ∧ t.cs[i].n = t.rows ∧ checkC t.cs[i] = 0
def ChkE (p : Prop) (n : Int) (w : World) (e : Ending) (w' : World) : Prop := ∃ r : Int, e = .returned (.int .i64 r) ∧ (p → r = 0) ∧ (¬ p → r = n) ∧ Below w.heap.size w w'
theorem box3t {w : World} {b : Nat} {x0 x1 x2 : Value} {T : TypeId} (h : w.heap[b]? = some (.cells #[x0, x1, x2] T (0, 0))) : w.cell? ⟨b, 0, none⟩ = some x0 ∧ w.cell? ⟨b, 1, none⟩ = some x1 ∧ w.cell? ⟨b, 2, none⟩ = some x2 := by
  refine ⟨?_, ?_, ?_⟩ <;> (rw [cell_blk h]; rfl)
theorem emit_any (t : Tb) (ht : TbOK t) (H C : SL) (w : World) (h : RdTb w t H C) : Calls Try.prog 73 #[tbV t H C] w (ChkE (TableP t) 241 w) := by
  obtain ⟨hs, rows, cs⟩ := t
  have HR := Aside.mk h
  have HOK := Aside.mk ht
  have hl := ht.hl
  have hcl := ht.cl
  dsimp only at hl hcl
  have HSC := Aside.mk (fun W (hb : Below w.heap.size w W) => schema_any hs ht.hl ht.hn H W (h.h.below hb))
  clear h ht
  dsimp only [tbV]
  have HB := Aside.mk (below_new w (.cells #[.slice H.a hs.length H.c, .int .i64 rows, .slice C.a cs.length C.c] 73))
  have HX := Aside.mk (heap_alloc_new w (.cells #[.slice H.a hs.length H.c, .int .i64 rows, .slice C.a cs.length C.c] 73))
  by_cases hS : SchemaP hs
  rotate_left
  · have HN := Aside.mk (show ¬ TableP ⟨hs, rows, cs⟩ from fun h => hS h.1)
    have HSS := Aside.mk hS
    clear hS
    go_enter Try.func73, Try.ntmps73
    go_wp2_with (go_at_call 83; refine (HSC.out _ HB.out).mono ?_; rintro e w2 ⟨r, rfl, hr, hb⟩; have HB2 := Aside.mk (below_chain HB.out hb); have hr0 : (r != 0) = true := (by simpa using fun e => HSS.out (hr.1 e)); clear hr hb)
    go_ret
    exact ⟨241, rfl, fun h => absurd h HN.out, fun _ => rfl, HB2.out⟩
  have HSS := Aside.mk hS
  clear hS
  by_cases hcn : cs.length = hs.length
  rotate_left
  · have HN := Aside.mk (show ¬ TableP ⟨hs, rows, cs⟩ from fun h => hcn h.2.1)
    have hcn' : ((cs.length : Int) != (hs.length : Int)) = true := by simpa using (show ¬ (cs.length : Int) = hs.length by omega)
    clear hcn
    go_enter Try.func73, Try.ntmps73
    go_wp2_with (go_at_call 83; refine (HSC.out _ HB.out).mono ?_; rintro e w2 ⟨r, rfl, hr, hb⟩; have HB2 := Aside.mk (below_chain HB.out hb); obtain rfl := hr.2 HSS.out; have hx := (hb.block _ (lt_of_blk HX.out)).trans HX.out; obtain ⟨t0, t1, t2⟩ := box3t hx; clear hr hb hx)
    go_ret
    exact ⟨241, rfl, fun h => absurd h HN.out, fun _ => rfl, HB2.out⟩
  have hcn' : ((cs.length : Int) != (hs.length : Int)) = false := by rw [hcn]; simp
  have HCN := Aside.mk hcn
  clear hcn
  go_enter Try.func73, Try.ntmps73
  go_wp2_with (go_at_call 83; refine (HSC.out _ HB.out).mono ?_; rintro e w2 ⟨r, rfl, hr, hb⟩; have HB2 := Aside.mk (below_chain HB.out hb); obtain rfl := hr.2 HSS.out; have HX2 := Aside.mk ((hb.block _ (lt_of_blk HX.out)).trans HX.out); obtain ⟨t0, t1, t2⟩ := box3t HX2.out; clear hr hb)
  clear t0 t1 t2 hcn'
  go_loopw [3, 4, 21] (fun _ _ iv wr => ∃ i : Nat, i ≤ cs.length ∧ iv = .int .i64 (i : Int) ∧ Aside (Below w.heap.size w wr ∧ wr.heap[w.heap.size]? = some (.cells #[.slice H.a hs.length H.c, .int .i64 rows, .slice C.a cs.length C.c] 73 (0, 0))) ∧ Aside (∀ j (hj : j < i) (hh : j < cs.length) (hk : j < hs.length), cs[j].k = hs[j].k ∧ cs[j].s = hs[j].s ∧ cs[j].n = rows ∧ checkC cs[j] = 0)) (fun _ _ iv _ => cs.length - (intOf iv).toNat)
  case atStart => exact ⟨0, by omega, rfl, ⟨HB2.out, HX2.out⟩, ⟨fun j hj => by omega⟩⟩
  case round =>
    clear HB2 HX2
    obtain ⟨i, hi, rfl, HW, HA⟩ := hrel
    by_cases hlt : i < cs.length
    · have hlh : i < hs.length := by have := HCN.out; omega
      obtain ⟨g, off, B, D, E, X, va, e1, q1, q2, h8, hrc⟩ := (HR.out.c.below HW.out.1).at hlt
      obtain ⟨g2, off2, e2, q3, q4, v0, v1, v2, v3⟩ := (HR.out.h.below HW.out.1).at hlh
      have HCK := Aside.mk (HOK.out.cok _ (List.getElem_mem hlt))
      have HNX := Aside.mk (fun (hy : cs[i].k = hs[i].k ∧ cs[i].s = hs[i].s ∧ cs[i].n = rows ∧ checkC cs[i] = 0) j (hj : j < i + 1) (hh : j < cs.length) (hk : j < hs.length) => (by
        rcases Nat.lt_or_ge j i with h1 | h1
        · exact HA.out j h1 hh hk
        · have : j = i := by omega
          subst this; exact hy : cs[j].k = hs[j].k ∧ cs[j].s = hs[j].s ∧ cs[j].n = rows ∧ checkC cs[j] = 0))
      have HNN := Aside.mk (fun (hy : ¬ (cs[i].k = hs[i].k ∧ cs[i].s = hs[i].s ∧ cs[i].n = rows ∧ checkC cs[i] = 0)) => (show ¬ TableP ⟨hs, rows, cs⟩ from fun h => hy (h.2.2 i hlt hlh)))
      obtain ⟨y0, y1, y2, y3, y4, y5, y6, y7⟩ := h8
      have HRC := Aside.mk hrc
      have ha1 : C.a = some ⟨g, off, none⟩ := e1
      have ha2 : H.a = some ⟨g2, off2, none⟩ := e2
      clear hrc HA e1 e2
      generalize cs[i] = c at *
      generalize hs[i] = hd at *
      obtain ⟨t0, t1, t2⟩ := box3t HW.out.2
      go_upto_region 6 with fail
      have hbw := below_new wr (.cells #[.int .i64 c.k, .int .i64 c.s, .int .i64 c.n, .int .i64 c.m, .slice B.a c.bits.length B.c, .slice D.a c.data.length D.c, .slice E.a c.ends.length E.c, .slice X.a c.words.length X.c] 43)
      have hcb := heap_alloc_new wr (.cells #[.int .i64 c.k, .int .i64 c.s, .int .i64 c.n, .int .i64 c.m, .slice B.a c.bits.length B.c, .slice D.a c.data.length D.c, .slice E.a c.ends.length E.c, .slice X.a c.words.length X.c] 43)
      have HBW := Aside.mk (below_chain HW.out.1 hbw)
      have HTB := Aside.mk ((hbw.block _ (lt_of_blk HW.out.2)).trans HW.out.2)
      have HRC5 := Aside.mk (HRC.out.below hbw)
      replace v1 := (hbw.cell (p := ⟨g2, off2 + i * 4 + 1, none⟩) (World.block_lt_of_cell? _ _ v1)).trans v1
      replace v2 := (hbw.cell (p := ⟨g2, off2 + i * 4 + 2, none⟩) (World.block_lt_of_cell? _ _ v2)).trans v2
      have HCB := Aside.mk hcb
      clear y0 y1 y2 y3 y4 y5 y6 y7 t0 t1 t2 v0 v3 hcb hbw HRC
      generalize wr.alloc (.cells #[.int .i64 c.k, .int .i64 c.s, .int .i64 c.n, .int .i64 c.m, .slice B.a c.bits.length B.c, .slice D.a c.data.length D.c, .slice E.a c.ends.length E.c, .slice X.a c.words.length X.c] 43) = w5 at *
      have HCC := Aside.mk (fun W hr => check_any c HCK.out B D E X va W hr)
      dsimp only [colV] at HCC
      by_cases hk : c.k = hd.k
      · by_cases hs' : c.s = hd.s
        · by_cases hn : c.n = rows
          · by_cases hz : checkC c = 0
            · have HNY := Aside.mk (HNX.out ⟨hk, hs', hn, hz⟩)
              rw [hz] at HCC
              rw [← hk] at v1
              rw [← hs'] at v2
              clear hk hs' hz HNX HNN
              have hnn : (c.n != rows) = false := by simpa using hn
              clear hn
              refine wp_region_calm (by kernel_rfl) (by kernel_rfl) ?_
              refine calm_take (by rfl) ?v1000 (fun w' hw' => ?hy1000) ?rest1000
              case hy1000 => go_simp <;> first | rfl | skip
              simp only [Act.put, List.setIfInBounds_toArray, List.set_cons_zero, List.set_cons_succ]
              refine calm_take (by rfl) ?v1001 (fun w' hw' => ?hy1001) ?rest1001
              case hy1001 => obtain ⟨c0, c1, c2, c3, c4, c5, c6, c7⟩ := box8 ((hw'.block _ (lt_of_blk HCB.out)).trans HCB.out); obtain ⟨t0, t1, t2⟩ := box3t ((hw'.block _ (lt_of_blk HTB.out)).trans HTB.out); have p1 := (hw'.cell (p := ⟨g2, off2 + i * 4 + 1, none⟩) (World.block_lt_of_cell? _ _ v1)).trans v1; have p2 := (hw'.cell (p := ⟨g2, off2 + i * 4 + 2, none⟩) (World.block_lt_of_cell? _ _ v2)).trans v2; go_simp <;> first | rfl | skip
              simp only [Act.put, List.setIfInBounds_toArray, List.set_cons_zero, List.set_cons_succ]
              refine calm_take (by rfl) ?v1002 (fun w' hw' => ?hy1002) ?rest1002
              case hy1002 => go_simp <;> first | rfl | skip
              simp only [Act.put, List.setIfInBounds_toArray, List.set_cons_zero, List.set_cons_succ]
              refine calm_take (by rfl) ?v1003 (fun w' hw' => ?hy1003) ?rest1003
              case hy1003 => obtain ⟨c0, c1, c2, c3, c4, c5, c6, c7⟩ := box8 ((hw'.block _ (lt_of_blk HCB.out)).trans HCB.out); obtain ⟨t0, t1, t2⟩ := box3t ((hw'.block _ (lt_of_blk HTB.out)).trans HTB.out); have p1 := (hw'.cell (p := ⟨g2, off2 + i * 4 + 1, none⟩) (World.block_lt_of_cell? _ _ v1)).trans v1; have p2 := (hw'.cell (p := ⟨g2, off2 + i * 4 + 2, none⟩) (World.block_lt_of_cell? _ _ v2)).trans v2; go_simp <;> first | rfl | skip
              simp only [Act.put, List.setIfInBounds_toArray, List.set_cons_zero, List.set_cons_succ]
              refine calm_take (by rfl) ?v1004 (fun w' hw' => ?hy1004) ?rest1004
              case hy1004 => go_simp <;> first | rfl | skip
              simp only [Act.put, List.setIfInBounds_toArray, List.set_cons_zero, List.set_cons_succ]
              refine calm_take (by rfl) ?v1005 (fun w' hw' => ?hy1005) ?rest1005
              case hy1005 => go_simp <;> first | rfl | skip
              simp only [Act.put, List.setIfInBounds_toArray, List.set_cons_zero, List.set_cons_succ]
              refine calm_take (by rfl) ?v1006 (fun w' hw' => ?hy1006) ?rest1006
              case hy1006 => go_simp <;> first | rfl | skip
              simp only [Act.put, List.setIfInBounds_toArray, List.set_cons_zero, List.set_cons_succ]
              refine calm_take (by rfl) ?v1007 (fun w' hw' => ?hy1007) ?rest1007
              case hy1007 => obtain ⟨c0, c1, c2, c3, c4, c5, c6, c7⟩ := box8 ((hw'.block _ (lt_of_blk HCB.out)).trans HCB.out); obtain ⟨t0, t1, t2⟩ := box3t ((hw'.block _ (lt_of_blk HTB.out)).trans HTB.out); have p1 := (hw'.cell (p := ⟨g2, off2 + i * 4 + 1, none⟩) (World.block_lt_of_cell? _ _ v1)).trans v1; have p2 := (hw'.cell (p := ⟨g2, off2 + i * 4 + 2, none⟩) (World.block_lt_of_cell? _ _ v2)).trans v2; go_simp <;> first | rfl | skip
              simp only [Act.put, List.setIfInBounds_toArray, List.set_cons_zero, List.set_cons_succ]
              refine calm_take (by rfl) ?v1008 (fun w' hw' => ?hy1008) ?rest1008
              case hy1008 => go_simp <;> first | rfl | skip
              simp only [Act.put, List.setIfInBounds_toArray, List.set_cons_zero, List.set_cons_succ]
              refine calm_take (by rfl) ?v1009 (fun w' hw' => ?hy1009) ?rest1009
              case hy1009 => go_simp <;> first | rfl | skip
              simp only [Act.put, List.setIfInBounds_toArray, List.set_cons_zero, List.set_cons_succ]
              refine calm_take (by rfl) ?v1010 (fun w' hw' => ?hy1010) ?rest1010
              case hy1010 => go_simp <;> first | rfl | skip
              simp only [Act.put, List.setIfInBounds_toArray, List.set_cons_zero, List.set_cons_succ]
              refine calm_take (by rfl) ?v1011 (fun w' hw' => ?hy1011) ?rest1011
              case hy1011 => obtain ⟨c0, c1, c2, c3, c4, c5, c6, c7⟩ := box8 ((hw'.block _ (lt_of_blk HCB.out)).trans HCB.out); obtain ⟨t0, t1, t2⟩ := box3t ((hw'.block _ (lt_of_blk HTB.out)).trans HTB.out); have p1 := (hw'.cell (p := ⟨g2, off2 + i * 4 + 1, none⟩) (World.block_lt_of_cell? _ _ v1)).trans v1; have p2 := (hw'.cell (p := ⟨g2, off2 + i * 4 + 2, none⟩) (World.block_lt_of_cell? _ _ v2)).trans v2; go_simp <;> first | rfl | skip
              simp only [Act.put, List.setIfInBounds_toArray, List.set_cons_zero, List.set_cons_succ]
              refine calm_take (by rfl) ?v1012 (fun w' hw' => ?hy1012) ?rest1012
              case hy1012 => go_simp <;> first | rfl | skip
              simp only [Act.put, List.setIfInBounds_toArray, List.set_cons_zero, List.set_cons_succ]
              refine calm_take (by rfl) ?v1013 (fun w' hw' => ?hy1013) ?rest1013
              case hy1013 => obtain ⟨c0, c1, c2, c3, c4, c5, c6, c7⟩ := box8 ((hw'.block _ (lt_of_blk HCB.out)).trans HCB.out); obtain ⟨t0, t1, t2⟩ := box3t ((hw'.block _ (lt_of_blk HTB.out)).trans HTB.out); have p1 := (hw'.cell (p := ⟨g2, off2 + i * 4 + 1, none⟩) (World.block_lt_of_cell? _ _ v1)).trans v1; have p2 := (hw'.cell (p := ⟨g2, off2 + i * 4 + 2, none⟩) (World.block_lt_of_cell? _ _ v2)).trans v2; go_simp <;> first | rfl | skip
              simp only [Act.put, List.setIfInBounds_toArray, List.set_cons_zero, List.set_cons_succ]
              refine calm_take (by rfl) ?v1014 (fun w' hw' => ?hy1014) ?rest1014
              case hy1014 => go_simp <;> first | rfl | skip
              simp only [Act.put, List.setIfInBounds_toArray, List.set_cons_zero, List.set_cons_succ]
              refine calm_take (by rfl) ?v1015 (fun w' hw' => ?hy1015) ?rest1015
              case hy1015 => go_simp <;> first | rfl | skip
              simp only [Act.put, List.setIfInBounds_toArray, List.set_cons_zero, List.set_cons_succ]
              refine calm_take (by rfl) ?v1016 (fun w' hw' => ?hy1016) ?rest1016
              case hy1016 => go_simp <;> first | rfl | skip
              simp only [Act.put, List.setIfInBounds_toArray, List.set_cons_zero, List.set_cons_succ]
              refine calm_take (by rfl) ?v1017 (fun w' hw' => ?hy1017) ?rest1017
              case hy1017 => obtain ⟨c0, c1, c2, c3, c4, c5, c6, c7⟩ := box8 ((hw'.block _ (lt_of_blk HCB.out)).trans HCB.out); obtain ⟨t0, t1, t2⟩ := box3t ((hw'.block _ (lt_of_blk HTB.out)).trans HTB.out); have p1 := (hw'.cell (p := ⟨g2, off2 + i * 4 + 1, none⟩) (World.block_lt_of_cell? _ _ v1)).trans v1; have p2 := (hw'.cell (p := ⟨g2, off2 + i * 4 + 2, none⟩) (World.block_lt_of_cell? _ _ v2)).trans v2; go_simp <;> first | rfl | skip
              simp only [Act.put, List.setIfInBounds_toArray, List.set_cons_zero, List.set_cons_succ]
              refine' calm_call (by rfl) (.int .i64 0) ?nx1018 (fun w' => ?hr1018) _ _ ?hn1018 (fun w' hw' => ?hc1018) ?rest1018
              case hr1018 => go_simp <;> rfl
              case hn1018 => rfl
              case hc1018 => exact (HCC.out w' (HRC5.out.below hw')).mono (by rintro e w3 ⟨rfl, hb3⟩; exact ⟨rfl, below_chain hw' hb3⟩)
              simp only [Act.put, List.setIfInBounds_toArray, List.set_cons_zero, List.set_cons_succ]
              refine calm_take (by rfl) ?v1019 (fun w' hw' => ?hy1019) ?rest1019
              case hy1019 => go_simp <;> first | rfl | skip
              simp only [Act.put, List.setIfInBounds_toArray, List.set_cons_zero, List.set_cons_succ]
              refine calm_take (by rfl) ?v1020 (fun w' hw' => ?hy1020) ?rest1020
              case hy1020 => go_simp <;> first | rfl | skip
              simp only [Act.put, List.setIfInBounds_toArray, List.set_cons_zero, List.set_cons_succ]
              refine wpQuiet_nil (fun w' hw' => ?_)
              go_wp2_with fail
              exact ⟨⟨i + 1, by omega, by simp, ⟨below_chain HBW.out hw', (hw'.block _ (lt_of_blk HTB.out)).trans HTB.out⟩, HNY⟩, by simp [intOf]; omega⟩
            · have HNY := Aside.mk (HNN.out (fun h => hz h.2.2.2))
              have hzz : (checkC c != 0) = true := by simpa using hz
              rw [← hk] at v1
              rw [← hs'] at v2
              clear hk hs' hz HNX HNN
              have hnn : (c.n != rows) = false := by simpa using hn
              clear hn
              generalize checkC c = z at *
              refine wp_region_calm (by kernel_rfl) (by kernel_rfl) ?_
              refine calm_take (by rfl) ?v2000 (fun w' hw' => ?hy2000) ?rest2000
              case hy2000 => go_simp <;> first | rfl | skip
              simp only [Act.put, List.setIfInBounds_toArray, List.set_cons_zero, List.set_cons_succ]
              refine calm_take (by rfl) ?v2001 (fun w' hw' => ?hy2001) ?rest2001
              case hy2001 => obtain ⟨c0, c1, c2, c3, c4, c5, c6, c7⟩ := box8 ((hw'.block _ (lt_of_blk HCB.out)).trans HCB.out); obtain ⟨t0, t1, t2⟩ := box3t ((hw'.block _ (lt_of_blk HTB.out)).trans HTB.out); have p1 := (hw'.cell (p := ⟨g2, off2 + i * 4 + 1, none⟩) (World.block_lt_of_cell? _ _ v1)).trans v1; have p2 := (hw'.cell (p := ⟨g2, off2 + i * 4 + 2, none⟩) (World.block_lt_of_cell? _ _ v2)).trans v2; go_simp <;> first | rfl | skip
              simp only [Act.put, List.setIfInBounds_toArray, List.set_cons_zero, List.set_cons_succ]
              refine calm_take (by rfl) ?v2002 (fun w' hw' => ?hy2002) ?rest2002
              case hy2002 => go_simp <;> first | rfl | skip
              simp only [Act.put, List.setIfInBounds_toArray, List.set_cons_zero, List.set_cons_succ]
              refine calm_take (by rfl) ?v2003 (fun w' hw' => ?hy2003) ?rest2003
              case hy2003 => obtain ⟨c0, c1, c2, c3, c4, c5, c6, c7⟩ := box8 ((hw'.block _ (lt_of_blk HCB.out)).trans HCB.out); obtain ⟨t0, t1, t2⟩ := box3t ((hw'.block _ (lt_of_blk HTB.out)).trans HTB.out); have p1 := (hw'.cell (p := ⟨g2, off2 + i * 4 + 1, none⟩) (World.block_lt_of_cell? _ _ v1)).trans v1; have p2 := (hw'.cell (p := ⟨g2, off2 + i * 4 + 2, none⟩) (World.block_lt_of_cell? _ _ v2)).trans v2; go_simp <;> first | rfl | skip
              simp only [Act.put, List.setIfInBounds_toArray, List.set_cons_zero, List.set_cons_succ]
              refine calm_take (by rfl) ?v2004 (fun w' hw' => ?hy2004) ?rest2004
              case hy2004 => go_simp <;> first | rfl | skip
              simp only [Act.put, List.setIfInBounds_toArray, List.set_cons_zero, List.set_cons_succ]
              refine calm_take (by rfl) ?v2005 (fun w' hw' => ?hy2005) ?rest2005
              case hy2005 => go_simp <;> first | rfl | skip
              simp only [Act.put, List.setIfInBounds_toArray, List.set_cons_zero, List.set_cons_succ]
              refine calm_take (by rfl) ?v2006 (fun w' hw' => ?hy2006) ?rest2006
              case hy2006 => go_simp <;> first | rfl | skip
              simp only [Act.put, List.setIfInBounds_toArray, List.set_cons_zero, List.set_cons_succ]
              refine calm_take (by rfl) ?v2007 (fun w' hw' => ?hy2007) ?rest2007
              case hy2007 => obtain ⟨c0, c1, c2, c3, c4, c5, c6, c7⟩ := box8 ((hw'.block _ (lt_of_blk HCB.out)).trans HCB.out); obtain ⟨t0, t1, t2⟩ := box3t ((hw'.block _ (lt_of_blk HTB.out)).trans HTB.out); have p1 := (hw'.cell (p := ⟨g2, off2 + i * 4 + 1, none⟩) (World.block_lt_of_cell? _ _ v1)).trans v1; have p2 := (hw'.cell (p := ⟨g2, off2 + i * 4 + 2, none⟩) (World.block_lt_of_cell? _ _ v2)).trans v2; go_simp <;> first | rfl | skip
              simp only [Act.put, List.setIfInBounds_toArray, List.set_cons_zero, List.set_cons_succ]
              refine calm_take (by rfl) ?v2008 (fun w' hw' => ?hy2008) ?rest2008
              case hy2008 => go_simp <;> first | rfl | skip
              simp only [Act.put, List.setIfInBounds_toArray, List.set_cons_zero, List.set_cons_succ]
              refine calm_take (by rfl) ?v2009 (fun w' hw' => ?hy2009) ?rest2009
              case hy2009 => go_simp <;> first | rfl | skip
              simp only [Act.put, List.setIfInBounds_toArray, List.set_cons_zero, List.set_cons_succ]
              refine calm_take (by rfl) ?v2010 (fun w' hw' => ?hy2010) ?rest2010
              case hy2010 => go_simp <;> first | rfl | skip
              simp only [Act.put, List.setIfInBounds_toArray, List.set_cons_zero, List.set_cons_succ]
              refine calm_take (by rfl) ?v2011 (fun w' hw' => ?hy2011) ?rest2011
              case hy2011 => obtain ⟨c0, c1, c2, c3, c4, c5, c6, c7⟩ := box8 ((hw'.block _ (lt_of_blk HCB.out)).trans HCB.out); obtain ⟨t0, t1, t2⟩ := box3t ((hw'.block _ (lt_of_blk HTB.out)).trans HTB.out); have p1 := (hw'.cell (p := ⟨g2, off2 + i * 4 + 1, none⟩) (World.block_lt_of_cell? _ _ v1)).trans v1; have p2 := (hw'.cell (p := ⟨g2, off2 + i * 4 + 2, none⟩) (World.block_lt_of_cell? _ _ v2)).trans v2; go_simp <;> first | rfl | skip
              simp only [Act.put, List.setIfInBounds_toArray, List.set_cons_zero, List.set_cons_succ]
              refine calm_take (by rfl) ?v2012 (fun w' hw' => ?hy2012) ?rest2012
              case hy2012 => go_simp <;> first | rfl | skip
              simp only [Act.put, List.setIfInBounds_toArray, List.set_cons_zero, List.set_cons_succ]
              refine calm_take (by rfl) ?v2013 (fun w' hw' => ?hy2013) ?rest2013
              case hy2013 => obtain ⟨c0, c1, c2, c3, c4, c5, c6, c7⟩ := box8 ((hw'.block _ (lt_of_blk HCB.out)).trans HCB.out); obtain ⟨t0, t1, t2⟩ := box3t ((hw'.block _ (lt_of_blk HTB.out)).trans HTB.out); have p1 := (hw'.cell (p := ⟨g2, off2 + i * 4 + 1, none⟩) (World.block_lt_of_cell? _ _ v1)).trans v1; have p2 := (hw'.cell (p := ⟨g2, off2 + i * 4 + 2, none⟩) (World.block_lt_of_cell? _ _ v2)).trans v2; go_simp <;> first | rfl | skip
              simp only [Act.put, List.setIfInBounds_toArray, List.set_cons_zero, List.set_cons_succ]
              refine calm_take (by rfl) ?v2014 (fun w' hw' => ?hy2014) ?rest2014
              case hy2014 => go_simp <;> first | rfl | skip
              simp only [Act.put, List.setIfInBounds_toArray, List.set_cons_zero, List.set_cons_succ]
              refine calm_take (by rfl) ?v2015 (fun w' hw' => ?hy2015) ?rest2015
              case hy2015 => go_simp <;> first | rfl | skip
              simp only [Act.put, List.setIfInBounds_toArray, List.set_cons_zero, List.set_cons_succ]
              refine calm_take (by rfl) ?v2016 (fun w' hw' => ?hy2016) ?rest2016
              case hy2016 => go_simp <;> first | rfl | skip
              simp only [Act.put, List.setIfInBounds_toArray, List.set_cons_zero, List.set_cons_succ]
              refine calm_take (by rfl) ?v2017 (fun w' hw' => ?hy2017) ?rest2017
              case hy2017 => obtain ⟨c0, c1, c2, c3, c4, c5, c6, c7⟩ := box8 ((hw'.block _ (lt_of_blk HCB.out)).trans HCB.out); obtain ⟨t0, t1, t2⟩ := box3t ((hw'.block _ (lt_of_blk HTB.out)).trans HTB.out); have p1 := (hw'.cell (p := ⟨g2, off2 + i * 4 + 1, none⟩) (World.block_lt_of_cell? _ _ v1)).trans v1; have p2 := (hw'.cell (p := ⟨g2, off2 + i * 4 + 2, none⟩) (World.block_lt_of_cell? _ _ v2)).trans v2; go_simp <;> first | rfl | skip
              simp only [Act.put, List.setIfInBounds_toArray, List.set_cons_zero, List.set_cons_succ]
              refine' calm_call (by rfl) (.int .i64 z) ?nx2018 (fun w' => ?hr2018) _ _ ?hn2018 (fun w' hw' => ?hc2018) ?rest2018
              case hr2018 => go_simp <;> rfl
              case hn2018 => rfl
              case hc2018 => exact (HCC.out w' (HRC5.out.below hw')).mono (by rintro e w3 ⟨rfl, hb3⟩; exact ⟨rfl, below_chain hw' hb3⟩)
              simp only [Act.put, List.setIfInBounds_toArray, List.set_cons_zero, List.set_cons_succ]
              refine calm_take (by rfl) ?v2019 (fun w' hw' => ?hy2019) ?rest2019
              case hy2019 => go_simp <;> first | rfl | skip
              simp only [Act.put, List.setIfInBounds_toArray, List.set_cons_zero, List.set_cons_succ]
              refine calm_take (by rfl) ?v2020 (fun w' hw' => ?hy2020) ?rest2020
              case hy2020 => go_simp <;> first | rfl | skip
              simp only [Act.put, List.setIfInBounds_toArray, List.set_cons_zero, List.set_cons_succ]
              refine wpQuiet_nil (fun w' hw' => ?_)
              go_wp2_with fail
              go_ret
              exact ⟨241, rfl, fun h => absurd h HNY.out, fun _ => rfl, below_chain HBW.out hw'⟩
          · have HNY := Aside.mk (HNN.out (fun h => hn h.2.2.1))
            have hnn : (c.n != rows) = true := by simpa using hn
            rw [← hk] at v1
            rw [← hs'] at v2
            clear hk hs' hn HNX HNN
            refine wp_region_calm (by kernel_rfl) (by kernel_rfl) ?_
            refine calm_take (by rfl) ?v3000 (fun w' hw' => ?hy3000) ?rest3000
            case hy3000 => go_simp <;> first | rfl | skip
            simp only [Act.put, List.setIfInBounds_toArray, List.set_cons_zero, List.set_cons_succ]
            refine calm_take (by rfl) ?v3001 (fun w' hw' => ?hy3001) ?rest3001
            case hy3001 => obtain ⟨c0, c1, c2, c3, c4, c5, c6, c7⟩ := box8 ((hw'.block _ (lt_of_blk HCB.out)).trans HCB.out); obtain ⟨t0, t1, t2⟩ := box3t ((hw'.block _ (lt_of_blk HTB.out)).trans HTB.out); have p1 := (hw'.cell (p := ⟨g2, off2 + i * 4 + 1, none⟩) (World.block_lt_of_cell? _ _ v1)).trans v1; have p2 := (hw'.cell (p := ⟨g2, off2 + i * 4 + 2, none⟩) (World.block_lt_of_cell? _ _ v2)).trans v2; go_simp <;> first | rfl | skip
            simp only [Act.put, List.setIfInBounds_toArray, List.set_cons_zero, List.set_cons_succ]
            refine calm_take (by rfl) ?v3002 (fun w' hw' => ?hy3002) ?rest3002
            case hy3002 => go_simp <;> first | rfl | skip
            simp only [Act.put, List.setIfInBounds_toArray, List.set_cons_zero, List.set_cons_succ]
            refine calm_take (by rfl) ?v3003 (fun w' hw' => ?hy3003) ?rest3003
            case hy3003 => obtain ⟨c0, c1, c2, c3, c4, c5, c6, c7⟩ := box8 ((hw'.block _ (lt_of_blk HCB.out)).trans HCB.out); obtain ⟨t0, t1, t2⟩ := box3t ((hw'.block _ (lt_of_blk HTB.out)).trans HTB.out); have p1 := (hw'.cell (p := ⟨g2, off2 + i * 4 + 1, none⟩) (World.block_lt_of_cell? _ _ v1)).trans v1; have p2 := (hw'.cell (p := ⟨g2, off2 + i * 4 + 2, none⟩) (World.block_lt_of_cell? _ _ v2)).trans v2; go_simp <;> first | rfl | skip
            simp only [Act.put, List.setIfInBounds_toArray, List.set_cons_zero, List.set_cons_succ]
            refine calm_take (by rfl) ?v3004 (fun w' hw' => ?hy3004) ?rest3004
            case hy3004 => go_simp <;> first | rfl | skip
            simp only [Act.put, List.setIfInBounds_toArray, List.set_cons_zero, List.set_cons_succ]
            refine calm_take (by rfl) ?v3005 (fun w' hw' => ?hy3005) ?rest3005
            case hy3005 => go_simp <;> first | rfl | skip
            simp only [Act.put, List.setIfInBounds_toArray, List.set_cons_zero, List.set_cons_succ]
            refine calm_take (by rfl) ?v3006 (fun w' hw' => ?hy3006) ?rest3006
            case hy3006 => go_simp <;> first | rfl | skip
            simp only [Act.put, List.setIfInBounds_toArray, List.set_cons_zero, List.set_cons_succ]
            refine calm_take (by rfl) ?v3007 (fun w' hw' => ?hy3007) ?rest3007
            case hy3007 => obtain ⟨c0, c1, c2, c3, c4, c5, c6, c7⟩ := box8 ((hw'.block _ (lt_of_blk HCB.out)).trans HCB.out); obtain ⟨t0, t1, t2⟩ := box3t ((hw'.block _ (lt_of_blk HTB.out)).trans HTB.out); have p1 := (hw'.cell (p := ⟨g2, off2 + i * 4 + 1, none⟩) (World.block_lt_of_cell? _ _ v1)).trans v1; have p2 := (hw'.cell (p := ⟨g2, off2 + i * 4 + 2, none⟩) (World.block_lt_of_cell? _ _ v2)).trans v2; go_simp <;> first | rfl | skip
            simp only [Act.put, List.setIfInBounds_toArray, List.set_cons_zero, List.set_cons_succ]
            refine calm_take (by rfl) ?v3008 (fun w' hw' => ?hy3008) ?rest3008
            case hy3008 => go_simp <;> first | rfl | skip
            simp only [Act.put, List.setIfInBounds_toArray, List.set_cons_zero, List.set_cons_succ]
            refine calm_take (by rfl) ?v3009 (fun w' hw' => ?hy3009) ?rest3009
            case hy3009 => go_simp <;> first | rfl | skip
            simp only [Act.put, List.setIfInBounds_toArray, List.set_cons_zero, List.set_cons_succ]
            refine calm_take (by rfl) ?v3010 (fun w' hw' => ?hy3010) ?rest3010
            case hy3010 => go_simp <;> first | rfl | skip
            simp only [Act.put, List.setIfInBounds_toArray, List.set_cons_zero, List.set_cons_succ]
            refine calm_take (by rfl) ?v3011 (fun w' hw' => ?hy3011) ?rest3011
            case hy3011 => obtain ⟨c0, c1, c2, c3, c4, c5, c6, c7⟩ := box8 ((hw'.block _ (lt_of_blk HCB.out)).trans HCB.out); obtain ⟨t0, t1, t2⟩ := box3t ((hw'.block _ (lt_of_blk HTB.out)).trans HTB.out); have p1 := (hw'.cell (p := ⟨g2, off2 + i * 4 + 1, none⟩) (World.block_lt_of_cell? _ _ v1)).trans v1; have p2 := (hw'.cell (p := ⟨g2, off2 + i * 4 + 2, none⟩) (World.block_lt_of_cell? _ _ v2)).trans v2; go_simp <;> first | rfl | skip
            simp only [Act.put, List.setIfInBounds_toArray, List.set_cons_zero, List.set_cons_succ]
            refine calm_take (by rfl) ?v3012 (fun w' hw' => ?hy3012) ?rest3012
            case hy3012 => go_simp <;> first | rfl | skip
            simp only [Act.put, List.setIfInBounds_toArray, List.set_cons_zero, List.set_cons_succ]
            refine calm_take (by rfl) ?v3013 (fun w' hw' => ?hy3013) ?rest3013
            case hy3013 => obtain ⟨c0, c1, c2, c3, c4, c5, c6, c7⟩ := box8 ((hw'.block _ (lt_of_blk HCB.out)).trans HCB.out); obtain ⟨t0, t1, t2⟩ := box3t ((hw'.block _ (lt_of_blk HTB.out)).trans HTB.out); have p1 := (hw'.cell (p := ⟨g2, off2 + i * 4 + 1, none⟩) (World.block_lt_of_cell? _ _ v1)).trans v1; have p2 := (hw'.cell (p := ⟨g2, off2 + i * 4 + 2, none⟩) (World.block_lt_of_cell? _ _ v2)).trans v2; go_simp <;> first | rfl | skip
            simp only [Act.put, List.setIfInBounds_toArray, List.set_cons_zero, List.set_cons_succ]
            refine calm_take (by rfl) ?v3014 (fun w' hw' => ?hy3014) ?rest3014
            case hy3014 => go_simp <;> first | rfl | skip
            simp only [Act.put, List.setIfInBounds_toArray, List.set_cons_zero, List.set_cons_succ]
            refine calm_take (by rfl) ?v3015 (fun w' hw' => ?hy3015) ?rest3015
            case hy3015 => go_simp <;> first | rfl | skip
            simp only [Act.put, List.setIfInBounds_toArray, List.set_cons_zero, List.set_cons_succ]
            refine calm_take (by rfl) ?v3016 (fun w' hw' => ?hy3016) ?rest3016
            case hy3016 => go_simp <;> first | rfl | skip
            simp only [Act.put, List.setIfInBounds_toArray, List.set_cons_zero, List.set_cons_succ]
            refine calm_skip (by rfl) ?_
            simp only [Act.put, List.setIfInBounds_toArray, List.set_cons_zero, List.set_cons_succ]
            refine calm_skip (by rfl) ?_
            simp only [Act.put, List.setIfInBounds_toArray, List.set_cons_zero, List.set_cons_succ]
            refine calm_skip (by rfl) ?_
            simp only [Act.put, List.setIfInBounds_toArray, List.set_cons_zero, List.set_cons_succ]
            refine calm_take (by rfl) ?v3020 (fun w' hw' => ?hy3020) ?rest3020
            case hy3020 => go_simp <;> first | rfl | skip
            simp only [Act.put, List.setIfInBounds_toArray, List.set_cons_zero, List.set_cons_succ]
            refine wpQuiet_nil (fun w' hw' => ?_)
            go_wp2_with fail
            go_ret
            exact ⟨241, rfl, fun h => absurd h HNY.out, fun _ => rfl, below_chain HBW.out hw'⟩
        · have HNY := Aside.mk (HNN.out (fun h => hs' h.2.1))
          rw [← hk] at v1
          clear hk HNX HNN
          refine wp_region_calm (by kernel_rfl) (by kernel_rfl) ?_
          refine calm_take (by rfl) ?v4000 (fun w' hw' => ?hy4000) ?rest4000
          case hy4000 => go_simp <;> first | rfl | skip
          simp only [Act.put, List.setIfInBounds_toArray, List.set_cons_zero, List.set_cons_succ]
          refine calm_take (by rfl) ?v4001 (fun w' hw' => ?hy4001) ?rest4001
          case hy4001 => obtain ⟨c0, c1, c2, c3, c4, c5, c6, c7⟩ := box8 ((hw'.block _ (lt_of_blk HCB.out)).trans HCB.out); obtain ⟨t0, t1, t2⟩ := box3t ((hw'.block _ (lt_of_blk HTB.out)).trans HTB.out); have p1 := (hw'.cell (p := ⟨g2, off2 + i * 4 + 1, none⟩) (World.block_lt_of_cell? _ _ v1)).trans v1; have p2 := (hw'.cell (p := ⟨g2, off2 + i * 4 + 2, none⟩) (World.block_lt_of_cell? _ _ v2)).trans v2; go_simp <;> first | rfl | skip
          simp only [Act.put, List.setIfInBounds_toArray, List.set_cons_zero, List.set_cons_succ]
          refine calm_take (by rfl) ?v4002 (fun w' hw' => ?hy4002) ?rest4002
          case hy4002 => go_simp <;> first | rfl | skip
          simp only [Act.put, List.setIfInBounds_toArray, List.set_cons_zero, List.set_cons_succ]
          refine calm_take (by rfl) ?v4003 (fun w' hw' => ?hy4003) ?rest4003
          case hy4003 => obtain ⟨c0, c1, c2, c3, c4, c5, c6, c7⟩ := box8 ((hw'.block _ (lt_of_blk HCB.out)).trans HCB.out); obtain ⟨t0, t1, t2⟩ := box3t ((hw'.block _ (lt_of_blk HTB.out)).trans HTB.out); have p1 := (hw'.cell (p := ⟨g2, off2 + i * 4 + 1, none⟩) (World.block_lt_of_cell? _ _ v1)).trans v1; have p2 := (hw'.cell (p := ⟨g2, off2 + i * 4 + 2, none⟩) (World.block_lt_of_cell? _ _ v2)).trans v2; go_simp <;> first | rfl | skip
          simp only [Act.put, List.setIfInBounds_toArray, List.set_cons_zero, List.set_cons_succ]
          refine calm_take (by rfl) ?v4004 (fun w' hw' => ?hy4004) ?rest4004
          case hy4004 => go_simp <;> first | rfl | skip
          simp only [Act.put, List.setIfInBounds_toArray, List.set_cons_zero, List.set_cons_succ]
          refine calm_take (by rfl) ?v4005 (fun w' hw' => ?hy4005) ?rest4005
          case hy4005 => go_simp <;> first | rfl | skip
          simp only [Act.put, List.setIfInBounds_toArray, List.set_cons_zero, List.set_cons_succ]
          refine calm_take (by rfl) ?v4006 (fun w' hw' => ?hy4006) ?rest4006
          case hy4006 => go_simp <;> first | rfl | skip
          simp only [Act.put, List.setIfInBounds_toArray, List.set_cons_zero, List.set_cons_succ]
          refine calm_take (by rfl) ?v4007 (fun w' hw' => ?hy4007) ?rest4007
          case hy4007 => obtain ⟨c0, c1, c2, c3, c4, c5, c6, c7⟩ := box8 ((hw'.block _ (lt_of_blk HCB.out)).trans HCB.out); obtain ⟨t0, t1, t2⟩ := box3t ((hw'.block _ (lt_of_blk HTB.out)).trans HTB.out); have p1 := (hw'.cell (p := ⟨g2, off2 + i * 4 + 1, none⟩) (World.block_lt_of_cell? _ _ v1)).trans v1; have p2 := (hw'.cell (p := ⟨g2, off2 + i * 4 + 2, none⟩) (World.block_lt_of_cell? _ _ v2)).trans v2; go_simp <;> first | rfl | skip
          simp only [Act.put, List.setIfInBounds_toArray, List.set_cons_zero, List.set_cons_succ]
          refine calm_take (by rfl) ?v4008 (fun w' hw' => ?hy4008) ?rest4008
          case hy4008 => go_simp <;> first | rfl | skip
          simp only [Act.put, List.setIfInBounds_toArray, List.set_cons_zero, List.set_cons_succ]
          refine calm_take (by rfl) ?v4009 (fun w' hw' => ?hy4009) ?rest4009
          case hy4009 => go_simp <;> first | rfl | skip
          simp only [Act.put, List.setIfInBounds_toArray, List.set_cons_zero, List.set_cons_succ]
          refine calm_skip (by rfl) ?_
          simp only [Act.put, List.setIfInBounds_toArray, List.set_cons_zero, List.set_cons_succ]
          refine calm_skip (by rfl) ?_
          simp only [Act.put, List.setIfInBounds_toArray, List.set_cons_zero, List.set_cons_succ]
          refine calm_skip (by rfl) ?_
          simp only [Act.put, List.setIfInBounds_toArray, List.set_cons_zero, List.set_cons_succ]
          refine calm_skip (by rfl) ?_
          simp only [Act.put, List.setIfInBounds_toArray, List.set_cons_zero, List.set_cons_succ]
          refine calm_skip (by rfl) ?_
          simp only [Act.put, List.setIfInBounds_toArray, List.set_cons_zero, List.set_cons_succ]
          refine calm_take (by rfl) ?v4015 (fun w' hw' => ?hy4015) ?rest4015
          case hy4015 => go_simp <;> first | rfl | skip
          simp only [Act.put, List.setIfInBounds_toArray, List.set_cons_zero, List.set_cons_succ]
          refine calm_take (by rfl) ?v4016 (fun w' hw' => ?hy4016) ?rest4016
          case hy4016 => go_simp <;> first | rfl | skip
          simp only [Act.put, List.setIfInBounds_toArray, List.set_cons_zero, List.set_cons_succ]
          refine calm_skip (by rfl) ?_
          simp only [Act.put, List.setIfInBounds_toArray, List.set_cons_zero, List.set_cons_succ]
          refine calm_skip (by rfl) ?_
          simp only [Act.put, List.setIfInBounds_toArray, List.set_cons_zero, List.set_cons_succ]
          refine calm_skip (by rfl) ?_
          simp only [Act.put, List.setIfInBounds_toArray, List.set_cons_zero, List.set_cons_succ]
          refine calm_take (by rfl) ?v4020 (fun w' hw' => ?hy4020) ?rest4020
          case hy4020 => go_simp <;> first | rfl | skip
          simp only [Act.put, List.setIfInBounds_toArray, List.set_cons_zero, List.set_cons_succ]
          refine wpQuiet_nil (fun w' hw' => ?_)
          go_wp2_with fail
          go_ret
          exact ⟨241, rfl, fun h => absurd h HNY.out, fun _ => rfl, below_chain HBW.out hw'⟩
      · have HNY := Aside.mk (HNN.out (fun h => hk h.1))
        clear HNX HNN
        refine wp_region_calm (by kernel_rfl) (by kernel_rfl) ?_
        refine calm_take (by rfl) ?v5000 (fun w' hw' => ?hy5000) ?rest5000
        case hy5000 => go_simp <;> first | rfl | skip
        simp only [Act.put, List.setIfInBounds_toArray, List.set_cons_zero, List.set_cons_succ]
        refine calm_take (by rfl) ?v5001 (fun w' hw' => ?hy5001) ?rest5001
        case hy5001 => obtain ⟨c0, c1, c2, c3, c4, c5, c6, c7⟩ := box8 ((hw'.block _ (lt_of_blk HCB.out)).trans HCB.out); obtain ⟨t0, t1, t2⟩ := box3t ((hw'.block _ (lt_of_blk HTB.out)).trans HTB.out); have p1 := (hw'.cell (p := ⟨g2, off2 + i * 4 + 1, none⟩) (World.block_lt_of_cell? _ _ v1)).trans v1; have p2 := (hw'.cell (p := ⟨g2, off2 + i * 4 + 2, none⟩) (World.block_lt_of_cell? _ _ v2)).trans v2; go_simp <;> first | rfl | skip
        simp only [Act.put, List.setIfInBounds_toArray, List.set_cons_zero, List.set_cons_succ]
        refine calm_take (by rfl) ?v5002 (fun w' hw' => ?hy5002) ?rest5002
        case hy5002 => go_simp <;> first | rfl | skip
        simp only [Act.put, List.setIfInBounds_toArray, List.set_cons_zero, List.set_cons_succ]
        refine calm_take (by rfl) ?v5003 (fun w' hw' => ?hy5003) ?rest5003
        case hy5003 => obtain ⟨c0, c1, c2, c3, c4, c5, c6, c7⟩ := box8 ((hw'.block _ (lt_of_blk HCB.out)).trans HCB.out); obtain ⟨t0, t1, t2⟩ := box3t ((hw'.block _ (lt_of_blk HTB.out)).trans HTB.out); have p1 := (hw'.cell (p := ⟨g2, off2 + i * 4 + 1, none⟩) (World.block_lt_of_cell? _ _ v1)).trans v1; have p2 := (hw'.cell (p := ⟨g2, off2 + i * 4 + 2, none⟩) (World.block_lt_of_cell? _ _ v2)).trans v2; go_simp <;> first | rfl | skip
        simp only [Act.put, List.setIfInBounds_toArray, List.set_cons_zero, List.set_cons_succ]
        refine calm_take (by rfl) ?v5004 (fun w' hw' => ?hy5004) ?rest5004
        case hy5004 => go_simp <;> first | rfl | skip
        simp only [Act.put, List.setIfInBounds_toArray, List.set_cons_zero, List.set_cons_succ]
        refine calm_take (by rfl) ?v5005 (fun w' hw' => ?hy5005) ?rest5005
        case hy5005 => go_simp <;> first | rfl | skip
        simp only [Act.put, List.setIfInBounds_toArray, List.set_cons_zero, List.set_cons_succ]
        refine calm_take (by rfl) ?v5006 (fun w' hw' => ?hy5006) ?rest5006
        case hy5006 => go_simp <;> first | rfl | skip
        simp only [Act.put, List.setIfInBounds_toArray, List.set_cons_zero, List.set_cons_succ]
        refine calm_take (by rfl) ?v5007 (fun w' hw' => ?hy5007) ?rest5007
        case hy5007 => obtain ⟨c0, c1, c2, c3, c4, c5, c6, c7⟩ := box8 ((hw'.block _ (lt_of_blk HCB.out)).trans HCB.out); obtain ⟨t0, t1, t2⟩ := box3t ((hw'.block _ (lt_of_blk HTB.out)).trans HTB.out); have p1 := (hw'.cell (p := ⟨g2, off2 + i * 4 + 1, none⟩) (World.block_lt_of_cell? _ _ v1)).trans v1; have p2 := (hw'.cell (p := ⟨g2, off2 + i * 4 + 2, none⟩) (World.block_lt_of_cell? _ _ v2)).trans v2; go_simp <;> first | rfl | skip
        simp only [Act.put, List.setIfInBounds_toArray, List.set_cons_zero, List.set_cons_succ]
        refine calm_take (by rfl) ?v5008 (fun w' hw' => ?hy5008) ?rest5008
        case hy5008 => go_simp <;> first | rfl | skip
        simp only [Act.put, List.setIfInBounds_toArray, List.set_cons_zero, List.set_cons_succ]
        refine calm_take (by rfl) ?v5009 (fun w' hw' => ?hy5009) ?rest5009
        case hy5009 => go_simp <;> first | rfl | skip
        simp only [Act.put, List.setIfInBounds_toArray, List.set_cons_zero, List.set_cons_succ]
        refine calm_skip (by rfl) ?_
        simp only [Act.put, List.setIfInBounds_toArray, List.set_cons_zero, List.set_cons_succ]
        refine calm_skip (by rfl) ?_
        simp only [Act.put, List.setIfInBounds_toArray, List.set_cons_zero, List.set_cons_succ]
        refine calm_skip (by rfl) ?_
        simp only [Act.put, List.setIfInBounds_toArray, List.set_cons_zero, List.set_cons_succ]
        refine calm_skip (by rfl) ?_
        simp only [Act.put, List.setIfInBounds_toArray, List.set_cons_zero, List.set_cons_succ]
        refine calm_skip (by rfl) ?_
        simp only [Act.put, List.setIfInBounds_toArray, List.set_cons_zero, List.set_cons_succ]
        refine calm_take (by rfl) ?v5015 (fun w' hw' => ?hy5015) ?rest5015
        case hy5015 => go_simp <;> first | rfl | skip
        simp only [Act.put, List.setIfInBounds_toArray, List.set_cons_zero, List.set_cons_succ]
        refine calm_take (by rfl) ?v5016 (fun w' hw' => ?hy5016) ?rest5016
        case hy5016 => go_simp <;> first | rfl | skip
        simp only [Act.put, List.setIfInBounds_toArray, List.set_cons_zero, List.set_cons_succ]
        refine calm_skip (by rfl) ?_
        simp only [Act.put, List.setIfInBounds_toArray, List.set_cons_zero, List.set_cons_succ]
        refine calm_skip (by rfl) ?_
        simp only [Act.put, List.setIfInBounds_toArray, List.set_cons_zero, List.set_cons_succ]
        refine calm_skip (by rfl) ?_
        simp only [Act.put, List.setIfInBounds_toArray, List.set_cons_zero, List.set_cons_succ]
        refine calm_take (by rfl) ?v5020 (fun w' hw' => ?hy5020) ?rest5020
        case hy5020 => go_simp <;> first | rfl | skip
        simp only [Act.put, List.setIfInBounds_toArray, List.set_cons_zero, List.set_cons_succ]
        refine wpQuiet_nil (fun w' hw' => ?_)
        go_wp2_with fail
        go_ret
        exact ⟨241, rfl, fun h => absurd h HNY.out, fun _ => rfl, below_chain HBW.out hw'⟩
    · obtain rfl : i = cs.length := by omega
      have HT := Aside.mk (show TableP ⟨hs, rows, cs⟩ from ⟨HSS.out, HCN.out, fun i hi hh => HA.out i hi hi hh⟩)
      go_wp2_with fail
      go_ret
      exact ⟨0, rfl, fun _ => rfl, fun h => absurd HT.out h, HW.out.1⟩
end Go.Proofs.Ytmhjjhaipcgbiaa


namespace Go.Proofs.Ytmhjjhaipcgbiaa
open Go.RowKit
set_option linter.unusedVariables false
set_option linter.unusedSimpArgs false
set_option maxRecDepth 100000
set_option maxHeartbeats 1000000
def strL (s : ByteArray) : List Int := s.data.toList.map (fun b => (b.toNat : Int))
theorem strL_len (s : ByteArray) : (strL s).length = s.size := by unfold strL; rw [List.length_map]; rfl
theorem strL_bytes (s : ByteArray) : IsBytes (strL s) := by
  intro x hx
  obtain ⟨b, _, rfl⟩ := List.mem_map.1 hx
  have := UInt8.toNat_lt b
  exact ⟨by omega, by omega⟩
theorem strL_cells (s : ByteArray) : byteCells s = (strL s).map (.int .u8) := by
  unfold byteCells strL
  rw [List.map_map]
  rfl
def txtL (s : List Int) : List Int := lows (u64N s.length) 8 ++ s
def encH (h : Hd) : List Int := lows (u64N h.name.size) 8 ++ strL h.name ++ lows (u64N h.k) 8 ++ lows (u64N h.s) 8 ++ lows (u64N (if h.null then 1 else 0)) 8
def encE (l : List Int) : List Int := l.flatMap (fun e => lows (u64N e) 8)
def encW (l : List (List Int)) : List Int := l.flatMap txtL
def encC (c : Col) : List Int := c.bits ++ encE c.ends ++ c.data ++ (if c.k = 16 then lows (u64N c.words.length) 8 ++ encW c.words else [])
def encB (t : Tb) : List Int := [77, 84, 71, 49] ++ lows (u64N t.hs.length) 8 ++ t.hs.flatMap encH ++ lows (u64N t.rows) 8 ++ t.cs.flatMap encC
def encT (t : Tb) : List Int := encB t ++ lows (sumN (encB t)) 8
structure SmC (c : Col) : Prop where
  b : c.bits.length ≤ 2000000
  d : c.data.length ≤ 2000000
  e : c.ends.length ≤ 250000
  w : (encW c.words).length ≤ 4000000
structure TbE (t : Tb) : Prop where
  ok : TbOK t
  sm : ∀ c ∈ t.cs, SmC c
  tot : (t.cs.flatMap encC).length ≤ 64000000
theorem flat_take {α : Type} (f : α → List Int) (l : List α) {i : Nat} (h : i < l.length) : (l.take (i + 1)).flatMap f = (l.take i).flatMap f ++ f l[i] := by
  rw [show l.take (i + 1) = l.take i ++ [l[i]] by rw [List.take_add_one, List.getElem?_eq_getElem h]; rfl, List.flatMap_append]
  simp
theorem flat_len {α : Type} (f : α → List Int) (N : Nat) : ∀ l : List α, (∀ x ∈ l, (f x).length ≤ N) → (l.flatMap f).length ≤ l.length * N
  | [], _ => by simp
  | x :: l, h => by
    rw [List.flatMap_cons, List.length_append, List.length_cons]
    have := flat_len f N l (fun y hy => h y (List.mem_cons_of_mem _ hy))
    have := h x (List.mem_cons_self ..)
    rw [Nat.add_mul]; omega
theorem flat_sub {α : Type} (f : α → List Int) (l : List α) (i : Nat) : ((l.take i).flatMap f).length ≤ (l.flatMap f).length := by
  conv => rhs; rw [← List.take_append_drop i l]
  rw [List.flatMap_append, List.length_append]; omega
theorem encH_len (h : Hd) (hn : h.name.size ≤ 64) : (encH h).length ≤ 96 := by
  unfold encH; simp only [List.length_append, len_lows, strL_len]; omega
theorem encE_len (l : List Int) : (encE l).length = l.length * 8 := by
  induction l with
  | nil => rfl
  | cons x l ih => unfold encE at *; rw [List.flatMap_cons, List.length_append, ih, len_lows, List.length_cons]; omega
structure EnI (t : Tb) (H C : SL) (data : List Int) (a : Option Addr) (c : Nat) (w W : World) : Prop where
  own : Own W w.heap.size 5 1 (.slice a data.length c) data.length (data.map (.int .u8))
  bel : Below w.heap.size w W
  box : W.heap[w.heap.size]? = some (.cells #[.slice H.a t.hs.length H.c, .int .i64 t.rows, .slice C.a t.cs.length C.c] 73 (0, 0))
theorem own_box {W W' : World} {base n c : Nat} {a : Option Addr} {xs : List Value} (h : Own W base 5 1 (.slice a n c) n xs) (hk : Kept (fun b => (Value.slice a n c).ownBlock = some b) W W') {b : Nat} {cs : Array Value} {T : TypeId} {f : Nat × Nat} (hb : W.heap[b]? = some (.cells cs T f)) (hT : T ≠ 5) : W'.heap[b]? = some (.cells cs T f) :=
  (hk.block b (lt_of_blk hb) (fun e => h.blk_ne hb hT e)).trans hb
theorem EnI.step {t : Tb} {H C : SL} {data data' : List Int} {a a' : Option Addr} {c c' : Nat} {w W W' : World} (h : EnI t H C data a c w W) (ho : Own W' w.heap.size 5 1 (.slice a' data'.length c') data'.length (data'.map (.int .u8))) (hk : Kept (fun b => (Value.slice a data.length c).ownBlock = some b) W W') : EnI t H C data' a' c' w W' :=
  ⟨ho, h.bel.trans (hk.to_below h.bel.size (fun k e => (h.own.lt k e).1)), own_box h.own hk h.box (by decide)⟩
theorem EnI.below {t : Tb} {H C : SL} {data : List Int} {a : Option Addr} {c : Nat} {w W W' : World} (h : EnI t H C data a c w W) (hb : Below W.heap.size W W') : EnI t H C data a c w W' :=
  ⟨h.own.below hb, below_chain h.bel hb, (hb.block _ (lt_of_blk h.box)).trans h.box⟩
def StepE (t : Tb) (H C : SL) (a : Option Addr) (c : Nat) (data data' : List Int) (w W : World) (e : Ending) (W' : World) : Prop := ∃ a' c', e = .returned (.slice a' data'.length c') ∧ EnI t H C data' a' c' w W' ∧ Kept (fun b => (Value.slice a data.length c).ownBlock = some b) W W'
theorem EnI.num {t : Tb} {H C : SL} {data : List Int} {a : Option Addr} {c : Nat} {w W : World} (h : EnI t H C data a c w W) (hl : data.length ≤ 100000000) (x : Int) : Calls Try.prog 74 #[.slice a data.length c, .int .i64 x] W (StepE t H C a c data (data ++ lows (u64N x) 8) w W) := by
  refine (fnumi_any w.heap.size data x hl a c W h.own h.bel.size).mono ?_
  rintro e W' ⟨a', c', rfl, ho, hk⟩
  exact ⟨a', c', rfl, h.step ho hk, hk⟩
theorem EnI.app {t : Tb} {H C : SL} {data xs : List Int} {n : Nat} {a a' : Option Addr} {c c' : Nat} {w W W' : World} (h : EnI t H C data a c w W) (hn : xs.length = n) (hA : AppP W w.heap.size 5 1 (.slice a data.length c) data.length (data.map (.int .u8)) n (xs.map (.int .u8)) (.slice a' (data.length + n) c') W') : EnI t H C (data ++ xs) a' c' w W' ∧ (Kept (fun b => (Value.slice a data.length c).ownBlock = some b) W W') ∧ data.length + n = (data ++ xs).length := by
  subst hn
  have hk : Kept (fun b => (Value.slice a data.length c).ownBlock = some b) W W' := (Kept.of_grown hA.grown).mono (fun b e _ => e.symm)
  have hl : (data ++ xs).length = data.length + xs.length := List.length_append ..
  refine ⟨h.step (by rw [hl]; have := hA.own; rwa [← List.map_append] at this) hk, hk, hl.symm⟩
end Go.Proofs.Ytmhjjhaipcgbiaa


namespace Go.Proofs.Ytmhjjhaipcgbiaa
open Go.RowKit
set_option linter.unusedVariables false
set_option linter.unusedSimpArgs false
set_option maxRecDepth 100000
set_option maxHeartbeats 1000000
theorem twin_bytes (xs : List Int) (A : SL) (hl : xs.length ≤ 100000000) (w : World) (h : Rd w 1 (.slice A.a xs.length A.c) xs.length (xs.map (.int .u8))) :
    Calls Try.prog 102 #[.slice A.a xs.length A.c] w fun e w' => ∃ a c, e = .returned (.slice a xs.length c) ∧ Own w' w.heap.size 5 1 (.slice a xs.length c) xs.length (xs.map (.int .u8)) ∧ Below w.heap.size w w' := by
  have HS := Aside.mk (h.src (tx := 37) (P := Try.prog) Try.underlying37 (one_map (fun x : Int => Value.int .u8 x) (fun _ => rfl) xs))
  clear h
  go_enter Try.func102, Try.ntmps102
  go_wp2_with (at_builtin; refine wpList_app _ rfl _ _ 37 37 rfl w.heap.size 5 (.int .u8 0) 1 1 Try.underlying37 u8info rfl _ _ _ rfl (Own.nil w w.heap.size 5 1) _ xs.length (xs.map (.int .u8)) rfl HS.out (by unfold maxLen; omega) (by omega) (Nat.le_refl _) ?_)
  intro v' w5 hown' hgrow _ hat
  obtain ⟨a5, c5, rfl⟩ := hown'.form
  have HO := Aside.mk hown'
  have HB := Aside.mk (below_of_grown hgrow (Nat.le_refl _) (fun k e => by cases e))
  clear hown' hgrow hat
  go_wp2
  go_ret
  refine ⟨a5, c5, ?_, ?_, HB.out⟩
  · simp
  · simpa using HO.out
theorem cut_bytes (xs : List Int) (A : SL) (hl : xs.length ≤ 9223372036854775807) (w : World) (h : Rd w 1 (.slice A.a xs.length A.c) xs.length (xs.map (.int .u8))) :
    Calls Try.prog 103 #[.slice A.a xs.length A.c, .int .i64 40] w fun e w' => ∃ a c, e = .returned (.slice a (xs.take 40).length c) ∧ Rd w 1 (.slice a (xs.take 40).length c) (xs.take 40).length ((xs.take 40).map (.int .u8)) ∧ w = w' := by
  by_cases h40 : 40 < xs.length
  · obtain ⟨g, off, cap, e, h1, h2, hc⟩ := h.some_ (by rw [List.length_map]; omega)
    obtain ⟨aa, ac⟩ := A
    simp only [Value.slice.injEq, true_and] at e
    obtain ⟨rfl, rfl⟩ := e
    have HT := Aside.mk (rd_cut (i := 0) (j := 40) h (by omega) (by omega))
    have hlen : (xs.take 40).length = 40 := by rw [List.length_take]; omega
    rw [hlen]
    clear h hc hlen
    generalize hn : xs.length = n at *
    have HN := Aside.mk hn
    clear hn
    go_enter Try.func103, Try.ntmps103
    go_wp2
    go_ret
    refine ⟨_, _, rfl, ?_, rfl⟩
    have := HT.out
    simpa [List.map_take] using this
  · have e : xs.take 40 = xs := List.take_of_length_le (by omega)
    have HR := Aside.mk h
    rw [e]
    clear h e
    generalize hn : xs.length = n at *
    clear hn
    go_enter Try.func103, Try.ntmps103
    go_wp2
    go_ret
    exact ⟨_, _, rfl, HR.out, rfl⟩
theorem fits_zero {k s : Int} (h : okType k s = true) (hw : wordedB k = false) : fitsB k s 0 = true := by
  unfold fitsB
  rw [h]
  unfold okType at h
  simp only [decide_eq_true_eq] at h
  unfold wordedB at hw
  simp only [Bool.or_eq_false_iff, beq_eq_false_iff_ne] at hw
  have hk : k = 1 ∨ k = 2 ∨ k = 3 ∨ k = 4 ∨ k = 5 ∨ k = 6 ∨ k = 7 ∨ k = 8 ∨ k = 9 ∨ k = 10 ∨ k = 11 ∨ k = 12 ∨ k = 13 ∨ k = 14 := by omega
  rcases hk with rfl | rfl | rfl | rfl | rfl | rfl | rfl | rfl | rfl | rfl | rfl | rfl | rfl | rfl
  all_goals first | decide | (have hz : asInt 0 = 0 := by kernel_rfl
                              simp [bitsOK, decOK, dayOK, momOK, hz])
end Go.Proofs.Ytmhjjhaipcgbiaa
