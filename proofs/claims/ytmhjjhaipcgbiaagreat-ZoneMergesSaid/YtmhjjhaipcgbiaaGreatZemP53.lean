/- Texts of this claim, one behind the other: Zmw, Zrm. -/
import Derived.Test.YtmhjjhaipcgbiaaGreatZemP39
import Derived.Test.YtmhjjhaipcgbiaaGreatZemP49
import Derived.Test.YtmhjjhaipcgbiaaGreatZemP50
import Derived.Test.YtmhjjhaipcgbiaaGreatZemP14
import Derived.Test.YtmhjjhaipcgbiaaGreatZemP51

namespace Go.Proofs.YtmhjjhaipcgbiaaGreat
open Go.RowKit
set_option linter.unusedVariables false
set_option linter.unusedSimpArgs false
set_option maxRecDepth 100000
set_option maxHeartbeats 1000000
theorem box2z {w : World} {b : Nat} {x0 x1 : Value} {T : TypeId} (h : w.heap[b]? = some (.cells #[x0, x1] T (0, 0))) : w.cell? ⟨b, 0, none⟩ = some x0 ∧ w.cell? ⟨b, 1, none⟩ = some x1 := by
  refine ⟨?_, ?_⟩ <;> (rw [cell_blk h]; rfl)
theorem few3 {k s : Int} {r1 r2 r3 : List V} (h1 : r1.length ≤ 120 ∧ ∀ v ∈ r1, vOK k s v ∧ v.text.length ≤ 40) (h2 : r2.length ≤ 120 ∧ ∀ v ∈ r2, vOK k s v ∧ v.text.length ≤ 40) (h3 : r3.length ≤ 120 ∧ ∀ v ∈ r3, vOK k s v ∧ v.text.length ≤ 40) :
    (Few r1 ∧ ∀ v ∈ r1, vOK k s v) ∧ (Few r2 ∧ ∀ v ∈ r2, vOK k s v) ∧ (Few r3 ∧ ∀ v ∈ r3, vOK k s v) ∧ (Few (r1 ++ r2) ∧ ∀ v ∈ r1 ++ r2, vOK k s v) ∧ (Few (r2 ++ r3) ∧ ∀ v ∈ r2 ++ r3, vOK k s v) ∧ (Few (r1 ++ r2 ++ r3) ∧ ∀ v ∈ r1 ++ r2 ++ r3, vOK k s v) := by
  have key : ∀ l : List V, l.length ≤ 360 → (∀ v ∈ l, vOK k s v ∧ v.text.length ≤ 40) → Few l ∧ ∀ v ∈ l, vOK k s v := fun l hl hv => ⟨⟨by omega, fun v hv' => Nat.le_trans (hv v hv').2 (by decide)⟩, fun v hv' => (hv v hv').1⟩
  have h12 : ∀ v ∈ r1 ++ r2, vOK k s v ∧ v.text.length ≤ 40 := fun v hv => (List.mem_append.1 hv).elim (h1.2 v) (h2.2 v)
  have h23 : ∀ v ∈ r2 ++ r3, vOK k s v ∧ v.text.length ≤ 40 := fun v hv => (List.mem_append.1 hv).elim (h2.2 v) (h3.2 v)
  have h123 : ∀ v ∈ r1 ++ r2 ++ r3, vOK k s v ∧ v.text.length ≤ 40 := fun v hv => (List.mem_append.1 hv).elim (h12 v) (h3.2 v)
  have a1 := h1.1
  have a2 := h2.1
  have a3 := h3.1
  exact ⟨key _ (by omega) h1.2, key _ (by omega) h2.2, key _ (by omega) h3.2, key _ (by rw [List.length_append]; omega) h12, key _ (by rw [List.length_append]; omega) h23, key _ (by rw [List.length_append, List.length_append]; omega) h123⟩
theorem zoneMerges_walk (n m : Int) (l1 l2 l3 : List V) (hl1 : l1.length ≤ 9223372036854775807) (hl2 : l2.length ≤ 9223372036854775807) (hl3 : l3.length ≤ 9223372036854775807)
    (hv1 : ∀ v ∈ l1, IsBytes v.text ∧ v.bits < 18446744073709551616 ∧ v.text.length ≤ 9223372036854775807) (hv2 : ∀ v ∈ l2, IsBytes v.text ∧ v.bits < 18446744073709551616 ∧ v.text.length ≤ 9223372036854775807) (hv3 : ∀ v ∈ l3, IsBytes v.text ∧ v.bits < 18446744073709551616 ∧ v.text.length ≤ 9223372036854775807)
    (A1 A2 A3 : SL) (w : World) (h1 : RdVs w A1 l1) (h2 : RdVs w A2 l2) (h3 : RdVs w A3 l3) :
    Calls Tryz.prog 10 #[.int .i64 n, .int .i64 m, .slice A1.a l1.length A1.c, .slice A2.a l2.length A2.c, .slice A3.a l3.length A3.c] w (BoolP true w) := by
  have HL1 := Aside.mk (lay19_any n l1 hl1 hv1 A1 w h1)
  have HL2 := Aside.mk (fun W (hb : Below w.heap.size w W) => lay19_any n l2 hl2 hv2 A2 W (h2.below hb))
  have HL3 := Aside.mk (fun W (hb : Below w.heap.size w W) => lay19_any n l3 hl3 hv3 A3 W (h3.below hb))
  have HK := Aside.mk (kind_ok n)
  have HK2 := Aside.mk (kind_ok m)
  clear h1 h2 h3 hl1 hl2 hl3 hv1 hv2 hv3
  generalize l1.length = n1 at *
  generalize l2.length = n2 at *
  generalize l3.length = n3 at *
  unfold LayP at HL1 HL2 HL3
  generalize kindI n = k at *
  generalize scaleI n = s at *
  go_enter Tryz.func10, Tryz.ntmps10
  go_upto_region 2 with (first
    | (go_at_call 37; refine HL1.out.mono ?_; rintro e u1 ⟨r1, hr1, B1, D1, E1, X1, va1, rfl, hown, hb⟩; have HR1 := Aside.mk hr1; have HOa := Aside.mk hown; have HB := Aside.mk hb; clear hr1 hown hb HL1; dsimp only [colV])
    | (go_at_call 37; refine (HL2.out _ HB.out).mono ?_; rintro e u2 ⟨r2, hr2, B2, D2, E2, X2, va2, rfl, hown, hb⟩; have HR2 := Aside.mk hr2; have HOb := Aside.mk hown; replace HOa := Aside.mk (HOa.out.below hb); replace HB := Aside.mk (below_chain HB.out hb); clear hr2 hown hb HL2; dsimp only [colV])
    | (go_at_call 37; refine (HL3.out _ HB.out).mono ?_; rintro e u3 ⟨r3, hr3, B3, D3, E3, X3, va3, rfl, hown, hb⟩; have HR3 := Aside.mk hr3; have HOc := Aside.mk hown; replace HOa := Aside.mk (HOa.out.below hb); replace HOb := Aside.mk (HOb.out.below hb); replace HB := Aside.mk (below_chain HB.out hb); clear hr3 hown hb HL3; dsimp only [colV]))
  have hf := few3 HR1.out HR2.out HR3.out
  have HF := Aside.mk hf
  obtain ⟨a, hca⟩ : ∃ c, colOf k s r1 = c := ⟨_, rfl⟩
  obtain ⟨b, hcb⟩ : ∃ c, colOf k s r2 = c := ⟨_, rfl⟩
  obtain ⟨c, hcc⟩ : ∃ c, colOf k s r3 = c := ⟨_, rfl⟩
  have HZa := Aside.mk (fun B D E X va b W (h : OwnC W b (colOf k s r1) B D E X va) => zof_list HK.out hf.1 B D E X va W h)
  have HZb := Aside.mk (fun B D E X va b W (h : OwnC W b (colOf k s r2) B D E X va) => zof_list HK.out hf.2.1 B D E X va W h)
  have HZc := Aside.mk (fun B D E X va b W (h : OwnC W b (colOf k s r3) B D E X va) => zof_list HK.out hf.2.2.1 B D E X va W h)
  have HJN := Aside.mk (fun B D E X B2 D2 E2 X2 va vb b1 b2 W (h : OwnC W b1 (colOf k s r1) B D E X va) (h2 : OwnC W b2 (colOf k s r2) B2 D2 E2 X2 vb) => join_of HK.out hf.2.2.2.1 B D E X B2 D2 E2 X2 va vb W h h2)
  have HZd := Aside.mk (fun B D E X va b W (h : OwnC W b (colOf k s (r1 ++ r2)) B D E X va) => zof_list HK.out hf.2.2.2.1 B D E X va W h)
  obtain ⟨d, hcd⟩ : ∃ c, colOf k s (r1 ++ r2) = c := ⟨_, rfl⟩
  rw [hca] at HOa HZa HJN
  rw [hcb] at HOb HZb HJN
  rw [hcc] at HOc HZc
  rw [hcd] at HZd HJN
  rw [hca, hcb, hcc]
  clear hca hcb hcc hcd hf
  dsimp only [colV] at HZa HZb HZc HZd HJN
  have HI := Aside.mk (show MI w u3 [] [] from ⟨HB.out, (fun p hp => by cases hp), (fun p hp => by cases hp)⟩)
  have hi2 := HI.out.new #[.int .i64 a.k, .int .i64 a.s, .int .i64 a.n, .int .i64 a.m, .slice B1.a a.bits.length B1.c, .slice D1.a a.data.length D1.c, .slice E1.a a.ends.length E1.c, .slice X1.a a.words.length X1.c] 63
  have hszv1 : (u3.alloc (.cells #[.int .i64 a.k, .int .i64 a.s, .int .i64 a.n, .int .i64 a.m, .slice B1.a a.bits.length B1.c, .slice D1.a a.data.length D1.c, .slice E1.a a.ends.length E1.c, .slice X1.a a.words.length X1.c] 63)).heap.size = u3.heap.size + 1 := by simp
  have hb := below_new u3 (.cells #[.int .i64 a.k, .int .i64 a.s, .int .i64 a.n, .int .i64 a.m, .slice B1.a a.bits.length B1.c, .slice D1.a a.data.length D1.c, .slice E1.a a.ends.length E1.c, .slice X1.a a.words.length X1.c] 63)
  generalize u3.alloc (.cells #[.int .i64 a.k, .int .i64 a.s, .int .i64 a.n, .int .i64 a.m, .slice B1.a a.bits.length B1.c, .slice D1.a a.data.length D1.c, .slice E1.a a.ends.length E1.c, .slice X1.a a.words.length X1.c] 63) = v1 at *
  replace HOa := Aside.mk (HOa.out.below hb)
  replace HOb := Aside.mk (HOb.out.below hb)
  replace HOc := Aside.mk (HOc.out.below hb)
  replace HI := Aside.mk hi2
  clear hb hi2
  have hi2 := HI.out.newAt #[.int .i64 b.k, .int .i64 b.s, .int .i64 b.n, .int .i64 b.m, .slice B2.a b.bits.length B2.c, .slice D2.a b.data.length D2.c, .slice E2.a b.ends.length E2.c, .slice X2.a b.words.length X2.c] 63 (u3.heap.size + 1) hszv1
  have hszv2 : (v1.alloc (.cells #[.int .i64 b.k, .int .i64 b.s, .int .i64 b.n, .int .i64 b.m, .slice B2.a b.bits.length B2.c, .slice D2.a b.data.length D2.c, .slice E2.a b.ends.length E2.c, .slice X2.a b.words.length X2.c] 63)).heap.size = u3.heap.size + 1 + 1 := by simp [hszv1]
  have hb := below_new v1 (.cells #[.int .i64 b.k, .int .i64 b.s, .int .i64 b.n, .int .i64 b.m, .slice B2.a b.bits.length B2.c, .slice D2.a b.data.length D2.c, .slice E2.a b.ends.length E2.c, .slice X2.a b.words.length X2.c] 63)
  generalize v1.alloc (.cells #[.int .i64 b.k, .int .i64 b.s, .int .i64 b.n, .int .i64 b.m, .slice B2.a b.bits.length B2.c, .slice D2.a b.data.length D2.c, .slice E2.a b.ends.length E2.c, .slice X2.a b.words.length X2.c] 63) = v2 at *
  replace HOa := Aside.mk (HOa.out.below hb)
  replace HOb := Aside.mk (HOb.out.below hb)
  replace HOc := Aside.mk (HOc.out.below hb)
  replace HI := Aside.mk hi2
  clear hb hi2
  have hi2 := HI.out.newAt #[.int .i64 c.k, .int .i64 c.s, .int .i64 c.n, .int .i64 c.m, .slice B3.a c.bits.length B3.c, .slice D3.a c.data.length D3.c, .slice E3.a c.ends.length E3.c, .slice X3.a c.words.length X3.c] 63 (u3.heap.size + 1 + 1) hszv2
  have hb := below_new v2 (.cells #[.int .i64 c.k, .int .i64 c.s, .int .i64 c.n, .int .i64 c.m, .slice B3.a c.bits.length B3.c, .slice D3.a c.data.length D3.c, .slice E3.a c.ends.length E3.c, .slice X3.a c.words.length X3.c] 63)
  generalize v2.alloc (.cells #[.int .i64 c.k, .int .i64 c.s, .int .i64 c.n, .int .i64 c.m, .slice B3.a c.bits.length B3.c, .slice D3.a c.data.length D3.c, .slice E3.a c.ends.length E3.c, .slice X3.a c.words.length X3.c] 63) = v3 at *
  replace HOa := Aside.mk (HOa.out.below hb)
  replace HOb := Aside.mk (HOb.out.below hb)
  replace HOc := Aside.mk (HOc.out.below hb)
  replace HI := Aside.mk hi2
  clear hb hi2
  clear hszv1 hszv2 HB
  obtain ⟨c0, c1, c2, c3, c4, c5, c6, c7⟩ := box8 (HI.out.box _ (List.mem_cons_of_mem _ (List.mem_cons_of_mem _ (List.mem_cons_self ..))))
  go_upto_region 3 with (go_at_call 38; refine (HZa.out _ _ _ _ _ _ _ HOa.out).mono ?_; rintro e u4 ⟨F1, L1, rfl, hz, hb⟩; have HZO := Aside.mk (And.intro hz.f.rd hz.l.rd); clear hz c0 c1 c2 c3 c4 c5 c6 c7; replace HI := Aside.mk (HI.out.below hb); replace HOa := Aside.mk (HOa.out.below hb); replace HOb := Aside.mk (HOb.out.below hb); replace HOc := Aside.mk (HOc.out.below hb); clear hb; dsimp only [zV])
  obtain ⟨x, hx⟩ : ∃ z, zL k r1 = z := ⟨_, rfl⟩
  rw [hx] at HZO
  rw [hx]
  have Ex := Aside.mk hx
  clear hx
  replace HI := Aside.mk ((HI.out.rds _ _ HZO.out.1).rds _ _ HZO.out.2)
  clear HZO
  have hi2 := HI.out.new #[.int .i64 k, .int .i64 s, .int .i64 (x.n : Int), .int .i64 (x.nulls : Int), .int .i64 (x.odd : Int), .bool x.has, .int .u64 (x.least : Int), .int .u64 (x.most : Int), .slice F1.a x.first.length F1.c, .slice L1.a x.last.length L1.c] 79
  have hb := below_new u4 (.cells #[.int .i64 k, .int .i64 s, .int .i64 (x.n : Int), .int .i64 (x.nulls : Int), .int .i64 (x.odd : Int), .bool x.has, .int .u64 (x.least : Int), .int .u64 (x.most : Int), .slice F1.a x.first.length F1.c, .slice L1.a x.last.length L1.c] 79)
  generalize u4.alloc (.cells #[.int .i64 k, .int .i64 s, .int .i64 (x.n : Int), .int .i64 (x.nulls : Int), .int .i64 (x.odd : Int), .bool x.has, .int .u64 (x.least : Int), .int .u64 (x.most : Int), .slice F1.a x.first.length F1.c, .slice L1.a x.last.length L1.c] 79) = v4 at *
  replace HOa := Aside.mk (HOa.out.below hb)
  replace HOb := Aside.mk (HOb.out.below hb)
  replace HOc := Aside.mk (HOc.out.below hb)
  replace HI := Aside.mk hi2
  clear hb hi2
  obtain ⟨c0, c1, c2, c3, c4, c5, c6, c7⟩ := box8 (HI.out.box _ (List.mem_cons_of_mem _ (List.mem_cons_of_mem _ (List.mem_cons_self ..))))
  go_upto_region 4 with (go_at_call 38; refine (HZb.out _ _ _ _ _ _ _ HOb.out).mono ?_; rintro e u5 ⟨F2, L2, rfl, hz, hb⟩; have HZO := Aside.mk (And.intro hz.f.rd hz.l.rd); clear hz c0 c1 c2 c3 c4 c5 c6 c7; replace HI := Aside.mk (HI.out.below hb); replace HOa := Aside.mk (HOa.out.below hb); replace HOb := Aside.mk (HOb.out.below hb); replace HOc := Aside.mk (HOc.out.below hb); clear hb; dsimp only [zV])
  obtain ⟨y, hy⟩ : ∃ z, zL k r2 = z := ⟨_, rfl⟩
  rw [hy] at HZO
  rw [hy]
  have Ey := Aside.mk hy
  clear hy
  replace HI := Aside.mk ((HI.out.rds _ _ HZO.out.1).rds _ _ HZO.out.2)
  clear HZO
  have hi2 := HI.out.new #[.int .i64 k, .int .i64 s, .int .i64 (y.n : Int), .int .i64 (y.nulls : Int), .int .i64 (y.odd : Int), .bool y.has, .int .u64 (y.least : Int), .int .u64 (y.most : Int), .slice F2.a y.first.length F2.c, .slice L2.a y.last.length L2.c] 79
  have hb := below_new u5 (.cells #[.int .i64 k, .int .i64 s, .int .i64 (y.n : Int), .int .i64 (y.nulls : Int), .int .i64 (y.odd : Int), .bool y.has, .int .u64 (y.least : Int), .int .u64 (y.most : Int), .slice F2.a y.first.length F2.c, .slice L2.a y.last.length L2.c] 79)
  generalize u5.alloc (.cells #[.int .i64 k, .int .i64 s, .int .i64 (y.n : Int), .int .i64 (y.nulls : Int), .int .i64 (y.odd : Int), .bool y.has, .int .u64 (y.least : Int), .int .u64 (y.most : Int), .slice F2.a y.first.length F2.c, .slice L2.a y.last.length L2.c] 79) = v5 at *
  replace HOa := Aside.mk (HOa.out.below hb)
  replace HOb := Aside.mk (HOb.out.below hb)
  replace HOc := Aside.mk (HOc.out.below hb)
  replace HI := Aside.mk hi2
  clear hb hi2
  obtain ⟨c0, c1, c2, c3, c4, c5, c6, c7⟩ := box8 (HI.out.box _ (List.mem_cons_of_mem _ (List.mem_cons_of_mem _ (List.mem_cons_self ..))))
  go_upto_region 5 with (go_at_call 38; refine (HZc.out _ _ _ _ _ _ _ HOc.out).mono ?_; rintro e u6 ⟨F3, L3, rfl, hz, hb⟩; have HZO := Aside.mk (And.intro hz.f.rd hz.l.rd); clear hz c0 c1 c2 c3 c4 c5 c6 c7; replace HI := Aside.mk (HI.out.below hb); replace HOa := Aside.mk (HOa.out.below hb); replace HOb := Aside.mk (HOb.out.below hb); replace HOc := Aside.mk (HOc.out.below hb); clear hb; dsimp only [zV])
  obtain ⟨z, hz⟩ : ∃ z, zL k r3 = z := ⟨_, rfl⟩
  rw [hz] at HZO
  rw [hz]
  have Ez := Aside.mk hz
  clear hz
  replace HI := Aside.mk ((HI.out.rds _ _ HZO.out.1).rds _ _ HZO.out.2)
  clear HZO
  have hi2 := HI.out.new #[.int .i64 k, .int .i64 s, .int .i64 (z.n : Int), .int .i64 (z.nulls : Int), .int .i64 (z.odd : Int), .bool z.has, .int .u64 (z.least : Int), .int .u64 (z.most : Int), .slice F3.a z.first.length F3.c, .slice L3.a z.last.length L3.c] 79
  have hb := below_new u6 (.cells #[.int .i64 k, .int .i64 s, .int .i64 (z.n : Int), .int .i64 (z.nulls : Int), .int .i64 (z.odd : Int), .bool z.has, .int .u64 (z.least : Int), .int .u64 (z.most : Int), .slice F3.a z.first.length F3.c, .slice L3.a z.last.length L3.c] 79)
  generalize u6.alloc (.cells #[.int .i64 k, .int .i64 s, .int .i64 (z.n : Int), .int .i64 (z.nulls : Int), .int .i64 (z.odd : Int), .bool z.has, .int .u64 (z.least : Int), .int .u64 (z.most : Int), .slice F3.a z.first.length F3.c, .slice L3.a z.last.length L3.c] 79) = v6 at *
  replace HOa := Aside.mk (HOa.out.below hb)
  replace HOb := Aside.mk (HOb.out.below hb)
  replace HOc := Aside.mk (HOc.out.below hb)
  replace HI := Aside.mk hi2
  clear hb hi2
  clear HZa HZb HZc
  go_upto_region 7 with (first | (go_at_call 41; refine (num19_any _ _).mono ?_; rintro e wnn ⟨rfl, hb⟩; replace HI := Aside.mk (HI.out.below hb); replace HOa := Aside.mk (HOa.out.below hb); replace HOb := Aside.mk (HOb.out.below hb); replace HOc := Aside.mk (HOc.out.below hb); clear hb) | (go_at_call 43; refine (wakes19_any _).mono ?_; rintro e u7 ⟨rfl, hb⟩; replace HI := Aside.mk (HI.out.below hb); replace HOa := Aside.mk (HOa.out.below hb); replace HOb := Aside.mk (HOb.out.below hb); replace HOc := Aside.mk (HOc.out.below hb); clear hb))
  obtain ⟨c0, c1, c2, c3, c4, c5, c6, c7⟩ := box8 (HI.out.box _ (List.mem_cons_of_mem _ (List.mem_cons_of_mem _ (List.mem_cons_of_mem _ (List.mem_cons_of_mem _ (List.mem_cons_of_mem _ (List.mem_cons_self ..)))))))
  obtain ⟨d0, d1, d2, d3, d4, d5, d6, d7⟩ := box8 (HI.out.box _ (List.mem_cons_of_mem _ (List.mem_cons_of_mem _ (List.mem_cons_of_mem _ (List.mem_cons_of_mem _ (List.mem_cons_self ..))))))
  go_upto_region 8 with (go_at_call 68; refine (HJN.out _ _ _ _ _ _ _ _ _ _ _ _ _ HOa.out HOb.out).mono ?_; rintro e u8 ⟨B4, D4, E4, X4, va4, rfl, hown, hb⟩; have HOd := Aside.mk hown; clear hown HJN c0 c1 c2 c3 c4 c5 c6 c7 d0 d1 d2 d3 d4 d5 d6 d7; replace HI := Aside.mk (HI.out.below hb); replace HOa := Aside.mk (HOa.out.below hb); replace HOb := Aside.mk (HOb.out.below hb); replace HOc := Aside.mk (HOc.out.below hb); clear hb; dsimp only [colV])
  have hi2 := HI.out.new #[.int .i64 d.k, .int .i64 d.s, .int .i64 d.n, .int .i64 d.m, .slice B4.a d.bits.length B4.c, .slice D4.a d.data.length D4.c, .slice E4.a d.ends.length E4.c, .slice X4.a d.words.length X4.c] 63
  have hb := below_new u8 (.cells #[.int .i64 d.k, .int .i64 d.s, .int .i64 d.n, .int .i64 d.m, .slice B4.a d.bits.length B4.c, .slice D4.a d.data.length D4.c, .slice E4.a d.ends.length E4.c, .slice X4.a d.words.length X4.c] 63)
  generalize u8.alloc (.cells #[.int .i64 d.k, .int .i64 d.s, .int .i64 d.n, .int .i64 d.m, .slice B4.a d.bits.length B4.c, .slice D4.a d.data.length D4.c, .slice E4.a d.ends.length E4.c, .slice X4.a d.words.length X4.c] 63) = v7 at *
  replace HOa := Aside.mk (HOa.out.below hb)
  replace HOb := Aside.mk (HOb.out.below hb)
  replace HOc := Aside.mk (HOc.out.below hb)
  replace HOd := Aside.mk (HOd.out.below hb)
  replace HI := Aside.mk hi2
  clear hb hi2
  obtain ⟨c0, c1, c2, c3, c4, c5, c6, c7⟩ := box8 (HI.out.box _ (List.mem_cons_self ..))
  go_upto_region 9 with (go_at_call 38; refine (HZd.out _ _ _ _ _ _ _ HOd.out).mono ?_; rintro e u9 ⟨F4, L4, rfl, hz, hb⟩; have HZO := Aside.mk (And.intro hz.f.rd hz.l.rd); clear hz c0 c1 c2 c3 c4 c5 c6 c7; replace HI := Aside.mk (HI.out.below hb); replace HOa := Aside.mk (HOa.out.below hb); replace HOb := Aside.mk (HOb.out.below hb); replace HOc := Aside.mk (HOc.out.below hb); replace HOd := Aside.mk (HOd.out.below hb); clear hb; dsimp only [zV])
  obtain ⟨q, hq⟩ : ∃ z, zL k (r1 ++ r2) = z := ⟨_, rfl⟩
  rw [hq] at HZO
  rw [hq]
  have Eq := Aside.mk hq
  clear hq
  replace HI := Aside.mk ((HI.out.rds _ _ HZO.out.1).rds _ _ HZO.out.2)
  clear HZO
  have hi2 := HI.out.new #[.int .i64 k, .int .i64 s, .int .i64 (q.n : Int), .int .i64 (q.nulls : Int), .int .i64 (q.odd : Int), .bool q.has, .int .u64 (q.least : Int), .int .u64 (q.most : Int), .slice F4.a q.first.length F4.c, .slice L4.a q.last.length L4.c] 79
  have hb := below_new u9 (.cells #[.int .i64 k, .int .i64 s, .int .i64 (q.n : Int), .int .i64 (q.nulls : Int), .int .i64 (q.odd : Int), .bool q.has, .int .u64 (q.least : Int), .int .u64 (q.most : Int), .slice F4.a q.first.length F4.c, .slice L4.a q.last.length L4.c] 79)
  generalize u9.alloc (.cells #[.int .i64 k, .int .i64 s, .int .i64 (q.n : Int), .int .i64 (q.nulls : Int), .int .i64 (q.odd : Int), .bool q.has, .int .u64 (q.least : Int), .int .u64 (q.most : Int), .slice F4.a q.first.length F4.c, .slice L4.a q.last.length L4.c] 79) = v8 at *
  replace HOa := Aside.mk (HOa.out.below hb)
  replace HOb := Aside.mk (HOb.out.below hb)
  replace HOc := Aside.mk (HOc.out.below hb)
  replace HOd := Aside.mk (HOd.out.below hb)
  replace HI := Aside.mk hi2
  clear hb hi2
  clear HZd HOa HOb HOc HOd
  have hm := zmerge_fold HK.out HF.out.2.2.2.1 F1 L1 F2 L2 v8 (by rw [Ex.out]; exact (HI.out.rd _ (List.mem_cons_of_mem _ (List.mem_cons_of_mem _ (List.mem_cons_of_mem _ (List.mem_cons_of_mem _ (List.mem_cons_of_mem _ (List.mem_cons_of_mem _ (List.mem_cons_of_mem _ (List.mem_cons_self ..)))))))))) (by rw [Ex.out]; exact (HI.out.rd _ (List.mem_cons_of_mem _ (List.mem_cons_of_mem _ (List.mem_cons_of_mem _ (List.mem_cons_of_mem _ (List.mem_cons_of_mem _ (List.mem_cons_of_mem _ (List.mem_cons_self ..))))))))) (by rw [Ey.out]; exact (HI.out.rd _ (List.mem_cons_of_mem _ (List.mem_cons_of_mem _ (List.mem_cons_of_mem _ (List.mem_cons_of_mem _ (List.mem_cons_of_mem _ (List.mem_cons_self ..)))))))) (by rw [Ey.out]; exact (HI.out.rd _ (List.mem_cons_of_mem _ (List.mem_cons_of_mem _ (List.mem_cons_of_mem _ (List.mem_cons_of_mem _ (List.mem_cons_self ..)))))))
  rw [Ex.out, Ey.out, Eq.out] at hm
  dsimp only [zV] at hm
  have HM := Aside.mk hm
  clear hm
  obtain ⟨c0, c1, c2, c3, c4, c5, c6, c7, c8, c9⟩ := box10 (HI.out.box _ (List.mem_cons_of_mem _ (List.mem_cons_of_mem _ (List.mem_cons_of_mem _ (List.mem_cons_of_mem _ (List.mem_cons_self ..))))))
  obtain ⟨d0, d1, d2, d3, d4, d5, d6, d7, d8, d9⟩ := box10 (HI.out.box _ (List.mem_cons_of_mem _ (List.mem_cons_of_mem _ (List.mem_cons_of_mem _ (List.mem_cons_self ..)))))
  go_upto_region 10 with (go_at_call 69; refine HM.out.mono ?_; rintro e u10 ⟨F5, L5, rfl, hz, hb⟩; have HZO := Aside.mk (And.intro hz.f.rd hz.l.rd); clear hz HM c0 c1 c2 c3 c4 c5 c6 c7 c8 c9 d0 d1 d2 d3 d4 d5 d6 d7 d8 d9; replace HI := Aside.mk (HI.out.below hb); clear hb; dsimp only [zV])
  replace HI := Aside.mk ((HI.out.rds _ _ HZO.out.1).rds _ _ HZO.out.2)
  clear HZO
  have hi2 := HI.out.new #[.int .i64 k, .int .i64 s, .int .i64 (q.n : Int), .int .i64 (q.nulls : Int), .int .i64 (q.odd : Int), .bool q.has, .int .u64 (q.least : Int), .int .u64 (q.most : Int), .slice F5.a q.first.length F5.c, .slice L5.a q.last.length L5.c] 79
  have hb := below_new u10 (.cells #[.int .i64 k, .int .i64 s, .int .i64 (q.n : Int), .int .i64 (q.nulls : Int), .int .i64 (q.odd : Int), .bool q.has, .int .u64 (q.least : Int), .int .u64 (q.most : Int), .slice F5.a q.first.length F5.c, .slice L5.a q.last.length L5.c] 79)
  generalize u10.alloc (.cells #[.int .i64 k, .int .i64 s, .int .i64 (q.n : Int), .int .i64 (q.nulls : Int), .int .i64 (q.odd : Int), .bool q.has, .int .u64 (q.least : Int), .int .u64 (q.most : Int), .slice F5.a q.first.length F5.c, .slice L5.a q.last.length L5.c] 79) = v9 at *
  replace HI := Aside.mk hi2
  clear hb hi2
  have hm := zmerge_fold HK.out HF.out.2.2.2.2.1 F2 L2 F3 L3 v9 (by rw [Ey.out]; exact (HI.out.rd _ (List.mem_cons_of_mem _ (List.mem_cons_of_mem _ (List.mem_cons_of_mem _ (List.mem_cons_of_mem _ (List.mem_cons_of_mem _ (List.mem_cons_of_mem _ (List.mem_cons_of_mem _ (List.mem_cons_self ..)))))))))) (by rw [Ey.out]; exact (HI.out.rd _ (List.mem_cons_of_mem _ (List.mem_cons_of_mem _ (List.mem_cons_of_mem _ (List.mem_cons_of_mem _ (List.mem_cons_of_mem _ (List.mem_cons_of_mem _ (List.mem_cons_self ..))))))))) (by rw [Ez.out]; exact (HI.out.rd _ (List.mem_cons_of_mem _ (List.mem_cons_of_mem _ (List.mem_cons_of_mem _ (List.mem_cons_of_mem _ (List.mem_cons_of_mem _ (List.mem_cons_self ..)))))))) (by rw [Ez.out]; exact (HI.out.rd _ (List.mem_cons_of_mem _ (List.mem_cons_of_mem _ (List.mem_cons_of_mem _ (List.mem_cons_of_mem _ (List.mem_cons_self ..)))))))
  obtain ⟨p, hp⟩ : ∃ z, zL k (r2 ++ r3) = z := ⟨_, rfl⟩
  have Ep := Aside.mk hp
  clear hp
  rw [Ey.out, Ez.out, Ep.out] at hm
  dsimp only [zV] at hm
  have HM := Aside.mk hm
  clear hm
  obtain ⟨c0, c1, c2, c3, c4, c5, c6, c7, c8, c9⟩ := box10 (HI.out.box _ (List.mem_cons_of_mem _ (List.mem_cons_of_mem _ (List.mem_cons_of_mem _ (List.mem_cons_of_mem _ (List.mem_cons_self ..))))))
  obtain ⟨d0, d1, d2, d3, d4, d5, d6, d7, d8, d9⟩ := box10 (HI.out.box _ (List.mem_cons_of_mem _ (List.mem_cons_of_mem _ (List.mem_cons_of_mem _ (List.mem_cons_self ..)))))
  go_upto_region 11 with (go_at_call 69; refine HM.out.mono ?_; rintro e u11 ⟨F6, L6, rfl, hz, hb⟩; have HZO := Aside.mk (And.intro hz.f.rd hz.l.rd); clear hz HM c0 c1 c2 c3 c4 c5 c6 c7 c8 c9 d0 d1 d2 d3 d4 d5 d6 d7 d8 d9; replace HI := Aside.mk (HI.out.below hb); clear hb; dsimp only [zV])
  replace HI := Aside.mk ((HI.out.rds _ _ HZO.out.1).rds _ _ HZO.out.2)
  clear HZO
  have hi2 := HI.out.new #[.int .i64 k, .int .i64 s, .int .i64 (p.n : Int), .int .i64 (p.nulls : Int), .int .i64 (p.odd : Int), .bool p.has, .int .u64 (p.least : Int), .int .u64 (p.most : Int), .slice F6.a p.first.length F6.c, .slice L6.a p.last.length L6.c] 79
  have hb := below_new u11 (.cells #[.int .i64 k, .int .i64 s, .int .i64 (p.n : Int), .int .i64 (p.nulls : Int), .int .i64 (p.odd : Int), .bool p.has, .int .u64 (p.least : Int), .int .u64 (p.most : Int), .slice F6.a p.first.length F6.c, .slice L6.a p.last.length L6.c] 79)
  generalize u11.alloc (.cells #[.int .i64 k, .int .i64 s, .int .i64 (p.n : Int), .int .i64 (p.nulls : Int), .int .i64 (p.odd : Int), .bool p.has, .int .u64 (p.least : Int), .int .u64 (p.most : Int), .slice F6.a p.first.length F6.c, .slice L6.a p.last.length L6.c] 79) = v10 at *
  replace HI := Aside.mk hi2
  clear hb hi2
  have hm := zmerge_fold HK.out HF.out.2.2.2.2.2 F5 L5 F3 L3 v10 (by rw [Eq.out]; exact (HI.out.rd _ (List.mem_cons_of_mem _ (List.mem_cons_of_mem _ (List.mem_cons_of_mem _ (List.mem_cons_self ..)))))) (by rw [Eq.out]; exact (HI.out.rd _ (List.mem_cons_of_mem _ (List.mem_cons_of_mem _ (List.mem_cons_self ..))))) (by rw [Ez.out]; exact (HI.out.rd _ (List.mem_cons_of_mem _ (List.mem_cons_of_mem _ (List.mem_cons_of_mem _ (List.mem_cons_of_mem _ (List.mem_cons_of_mem _ (List.mem_cons_of_mem _ (List.mem_cons_of_mem _ (List.mem_cons_self ..)))))))))) (by rw [Ez.out]; exact (HI.out.rd _ (List.mem_cons_of_mem _ (List.mem_cons_of_mem _ (List.mem_cons_of_mem _ (List.mem_cons_of_mem _ (List.mem_cons_of_mem _ (List.mem_cons_of_mem _ (List.mem_cons_self ..)))))))))
  obtain ⟨t, ht⟩ : ∃ z, zL k (r1 ++ r2 ++ r3) = z := ⟨_, rfl⟩
  have Et := Aside.mk ht
  clear ht
  rw [Eq.out, Ez.out, Et.out] at hm
  dsimp only [zV] at hm
  have HM := Aside.mk hm
  clear hm
  obtain ⟨c0, c1, c2, c3, c4, c5, c6, c7, c8, c9⟩ := box10 (HI.out.box _ (List.mem_cons_of_mem _ (List.mem_cons_self ..)))
  obtain ⟨d0, d1, d2, d3, d4, d5, d6, d7, d8, d9⟩ := box10 (HI.out.box _ (List.mem_cons_of_mem _ (List.mem_cons_of_mem _ (List.mem_cons_of_mem _ (List.mem_cons_of_mem _ (List.mem_cons_self ..))))))
  go_upto_region 12 with (go_at_call 69; refine HM.out.mono ?_; rintro e u12 ⟨F7, L7, rfl, hz, hb⟩; have HZO := Aside.mk (And.intro hz.f.rd hz.l.rd); clear hz HM c0 c1 c2 c3 c4 c5 c6 c7 c8 c9 d0 d1 d2 d3 d4 d5 d6 d7 d8 d9; replace HI := Aside.mk (HI.out.below hb); clear hb; dsimp only [zV])
  replace HI := Aside.mk ((HI.out.rds _ _ HZO.out.1).rds _ _ HZO.out.2)
  clear HZO
  have hi2 := HI.out.new #[.int .i64 k, .int .i64 s, .int .i64 (t.n : Int), .int .i64 (t.nulls : Int), .int .i64 (t.odd : Int), .bool t.has, .int .u64 (t.least : Int), .int .u64 (t.most : Int), .slice F7.a t.first.length F7.c, .slice L7.a t.last.length L7.c] 79
  have hb := below_new u12 (.cells #[.int .i64 k, .int .i64 s, .int .i64 (t.n : Int), .int .i64 (t.nulls : Int), .int .i64 (t.odd : Int), .bool t.has, .int .u64 (t.least : Int), .int .u64 (t.most : Int), .slice F7.a t.first.length F7.c, .slice L7.a t.last.length L7.c] 79)
  generalize u12.alloc (.cells #[.int .i64 k, .int .i64 s, .int .i64 (t.n : Int), .int .i64 (t.nulls : Int), .int .i64 (t.odd : Int), .bool t.has, .int .u64 (t.least : Int), .int .u64 (t.most : Int), .slice F7.a t.first.length F7.c, .slice L7.a t.last.length L7.c] 79) = v11 at *
  replace HI := Aside.mk hi2
  clear hb hi2
  have hm := zmerge_fold HK.out (by rw [← List.append_assoc]; exact HF.out.2.2.2.2.2) F1 L1 F6 L6 v11 (by rw [Ex.out]; exact (HI.out.rd _ (List.mem_cons_of_mem _ (List.mem_cons_of_mem _ (List.mem_cons_of_mem _ (List.mem_cons_of_mem _ (List.mem_cons_of_mem _ (List.mem_cons_of_mem _ (List.mem_cons_of_mem _ (List.mem_cons_of_mem _ (List.mem_cons_of_mem _ (List.mem_cons_of_mem _ (List.mem_cons_of_mem _ (List.mem_cons_of_mem _ (List.mem_cons_of_mem _ (List.mem_cons_self ..)))))))))))))))) (by rw [Ex.out]; exact (HI.out.rd _ (List.mem_cons_of_mem _ (List.mem_cons_of_mem _ (List.mem_cons_of_mem _ (List.mem_cons_of_mem _ (List.mem_cons_of_mem _ (List.mem_cons_of_mem _ (List.mem_cons_of_mem _ (List.mem_cons_of_mem _ (List.mem_cons_of_mem _ (List.mem_cons_of_mem _ (List.mem_cons_of_mem _ (List.mem_cons_of_mem _ (List.mem_cons_self ..))))))))))))))) (by rw [Ep.out]; exact (HI.out.rd _ (List.mem_cons_of_mem _ (List.mem_cons_of_mem _ (List.mem_cons_of_mem _ (List.mem_cons_self ..)))))) (by rw [Ep.out]; exact (HI.out.rd _ (List.mem_cons_of_mem _ (List.mem_cons_of_mem _ (List.mem_cons_self ..)))))
  rw [← List.append_assoc] at hm
  rw [Ex.out, Ep.out, Et.out] at hm
  dsimp only [zV] at hm
  have HM := Aside.mk hm
  clear hm
  obtain ⟨c0, c1, c2, c3, c4, c5, c6, c7, c8, c9⟩ := box10 (HI.out.box _ (List.mem_cons_of_mem _ (List.mem_cons_of_mem _ (List.mem_cons_of_mem _ (List.mem_cons_of_mem _ (List.mem_cons_of_mem _ (List.mem_cons_of_mem _ (List.mem_cons_of_mem _ (List.mem_cons_self ..)))))))))
  obtain ⟨d0, d1, d2, d3, d4, d5, d6, d7, d8, d9⟩ := box10 (HI.out.box _ (List.mem_cons_of_mem _ (List.mem_cons_self ..)))
  go_upto_region 13 with (go_at_call 69; refine HM.out.mono ?_; rintro e u13 ⟨F8, L8, rfl, hz, hb⟩; have HZO := Aside.mk (And.intro hz.f.rd hz.l.rd); clear hz HM c0 c1 c2 c3 c4 c5 c6 c7 c8 c9 d0 d1 d2 d3 d4 d5 d6 d7 d8 d9; replace HI := Aside.mk (HI.out.below hb); clear hb; dsimp only [zV])
  replace HI := Aside.mk ((HI.out.rds _ _ HZO.out.1).rds _ _ HZO.out.2)
  clear HZO
  have hi2 := HI.out.new #[.int .i64 k, .int .i64 s, .int .i64 (t.n : Int), .int .i64 (t.nulls : Int), .int .i64 (t.odd : Int), .bool t.has, .int .u64 (t.least : Int), .int .u64 (t.most : Int), .slice F8.a t.first.length F8.c, .slice L8.a t.last.length L8.c] 79
  have hb := below_new u13 (.cells #[.int .i64 k, .int .i64 s, .int .i64 (t.n : Int), .int .i64 (t.nulls : Int), .int .i64 (t.odd : Int), .bool t.has, .int .u64 (t.least : Int), .int .u64 (t.most : Int), .slice F8.a t.first.length F8.c, .slice L8.a t.last.length L8.c] 79)
  generalize u13.alloc (.cells #[.int .i64 k, .int .i64 s, .int .i64 (t.n : Int), .int .i64 (t.nulls : Int), .int .i64 (t.odd : Int), .bool t.has, .int .u64 (t.least : Int), .int .u64 (t.most : Int), .slice F8.a t.first.length F8.c, .slice L8.a t.last.length L8.c] 79) = v12 at *
  replace HI := Aside.mk hi2
  clear hb hi2
  have HS1 := Aside.mk (fun W (h : Below v12.heap.size v12 W) => rsame_any k s q F5 L5 F4 L4 W ((HI.out.rd _ (List.mem_cons_of_mem _ (List.mem_cons_of_mem _ (List.mem_cons_of_mem _ (List.mem_cons_of_mem _ (List.mem_cons_of_mem _ (List.mem_cons_of_mem _ (List.mem_cons_of_mem _ (List.mem_cons_self ..))))))))).below h) ((HI.out.rd _ (List.mem_cons_of_mem _ (List.mem_cons_of_mem _ (List.mem_cons_of_mem _ (List.mem_cons_of_mem _ (List.mem_cons_of_mem _ (List.mem_cons_of_mem _ (List.mem_cons_self ..)))))))).below h) ((HI.out.rd _ (List.mem_cons_of_mem _ (List.mem_cons_of_mem _ (List.mem_cons_of_mem _ (List.mem_cons_of_mem _ (List.mem_cons_of_mem _ (List.mem_cons_of_mem _ (List.mem_cons_of_mem _ (List.mem_cons_of_mem _ (List.mem_cons_of_mem _ (List.mem_cons_self ..))))))))))).below h) ((HI.out.rd _ (List.mem_cons_of_mem _ (List.mem_cons_of_mem _ (List.mem_cons_of_mem _ (List.mem_cons_of_mem _ (List.mem_cons_of_mem _ (List.mem_cons_of_mem _ (List.mem_cons_of_mem _ (List.mem_cons_of_mem _ (List.mem_cons_self ..)))))))))).below h))
  have HS2 := Aside.mk (fun W (h : Below v12.heap.size v12 W) => rsame_any k s t F7 L7 F8 L8 W ((HI.out.rd _ (List.mem_cons_of_mem _ (List.mem_cons_of_mem _ (List.mem_cons_of_mem _ (List.mem_cons_self ..))))).below h) ((HI.out.rd _ (List.mem_cons_of_mem _ (List.mem_cons_of_mem _ (List.mem_cons_self ..)))).below h) ((HI.out.rd _ (List.mem_cons_of_mem _ (List.mem_cons_self ..))).below h) ((HI.out.rd _ (List.mem_cons_self ..)).below h))
  dsimp only [zV] at HS1 HS2
  have HBW := Aside.mk (Below.refl v12.heap.size v12)
  obtain ⟨c0, c1, c2, c3, c4, c5, c6, c7, c8, c9⟩ := box10 (HI.out.box _ (List.mem_cons_of_mem _ (List.mem_cons_of_mem _ (List.mem_cons_of_mem _ (List.mem_cons_self ..)))))
  obtain ⟨d0, d1, d2, d3, d4, d5, d6, d7, d8, d9⟩ := box10 (HI.out.box _ (List.mem_cons_of_mem _ (List.mem_cons_of_mem _ (List.mem_cons_of_mem _ (List.mem_cons_of_mem _ (List.mem_cons_self ..))))))
  obtain ⟨g0, g1, g2, g3, g4, g5, g6, g7, g8, g9⟩ := box10 (HI.out.box _ (List.mem_cons_of_mem _ (List.mem_cons_self ..)))
  obtain ⟨h0, h1, h2, h3, h4, h5, h6, h7, h8, h9⟩ := box10 (HI.out.box _ (List.mem_cons_self ..))
  go_upto_region 15 with (first
    | (go_at_call 41; refine (num19_any _ _).mono ?_; rintro e wnn ⟨rfl, hb⟩; clear c0 c1 c2 c3 c4 c5 c6 c7 c8 c9 d0 d1 d2 d3 d4 d5 d6 d7 d8 d9 g0 g1 g2 g3 g4 g5 g6 g7 g8 g9 h0 h1 h2 h3 h4 h5 h6 h7 h8 h9; replace HBW := Aside.mk (below_chain HBW.out hb); replace HI := Aside.mk (HI.out.below hb); clear hb; obtain ⟨c0, c1, c2, c3, c4, c5, c6, c7, c8, c9⟩ := box10 (HI.out.box _ (List.mem_cons_of_mem _ (List.mem_cons_of_mem _ (List.mem_cons_of_mem _ (List.mem_cons_self ..))))); obtain ⟨d0, d1, d2, d3, d4, d5, d6, d7, d8, d9⟩ := box10 (HI.out.box _ (List.mem_cons_of_mem _ (List.mem_cons_of_mem _ (List.mem_cons_of_mem _ (List.mem_cons_of_mem _ (List.mem_cons_self ..)))))); obtain ⟨g0, g1, g2, g3, g4, g5, g6, g7, g8, g9⟩ := box10 (HI.out.box _ (List.mem_cons_of_mem _ (List.mem_cons_self ..))); obtain ⟨h0, h1, h2, h3, h4, h5, h6, h7, h8, h9⟩ := box10 (HI.out.box _ (List.mem_cons_self ..)))
    | (go_at_call 40; refine (HS1.out _ HBW.out).mono ?_; rintro e u14 ⟨rfl, hb⟩; clear HS1; clear c0 c1 c2 c3 c4 c5 c6 c7 c8 c9 d0 d1 d2 d3 d4 d5 d6 d7 d8 d9 g0 g1 g2 g3 g4 g5 g6 g7 g8 g9 h0 h1 h2 h3 h4 h5 h6 h7 h8 h9; replace HBW := Aside.mk (below_chain HBW.out hb); replace HI := Aside.mk (HI.out.below hb); clear hb; obtain ⟨c0, c1, c2, c3, c4, c5, c6, c7, c8, c9⟩ := box10 (HI.out.box _ (List.mem_cons_of_mem _ (List.mem_cons_of_mem _ (List.mem_cons_of_mem _ (List.mem_cons_self ..))))); obtain ⟨d0, d1, d2, d3, d4, d5, d6, d7, d8, d9⟩ := box10 (HI.out.box _ (List.mem_cons_of_mem _ (List.mem_cons_of_mem _ (List.mem_cons_of_mem _ (List.mem_cons_of_mem _ (List.mem_cons_self ..)))))); obtain ⟨g0, g1, g2, g3, g4, g5, g6, g7, g8, g9⟩ := box10 (HI.out.box _ (List.mem_cons_of_mem _ (List.mem_cons_self ..))); obtain ⟨h0, h1, h2, h3, h4, h5, h6, h7, h8, h9⟩ := box10 (HI.out.box _ (List.mem_cons_self ..)))
    | (go_at_call 40; refine (HS2.out _ HBW.out).mono ?_; rintro e u15 ⟨rfl, hb⟩; clear HS2; clear c0 c1 c2 c3 c4 c5 c6 c7 c8 c9 d0 d1 d2 d3 d4 d5 d6 d7 d8 d9 g0 g1 g2 g3 g4 g5 g6 g7 g8 g9 h0 h1 h2 h3 h4 h5 h6 h7 h8 h9; replace HBW := Aside.mk (below_chain HBW.out hb); replace HI := Aside.mk (HI.out.below hb); clear hb; obtain ⟨c0, c1, c2, c3, c4, c5, c6, c7, c8, c9⟩ := box10 (HI.out.box _ (List.mem_cons_of_mem _ (List.mem_cons_of_mem _ (List.mem_cons_of_mem _ (List.mem_cons_self ..))))); obtain ⟨d0, d1, d2, d3, d4, d5, d6, d7, d8, d9⟩ := box10 (HI.out.box _ (List.mem_cons_of_mem _ (List.mem_cons_of_mem _ (List.mem_cons_of_mem _ (List.mem_cons_of_mem _ (List.mem_cons_self ..)))))); obtain ⟨g0, g1, g2, g3, g4, g5, g6, g7, g8, g9⟩ := box10 (HI.out.box _ (List.mem_cons_of_mem _ (List.mem_cons_self ..))); obtain ⟨h0, h1, h2, h3, h4, h5, h6, h7, h8, h9⟩ := box10 (HI.out.box _ (List.mem_cons_self ..))))
  clear HBW c0 c1 c2 c3 c4 c5 c6 c7 c8 c9 d0 d1 d2 d3 d4 d5 d6 d7 d8 d9 g0 g1 g2 g3 g4 g5 g6 g7 g8 g9 h0 h1 h2 h3 h4 h5 h6 h7 h8 h9
  go_upto_region 16 with (go_at_call 24; refine (kind_any m _).mono ?_; rintro e u16 ⟨rfl, hb⟩; replace HI := Aside.mk (HI.out.below hb); clear hb)
  generalize kindI m = k2 at *
  generalize scaleI m = s2 at *
  have hi2 := HI.out.new #[.int .i64 k2, .int .i64 s2] 23
  have hb := below_new u16 (.cells #[.int .i64 k2, .int .i64 s2] 23)
  generalize u16.alloc (.cells #[.int .i64 k2, .int .i64 s2] 23) = v13 at *
  replace HI := Aside.mk hi2
  clear hb hi2
  have HRX := Aside.mk (And.intro (HI.out.rd _ (List.mem_cons_of_mem _ (List.mem_cons_of_mem _ (List.mem_cons_of_mem _ (List.mem_cons_of_mem _ (List.mem_cons_of_mem _ (List.mem_cons_of_mem _ (List.mem_cons_of_mem _ (List.mem_cons_of_mem _ (List.mem_cons_of_mem _ (List.mem_cons_of_mem _ (List.mem_cons_of_mem _ (List.mem_cons_of_mem _ (List.mem_cons_of_mem _ (List.mem_cons_of_mem _ (List.mem_cons_of_mem _ (List.mem_cons_self ..))))))))))))))))) (HI.out.rd _ (List.mem_cons_of_mem _ (List.mem_cons_of_mem _ (List.mem_cons_of_mem _ (List.mem_cons_of_mem _ (List.mem_cons_of_mem _ (List.mem_cons_of_mem _ (List.mem_cons_of_mem _ (List.mem_cons_of_mem _ (List.mem_cons_of_mem _ (List.mem_cons_of_mem _ (List.mem_cons_of_mem _ (List.mem_cons_of_mem _ (List.mem_cons_of_mem _ (List.mem_cons_of_mem _ (List.mem_cons_self ..)))))))))))))))))
  obtain ⟨c0, c1, c2, c3, c4, c5, c6, c7, c8, c9⟩ := box10 (HI.out.box _ (List.mem_cons_of_mem _ (List.mem_cons_of_mem _ (List.mem_cons_of_mem _ (List.mem_cons_of_mem _ (List.mem_cons_of_mem _ (List.mem_cons_of_mem _ (List.mem_cons_of_mem _ (List.mem_cons_of_mem _ (List.mem_cons_of_mem _ (List.mem_cons_self ..)))))))))))
  obtain ⟨d0, d1⟩ := box2z (HI.out.box _ (List.mem_cons_self ..))
  by_cases hk : k = k2
  · by_cases hs : s = s2
    · subst hk
      subst hs
      have hm := zmerge_fold HK.out (r := []) (by simpa using HF.out.1) F1 L1 ⟨none, 0⟩ ⟨none, 0⟩ v13 (by rw [Ex.out]; exact HRX.out.1) (by rw [Ex.out]; exact HRX.out.2) (Rd.nil _ _) (Rd.nil _ _)
      rw [List.append_nil, Ex.out, zL_nil] at hm
      dsimp only [zV, zZero, List.length_nil] at hm
      have HM := Aside.mk hm
      clear hm
      go_upto_region 17 with (go_at_call 69; refine HM.out.mono ?_; rintro e u17 ⟨F9, L9, rfl, hz, hb⟩; clear hz HM c0 c1 c2 c3 c4 c5 c6 c7 c8 c9 d0 d1; replace HI := Aside.mk (HI.out.below hb); clear hb; dsimp only [zV])
      refine wp_region_calm (by kernel_rfl) (by kernel_rfl) ?_
      refine calm_take (by rfl) ?v1000 (fun w' hw' => ?hy1000) ?rest1000
      case hy1000 => go_simp <;> first | rfl | skip
      simp only [Act.put, List.setIfInBounds_toArray, List.set_cons_zero, List.set_cons_succ]
      refine' calm_call (by rfl) (.int .i64 0) ?nx1001 (fun w' => ?hr1001) _ _ ?hn1001 (fun w' hw' => ?hc1001) ?rest1001
      case hr1001 => go_simp <;> rfl
      case hn1001 => rfl
      case hc1001 => exact (num19_any _ w').mono (by rintro e w3 ⟨rfl, hb3⟩; exact ⟨rfl, below_chain hw' hb3⟩)
      simp only [Act.put, List.setIfInBounds_toArray, List.set_cons_zero, List.set_cons_succ]
      refine calm_take (by rfl) ?v1002 (fun w' hw' => ?hy1002) ?rest1002
      case hy1002 => go_simp <;> first | rfl | skip
      simp only [Act.put, List.setIfInBounds_toArray, List.set_cons_zero, List.set_cons_succ]
      refine calm_take (by rfl) ?v1003 (fun w' hw' => ?hy1003) ?rest1003
      case hy1003 => have hIw := HI.out.below hw'; obtain ⟨c0, c1, c2, c3, c4, c5, c6, c7, c8, c9⟩ := box10 (hIw.box _ (List.mem_cons_of_mem _ (List.mem_cons_of_mem _ (List.mem_cons_of_mem _ (List.mem_cons_of_mem _ (List.mem_cons_of_mem _ (List.mem_cons_of_mem _ (List.mem_cons_of_mem _ (List.mem_cons_of_mem _ (List.mem_cons_of_mem _ (List.mem_cons_self ..))))))))))); obtain ⟨d0, d1⟩ := box2z (hIw.box _ (List.mem_cons_self ..)); go_simp <;> first | rfl | skip
      simp only [Act.put, List.setIfInBounds_toArray, List.set_cons_zero, List.set_cons_succ]
      refine calm_take (by rfl) ?v1004 (fun w' hw' => ?hy1004) ?rest1004
      case hy1004 => go_simp <;> first | rfl | skip
      simp only [Act.put, List.setIfInBounds_toArray, List.set_cons_zero, List.set_cons_succ]
      refine calm_take (by rfl) ?v1005 (fun w' hw' => ?hy1005) ?rest1005
      case hy1005 => have hIw := HI.out.below hw'; obtain ⟨c0, c1, c2, c3, c4, c5, c6, c7, c8, c9⟩ := box10 (hIw.box _ (List.mem_cons_of_mem _ (List.mem_cons_of_mem _ (List.mem_cons_of_mem _ (List.mem_cons_of_mem _ (List.mem_cons_of_mem _ (List.mem_cons_of_mem _ (List.mem_cons_of_mem _ (List.mem_cons_of_mem _ (List.mem_cons_of_mem _ (List.mem_cons_self ..))))))))))); obtain ⟨d0, d1⟩ := box2z (hIw.box _ (List.mem_cons_self ..)); go_simp <;> first | rfl | skip
      simp only [Act.put, List.setIfInBounds_toArray, List.set_cons_zero, List.set_cons_succ]
      refine calm_take (by rfl) ?v1006 (fun w' hw' => ?hy1006) ?rest1006
      case hy1006 => go_simp <;> first | rfl | skip
      simp only [Act.put, List.setIfInBounds_toArray, List.set_cons_zero, List.set_cons_succ]
      refine calm_take (by rfl) ?v1007 (fun w' hw' => ?hy1007) ?rest1007
      case hy1007 => go_simp <;> first | rfl | skip
      simp only [Act.put, List.setIfInBounds_toArray, List.set_cons_zero, List.set_cons_succ]
      refine calm_take (by rfl) ?v1008 (fun w' hw' => ?hy1008) ?rest1008
      case hy1008 => go_simp <;> first | rfl | skip
      simp only [Act.put, List.setIfInBounds_toArray, List.set_cons_zero, List.set_cons_succ]
      refine wpQuiet_nil (fun w' hw' => ?_)
      go_wp2
      go_ret
      exact ⟨rfl, (HI.out.below hw').bel⟩
    · subst hk
      have hm := zmerge_no k s k s2 (.inr hs) x zZero F1 L1 ⟨none, 0⟩ ⟨none, 0⟩ v13
      dsimp only [zV, zZero, List.length_nil] at hm
      have HM := Aside.mk hm
      clear hm
      go_upto_region 17 with (go_at_call 69; refine HM.out.mono ?_; rintro e u17 ⟨rfl, hb⟩; clear HM c0 c1 c2 c3 c4 c5 c6 c7 c8 c9 d0 d1; replace HI := Aside.mk (HI.out.below hb); clear hb)
      have hs' : ¬ s2 = s := fun h => hs h.symm
      refine wp_region_calm (by kernel_rfl) (by kernel_rfl) ?_
      refine calm_take (by rfl) ?v2000 (fun w' hw' => ?hy2000) ?rest2000
      case hy2000 => go_simp <;> first | rfl | skip
      simp only [Act.put, List.setIfInBounds_toArray, List.set_cons_zero, List.set_cons_succ]
      refine' calm_call (by rfl) (.int .i64 190) ?nx2001 (fun w' => ?hr2001) _ _ ?hn2001 (fun w' hw' => ?hc2001) ?rest2001
      case hr2001 => go_simp <;> rfl
      case hn2001 => rfl
      case hc2001 => exact (num19_any _ w').mono (by rintro e w3 ⟨rfl, hb3⟩; exact ⟨rfl, below_chain hw' hb3⟩)
      simp only [Act.put, List.setIfInBounds_toArray, List.set_cons_zero, List.set_cons_succ]
      refine calm_take (by rfl) ?v2002 (fun w' hw' => ?hy2002) ?rest2002
      case hy2002 => go_simp <;> first | rfl | skip
      simp only [Act.put, List.setIfInBounds_toArray, List.set_cons_zero, List.set_cons_succ]
      refine calm_take (by rfl) ?v2003 (fun w' hw' => ?hy2003) ?rest2003
      case hy2003 => have hIw := HI.out.below hw'; obtain ⟨c0, c1, c2, c3, c4, c5, c6, c7, c8, c9⟩ := box10 (hIw.box _ (List.mem_cons_of_mem _ (List.mem_cons_of_mem _ (List.mem_cons_of_mem _ (List.mem_cons_of_mem _ (List.mem_cons_of_mem _ (List.mem_cons_of_mem _ (List.mem_cons_of_mem _ (List.mem_cons_of_mem _ (List.mem_cons_of_mem _ (List.mem_cons_self ..))))))))))); obtain ⟨d0, d1⟩ := box2z (hIw.box _ (List.mem_cons_self ..)); go_simp <;> first | rfl | skip
      simp only [Act.put, List.setIfInBounds_toArray, List.set_cons_zero, List.set_cons_succ]
      refine calm_take (by rfl) ?v2004 (fun w' hw' => ?hy2004) ?rest2004
      case hy2004 => go_simp <;> first | rfl | skip
      simp only [Act.put, List.setIfInBounds_toArray, List.set_cons_zero, List.set_cons_succ]
      refine calm_take (by rfl) ?v2005 (fun w' hw' => ?hy2005) ?rest2005
      case hy2005 => have hIw := HI.out.below hw'; obtain ⟨c0, c1, c2, c3, c4, c5, c6, c7, c8, c9⟩ := box10 (hIw.box _ (List.mem_cons_of_mem _ (List.mem_cons_of_mem _ (List.mem_cons_of_mem _ (List.mem_cons_of_mem _ (List.mem_cons_of_mem _ (List.mem_cons_of_mem _ (List.mem_cons_of_mem _ (List.mem_cons_of_mem _ (List.mem_cons_of_mem _ (List.mem_cons_self ..))))))))))); obtain ⟨d0, d1⟩ := box2z (hIw.box _ (List.mem_cons_self ..)); go_simp <;> first | rfl | skip
      simp only [Act.put, List.setIfInBounds_toArray, List.set_cons_zero, List.set_cons_succ]
      refine calm_take (by rfl) ?v2006 (fun w' hw' => ?hy2006) ?rest2006
      case hy2006 => go_simp <;> first | rfl | skip
      simp only [Act.put, List.setIfInBounds_toArray, List.set_cons_zero, List.set_cons_succ]
      refine calm_take (by rfl) ?v2007 (fun w' hw' => ?hy2007) ?rest2007
      case hy2007 => go_simp <;> first | rfl | skip
      simp only [Act.put, List.setIfInBounds_toArray, List.set_cons_zero, List.set_cons_succ]
      refine calm_take (by rfl) ?v2008 (fun w' hw' => ?hy2008) ?rest2008
      case hy2008 => go_simp <;> first | rfl | skip
      simp only [Act.put, List.setIfInBounds_toArray, List.set_cons_zero, List.set_cons_succ]
      refine wpQuiet_nil (fun w' hw' => ?_)
      go_wp2
      go_ret
      exact ⟨rfl, (HI.out.below hw').bel⟩
  · have hm := zmerge_no k s k2 s2 (.inl hk) x zZero F1 L1 ⟨none, 0⟩ ⟨none, 0⟩ v13
    dsimp only [zV, zZero, List.length_nil] at hm
    have HM := Aside.mk hm
    clear hm
    go_upto_region 17 with (go_at_call 69; refine HM.out.mono ?_; rintro e u17 ⟨rfl, hb⟩; clear HM c0 c1 c2 c3 c4 c5 c6 c7 c8 c9 d0 d1; replace HI := Aside.mk (HI.out.below hb); clear hb)
    have hk' : ¬ k2 = k := fun h => hk h.symm
    refine wp_region_calm (by kernel_rfl) (by kernel_rfl) ?_
    refine calm_take (by rfl) ?v3000 (fun w' hw' => ?hy3000) ?rest3000
    case hy3000 => go_simp <;> first | rfl | skip
    simp only [Act.put, List.setIfInBounds_toArray, List.set_cons_zero, List.set_cons_succ]
    refine' calm_call (by rfl) (.int .i64 190) ?nx3001 (fun w' => ?hr3001) _ _ ?hn3001 (fun w' hw' => ?hc3001) ?rest3001
    case hr3001 => go_simp <;> rfl
    case hn3001 => rfl
    case hc3001 => exact (num19_any _ w').mono (by rintro e w3 ⟨rfl, hb3⟩; exact ⟨rfl, below_chain hw' hb3⟩)
    simp only [Act.put, List.setIfInBounds_toArray, List.set_cons_zero, List.set_cons_succ]
    refine calm_take (by rfl) ?v3002 (fun w' hw' => ?hy3002) ?rest3002
    case hy3002 => go_simp <;> first | rfl | skip
    simp only [Act.put, List.setIfInBounds_toArray, List.set_cons_zero, List.set_cons_succ]
    refine calm_take (by rfl) ?v3003 (fun w' hw' => ?hy3003) ?rest3003
    case hy3003 => have hIw := HI.out.below hw'; obtain ⟨c0, c1, c2, c3, c4, c5, c6, c7, c8, c9⟩ := box10 (hIw.box _ (List.mem_cons_of_mem _ (List.mem_cons_of_mem _ (List.mem_cons_of_mem _ (List.mem_cons_of_mem _ (List.mem_cons_of_mem _ (List.mem_cons_of_mem _ (List.mem_cons_of_mem _ (List.mem_cons_of_mem _ (List.mem_cons_of_mem _ (List.mem_cons_self ..))))))))))); obtain ⟨d0, d1⟩ := box2z (hIw.box _ (List.mem_cons_self ..)); go_simp <;> first | rfl | skip
    simp only [Act.put, List.setIfInBounds_toArray, List.set_cons_zero, List.set_cons_succ]
    refine calm_take (by rfl) ?v3004 (fun w' hw' => ?hy3004) ?rest3004
    case hy3004 => go_simp <;> first | rfl | skip
    simp only [Act.put, List.setIfInBounds_toArray, List.set_cons_zero, List.set_cons_succ]
    refine calm_take (by rfl) ?v3005 (fun w' hw' => ?hy3005) ?rest3005
    case hy3005 => have hIw := HI.out.below hw'; obtain ⟨c0, c1, c2, c3, c4, c5, c6, c7, c8, c9⟩ := box10 (hIw.box _ (List.mem_cons_of_mem _ (List.mem_cons_of_mem _ (List.mem_cons_of_mem _ (List.mem_cons_of_mem _ (List.mem_cons_of_mem _ (List.mem_cons_of_mem _ (List.mem_cons_of_mem _ (List.mem_cons_of_mem _ (List.mem_cons_of_mem _ (List.mem_cons_self ..))))))))))); obtain ⟨d0, d1⟩ := box2z (hIw.box _ (List.mem_cons_self ..)); go_simp <;> first | rfl | skip
    simp only [Act.put, List.setIfInBounds_toArray, List.set_cons_zero, List.set_cons_succ]
    refine calm_take (by rfl) ?v3006 (fun w' hw' => ?hy3006) ?rest3006
    case hy3006 => go_simp <;> first | rfl | skip
    simp only [Act.put, List.setIfInBounds_toArray, List.set_cons_zero, List.set_cons_succ]
    refine calm_take (by rfl) ?v3007 (fun w' hw' => ?hy3007) ?rest3007
    case hy3007 => go_simp <;> first | rfl | skip
    simp only [Act.put, List.setIfInBounds_toArray, List.set_cons_zero, List.set_cons_succ]
    refine calm_take (by rfl) ?v3008 (fun w' hw' => ?hy3008) ?rest3008
    case hy3008 => go_simp <;> first | rfl | skip
    simp only [Act.put, List.setIfInBounds_toArray, List.set_cons_zero, List.set_cons_succ]
    refine wpQuiet_nil (fun w' hw' => ?_)
    go_wp2
    go_ret
    exact ⟨rfl, (HI.out.below hw').bel⟩
end Go.Proofs.YtmhjjhaipcgbiaaGreat


namespace Go.Proofs.YtmhjjhaipcgbiaaGreat
open Go.RowKit
set_option linter.unusedVariables false
set_option linter.unusedSimpArgs false
theorem zoneMerges_row (w : World) (n : Int) (wn : (Lit.int .i64 n).wf = true) (m : Int) (wm : (Lit.int .i64 m).wf = true) (a1 : Option Addr) (k1 c1 : Nat) (m1 : List (Sh.M shVal)) (h1 : Sh.Reads w (.sl shVal) (Value.slice a1 k1 c1).cells.toList m1) (a2 : Option Addr) (k2 c2 : Nat) (m2 : List (Sh.M shVal)) (h2 : Sh.Reads w (.sl shVal) (Value.slice a2 k2 c2).cells.toList m2) (a3 : Option Addr) (k3 c3 : Nat) (m3 : List (Sh.M shVal)) (h3 : Sh.Reads w (.sl shVal) (Value.slice a3 k3 c3).cells.toList m3) :
    Calls Tryz.prog 10 #[.int .i64 n, .int .i64 m, .slice a1 k1 c1, .slice a2 k2 c2, .slice a3 k3 c3] w fun e w' => e = .returned (.bool true) ∧ Below w.heap.size w w' := by
  obtain ⟨A1, e1, hr1, hl1, hb1⟩ := rdvs_of_sl h1
  have f1 : Value.slice a1 k1 c1 = .slice A1.a (m1.map toV).length A1.c := by simpa [Value.cells] using e1
  obtain ⟨A2, e2, hr2, hl2, hb2⟩ := rdvs_of_sl h2
  have f2 : Value.slice a2 k2 c2 = .slice A2.a (m2.map toV).length A2.c := by simpa [Value.cells] using e2
  obtain ⟨A3, e3, hr3, hl3, hb3⟩ := rdvs_of_sl h3
  have f3 : Value.slice a3 k3 c3 = .slice A3.a (m3.map toV).length A3.c := by simpa [Value.cells] using e3
  rw [f1, f2, f3]
  exact zoneMerges_walk n m (m1.map toV) (m2.map toV) (m3.map toV) hl1 hl2 hl3 hb1 hb2 hb3 A1 A2 A3 w hr1 hr2 hr3
end Go.Proofs.YtmhjjhaipcgbiaaGreat
