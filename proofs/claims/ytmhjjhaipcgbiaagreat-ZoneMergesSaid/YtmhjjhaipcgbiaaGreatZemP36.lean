/- Texts of this claim, one behind the other: Zjo, Zp, Zoi. -/
import Derived.Test.YtmhjjhaipcgbiaaGreatZemP28
import Derived.Test.YtmhjjhaipcgbiaaGreatZemP35
import Derived.Test.YtmhjjhaipcgbiaaGreatZemP19
import Derived.Test.YtmhjjhaipcgbiaaGreatZemP16

namespace Go.Proofs.YtmhjjhaipcgbiaaGreat
open Go.RowKit
set_option linter.unusedVariables false
set_option linter.unusedSimpArgs false
set_option maxRecDepth 100000
set_option maxHeartbeats 1000000
def zMid (k : Int) (a b : Zn) : Zn :=
  if a.has then (if b.has then ⟨a.n, a.nulls, a.odd, true, if pickU false (ordI k b.least a.least) then b.least else a.least, if pickU true (ordI k b.most a.most) then b.most else a.most, if pickU false (cmpT b.first a.first) then b.first else a.first, if pickU true (cmpT b.last a.last) then b.last else a.last⟩ else a) else b
def zJoin (k : Int) (a b : Zn) : Zn := ⟨a.n + b.n, a.nulls + b.nulls, a.odd + b.odd, (zMid k a b).has, (zMid k a b).least, (zMid k a b).most, (zMid k a b).first, (zMid k a b).last⟩
def ZOB (k : Int) (z : Zn) : Prop := z.has = true → wordedB k = false → PlainI k z.least ∧ PlainI k z.most
structure JMid (k s : Int) (a b : Zn) (F L F2 L2 : SL) (w wx : World) : Prop where
  bel : Below w.heap.size w wx
  ab : wx.heap[w.heap.size]? = some (.cells #[.int .i64 k, .int .i64 s, .int .i64 (a.n : Int), .int .i64 (a.nulls : Int), .int .i64 (a.odd : Int), .bool a.has, .int .u64 (a.least : Int), .int .u64 (a.most : Int), .slice F.a a.first.length F.c, .slice L.a a.last.length L.c] 79 (0, 0))
  bb : wx.heap[w.heap.size + 1]? = some (.cells #[.int .i64 k, .int .i64 s, .int .i64 (b.n : Int), .int .i64 (b.nulls : Int), .int .i64 (b.odd : Int), .bool b.has, .int .u64 (b.least : Int), .int .u64 (b.most : Int), .slice F2.a b.first.length F2.c, .slice L2.a b.last.length L2.c] 79 (0, 0))
  rb : wx.heap[w.heap.size + 1 + 1]? = some (.cells #[.int .i64 0, .int .i64 0, .int .i64 0, .int .i64 0, .int .i64 0, .bool false, .int .u64 0, .int .u64 0, .slice none 0 0, .slice none 0 0] 79 (0, 0))
  zb : ∃ (F' L' : SL) (n nl od : Int), wx.heap[w.heap.size + 1 + 1 + 1]? = some (.cells #[.int .i64 k, .int .i64 s, .int .i64 n, .int .i64 nl, .int .i64 od, .bool (zMid k a b).has, .int .u64 ((zMid k a b).least : Int), .int .u64 ((zMid k a b).most : Int), .slice F'.a (zMid k a b).first.length F'.c, .slice L'.a (zMid k a b).last.length L'.c] 79 (0, 0)) ∧ (∀ W, RdT W a.first F → RdT W b.first F2 → RdT W (zMid k a b).first F') ∧ (∀ W, RdT W a.last L → RdT W b.last L2 → RdT W (zMid k a b).last L')
structure JW (k s : Int) (a b : Zn) (F L F2 L2 : SL) (w wx : World) : Prop where
  bel : Below w.heap.size w wx
  ab : wx.heap[w.heap.size]? = some (.cells #[.int .i64 k, .int .i64 s, .int .i64 (a.n : Int), .int .i64 (a.nulls : Int), .int .i64 (a.odd : Int), .bool a.has, .int .u64 (a.least : Int), .int .u64 (a.most : Int), .slice F.a a.first.length F.c, .slice L.a a.last.length L.c] 79 (0, 0))
  bb : wx.heap[w.heap.size + 1]? = some (.cells #[.int .i64 k, .int .i64 s, .int .i64 (b.n : Int), .int .i64 (b.nulls : Int), .int .i64 (b.odd : Int), .bool b.has, .int .u64 (b.least : Int), .int .u64 (b.most : Int), .slice F2.a b.first.length F2.c, .slice L2.a b.last.length L2.c] 79 (0, 0))
  rb : wx.heap[w.heap.size + 1 + 1]? = some (.cells #[.int .i64 0, .int .i64 0, .int .i64 0, .int .i64 0, .int .i64 0, .bool false, .int .u64 0, .int .u64 0, .slice none 0 0, .slice none 0 0] 79 (0, 0))
theorem JW.move {k s : Int} {a b : Zn} {F L F2 L2 : SL} {w W W' : World} (h : JW k s a b F L F2 L2 w W) (hk : Kept (fun k => k = w.heap.size + 1 + 1 + 1 ∨ W.heap.size ≤ k) W W') : JW k s a b F L F2 L2 w W' :=
  ⟨h.bel.trans (hk.to_below h.bel.size (fun k e => by have := h.bel.size; rcases e with e | e <;> omega)), (hk.block _ (lt_of_blk h.ab) (fun e => by have := lt_of_blk h.ab; rcases e with e | e <;> omega)).trans h.ab, (hk.block _ (lt_of_blk h.bb) (fun e => by have := lt_of_blk h.bb; rcases e with e | e <;> omega)).trans h.bb, (hk.block _ (lt_of_blk h.rb) (fun e => by have := lt_of_blk h.rb; rcases e with e | e <;> omega)).trans h.rb⟩
theorem below_four' (w : World) (o1 o2 o3 o4 : Obj) : Below w.heap.size w ((((w.alloc o1).alloc o2).alloc o3).alloc o4) ∧ ((((w.alloc o1).alloc o2).alloc o3).alloc o4).heap[w.heap.size]? = some o1 ∧ ((((w.alloc o1).alloc o2).alloc o3).alloc o4).heap[w.heap.size + 1]? = some o2 ∧ ((((w.alloc o1).alloc o2).alloc o3).alloc o4).heap[w.heap.size + 1 + 1]? = some o3 ∧ ((((w.alloc o1).alloc o2).alloc o3).alloc o4).heap[w.heap.size + 1 + 1 + 1]? = some o4 := by
  obtain ⟨h1, h2, h3, h4, h5⟩ := below_three' w o1 o2 o3
  refine ⟨h1.alloc (by rw [h2]; omega) _, ?_, ?_, ?_, ?_⟩
  · rw [Below.heap_alloc _ _ _ (by rw [h2]; omega)]; exact h3
  · rw [Below.heap_alloc _ _ _ (by rw [h2]; omega)]; exact h4
  · rw [Below.heap_alloc _ _ _ (by rw [h2]; omega)]; exact h5
  · have := World.alloc_heap_new (((w.alloc o1).alloc o2).alloc o3) o4
    rwa [h2] at this
theorem JW.below {k s : Int} {a b : Zn} {F L F2 L2 : SL} {w W W' : World} (h : JW k s a b F L F2 L2 w W) (hk : Below W.heap.size W W') : JW k s a b F L F2 L2 w W' :=
  ⟨below_chain h.bel hk, (hk.block _ (lt_of_blk h.ab)).trans h.ab, (hk.block _ (lt_of_blk h.bb)).trans h.bb, (hk.block _ (lt_of_blk h.rb)).trans h.rb⟩
structure J1 (k s : Int) (a b : Zn) (F L F2 L2 : SL) (w wx : World) : Prop where
  jw : JW k s a b F L F2 L2 w wx
  zb : wx.heap[w.heap.size + 1 + 1 + 1]? = some (.cells #[.int .i64 k, .int .i64 s, .int .i64 ((if a.has then a else b).n : Int), .int .i64 ((if a.has then a else b).nulls : Int), .int .i64 ((if a.has then a else b).odd : Int), .bool (if a.has then a else b).has, .int .u64 ((if a.has then a else b).least : Int), .int .u64 ((if a.has then a else b).most : Int), .slice (if a.has then F else F2).a (if a.has then a else b).first.length (if a.has then F else F2).c, .slice (if a.has then L else L2).a (if a.has then a else b).last.length (if a.has then L else L2).c] 79 (0, 0))
  rd : RdT wx a.first F ∧ RdT wx a.last L ∧ RdT wx b.first F2 ∧ RdT wx b.last L2
theorem set10_6 {w : World} {b : Nat} {x0 x1 x2 x3 x4 x5 x6 x7 x8 x9 : Value} {T : TypeId} (h : w.heap[b]? = some (.cells #[x0, x1, x2, x3, x4, x5, x6, x7, x8, x9] T (0, 0))) (y : Value) : (w.setCell ⟨b, 6, none⟩ y).heap[b]? = some (.cells #[x0, x1, x2, x3, x4, x5, y, x7, x8, x9] T (0, 0)) := by
  simpa using heap_setCell_at (k := 6) h y
theorem set10_7 {w : World} {b : Nat} {x0 x1 x2 x3 x4 x5 x6 x7 x8 x9 : Value} {T : TypeId} (h : w.heap[b]? = some (.cells #[x0, x1, x2, x3, x4, x5, x6, x7, x8, x9] T (0, 0))) (y : Value) : (w.setCell ⟨b, 7, none⟩ y).heap[b]? = some (.cells #[x0, x1, x2, x3, x4, x5, x6, y, x8, x9] T (0, 0)) := by
  simpa using heap_setCell_at (k := 7) h y
theorem set10_8 {w : World} {b : Nat} {x0 x1 x2 x3 x4 x5 x6 x7 x8 x9 : Value} {T : TypeId} (h : w.heap[b]? = some (.cells #[x0, x1, x2, x3, x4, x5, x6, x7, x8, x9] T (0, 0))) (y : Value) : (w.setCell ⟨b, 8, none⟩ y).heap[b]? = some (.cells #[x0, x1, x2, x3, x4, x5, x6, x7, y, x9] T (0, 0)) := by
  simpa using heap_setCell_at (k := 8) h y
theorem set10_9 {w : World} {b : Nat} {x0 x1 x2 x3 x4 x5 x6 x7 x8 x9 : Value} {T : TypeId} (h : w.heap[b]? = some (.cells #[x0, x1, x2, x3, x4, x5, x6, x7, x8, x9] T (0, 0))) (y : Value) : (w.setCell ⟨b, 9, none⟩ y).heap[b]? = some (.cells #[x0, x1, x2, x3, x4, x5, x6, x7, x8, y] T (0, 0)) := by
  simpa using heap_setCell_at (k := 9) h y
theorem set10_234 {w : World} {b : Nat} {x0 x1 x2 x3 x4 x5 x6 x7 x8 x9 : Value} {T : TypeId} (h : w.heap[b]? = some (.cells #[x0, x1, x2, x3, x4, x5, x6, x7, x8, x9] T (0, 0))) (y2 y3 y4 : Value) : (((w.setCell ⟨b, 2, none⟩ y2).setCell ⟨b, 3, none⟩ y3).setCell ⟨b, 4, none⟩ y4).heap[b]? = some (.cells #[x0, x1, y2, y3, y4, x5, x6, x7, x8, x9] T (0, 0)) := by
  have h := heap_setCell_at (k := 4) (heap_setCell_at (k := 3) (heap_setCell_at (k := 2) h y2) y3) y4
  simpa using h
theorem kept3z (w : World) (b : Nat) (y2 y3 y4 : Value) : Kept (fun k => k = b) w (((w.setCell ⟨b, 2, none⟩ y2).setCell ⟨b, 3, none⟩ y3).setCell ⟨b, 4, none⟩ y4) := by
  repeat (refine Kept.trans ?_ (Kept.setCell _ _ _) (fun _ e _ => e))
  exact Kept.refl _ _
theorem firstU' (k s : Int) (x y : Nat) (up : Bool) (t : Int) (ht : t = if up then -1 else 1) (hk : 1 ≤ k ∧ k ≤ 16) (h : wordedB k = false → PlainI k y ∧ PlainI k x) (ab : Nat) (w : World) (h0 : w.cell? ⟨ab, 0, none⟩ = some (.int .i64 k)) (h1 : w.cell? ⟨ab, 1, none⟩ = some (.int .i64 s)) : Calls Tryz.prog 158 #[.int .u64 x, .int .u64 y, .int .i64 t, .func (.func 157) #[] #[.pointer (some ⟨ab, 0, none⟩)]] w (fun e w' => e = .returned (.int .u64 ((if pickU up (ordI k y x) then y else x : Nat) : Int)) ∧ Below w.heap.size w w') := by
  refine (firstU k s x y up t ht hk h ab w h0 h1).mono ?_
  rintro e w' ⟨rfl, hb⟩
  exact ⟨by cases pickU up (ordI k y x) <;> rfl, hb⟩
theorem firstT' (x y : List Int) (A B : SL) (up : Bool) (t : Int) (ht : t = if up then -1 else 1) (w : World) (hA : RdT w x A) (hB : RdT w y B) : Calls Tryz.prog 159 #[.slice A.a x.length A.c, .slice B.a y.length B.c, .int .i64 t, .func (.func 160) #[] #[]] w (fun e w' => e = .returned (.slice (if pickU up (cmpT y x) then B else A).a (if pickU up (cmpT y x) then y else x).length (if pickU up (cmpT y x) then B else A).c) ∧ w = w') := by
  refine (firstT x y A B up t ht w hA hB).mono ?_
  rintro e w' ⟨rfl, hb⟩
  exact ⟨by cases pickU up (cmpT y x) <;> rfl, hb⟩
theorem join_any (k s : Int) (hk : 1 ≤ k ∧ k ≤ 16) (a b : Zn) (hza : ZOB k a) (hzb : ZOB k b) (hs : a.n + b.n ≤ 1000000 ∧ a.nulls + b.nulls ≤ 1000000 ∧ a.odd + b.odd ≤ 1000000) (F L F2 L2 : SL) (w : World) (hF : RdT w a.first F) (hL : RdT w a.last L) (hF2 : RdT w b.first F2) (hL2 : RdT w b.last L2) :
    Calls Tryz.prog 101 #[zV k s a F L, zV k s b F2 L2] w (fun e w' => ∃ F' L' : SL, e = .returned (zV k s (zJoin k a b) F' L') ∧ (∀ W, RdT W a.first F → RdT W b.first F2 → RdT W (zJoin k a b).first F') ∧ (∀ W, RdT W a.last L → RdT W b.last L2 → RdT W (zJoin k a b).last L') ∧ Below w.heap.size w w') := by
  obtain ⟨t1, t2, t3, t4, t5⟩ := below_four' w (.cells #[.int .i64 k, .int .i64 s, .int .i64 (a.n : Int), .int .i64 (a.nulls : Int), .int .i64 (a.odd : Int), .bool a.has, .int .u64 (a.least : Int), .int .u64 (a.most : Int), .slice F.a a.first.length F.c, .slice L.a a.last.length L.c] 79 (0, 0)) (.cells #[.int .i64 k, .int .i64 s, .int .i64 (b.n : Int), .int .i64 (b.nulls : Int), .int .i64 (b.odd : Int), .bool b.has, .int .u64 (b.least : Int), .int .u64 (b.most : Int), .slice F2.a b.first.length F2.c, .slice L2.a b.last.length L2.c] 79 (0, 0)) (.cells #[.int .i64 0, .int .i64 0, .int .i64 0, .int .i64 0, .int .i64 0, .bool false, .int .u64 0, .int .u64 0, .slice none 0 0, .slice none 0 0] 79 (0, 0)) (.cells #[.int .i64 k, .int .i64 s, .int .i64 (b.n : Int), .int .i64 (b.nulls : Int), .int .i64 (b.odd : Int), .bool b.has, .int .u64 (b.least : Int), .int .u64 (b.most : Int), .slice F2.a b.first.length F2.c, .slice L2.a b.last.length L2.c] 79 (0, 0))
  have hq : ∀ W', ((((w.alloc (.cells #[.int .i64 k, .int .i64 s, .int .i64 (a.n : Int), .int .i64 (a.nulls : Int), .int .i64 (a.odd : Int), .bool a.has, .int .u64 (a.least : Int), .int .u64 (a.most : Int), .slice F.a a.first.length F.c, .slice L.a a.last.length L.c] 79)).alloc (.cells #[.int .i64 k, .int .i64 s, .int .i64 (b.n : Int), .int .i64 (b.nulls : Int), .int .i64 (b.odd : Int), .bool b.has, .int .u64 (b.least : Int), .int .u64 (b.most : Int), .slice F2.a b.first.length F2.c, .slice L2.a b.last.length L2.c] 79)).alloc (.cells #[.int .i64 0, .int .i64 0, .int .i64 0, .int .i64 0, .int .i64 0, .bool false, .int .u64 0, .int .u64 0, .slice none 0 0, .slice none 0 0] 79)).alloc (.cells #[.int .i64 k, .int .i64 s, .int .i64 (b.n : Int), .int .i64 (b.nulls : Int), .int .i64 (b.odd : Int), .bool b.has, .int .u64 (b.least : Int), .int .u64 (b.most : Int), .slice F2.a b.first.length F2.c, .slice L2.a b.last.length L2.c] 79)) = W' → Below w.heap.size w W' ∧ W'.heap[w.heap.size]? = some (.cells #[.int .i64 k, .int .i64 s, .int .i64 (a.n : Int), .int .i64 (a.nulls : Int), .int .i64 (a.odd : Int), .bool a.has, .int .u64 (a.least : Int), .int .u64 (a.most : Int), .slice F.a a.first.length F.c, .slice L.a a.last.length L.c] 79 (0, 0)) ∧ W'.heap[w.heap.size + 1]? = some (.cells #[.int .i64 k, .int .i64 s, .int .i64 (b.n : Int), .int .i64 (b.nulls : Int), .int .i64 (b.odd : Int), .bool b.has, .int .u64 (b.least : Int), .int .u64 (b.most : Int), .slice F2.a b.first.length F2.c, .slice L2.a b.last.length L2.c] 79 (0, 0)) ∧ W'.heap[w.heap.size + 1 + 1]? = some (.cells #[.int .i64 0, .int .i64 0, .int .i64 0, .int .i64 0, .int .i64 0, .bool false, .int .u64 0, .int .u64 0, .slice none 0 0, .slice none 0 0] 79 (0, 0)) ∧ W'.heap[w.heap.size + 1 + 1 + 1]? = some (.cells #[.int .i64 k, .int .i64 s, .int .i64 (b.n : Int), .int .i64 (b.nulls : Int), .int .i64 (b.odd : Int), .bool b.has, .int .u64 (b.least : Int), .int .u64 (b.most : Int), .slice F2.a b.first.length F2.c, .slice L2.a b.last.length L2.c] 79 (0, 0)) := fun W' e => by rw [← e]; exact ⟨t1, t2, t3, t4, t5⟩
  clear t1 t2 t3 t4 t5
  have HT := Aside.mk (And.intro hF (And.intro hL (And.intro hF2 hL2)))
  have HZA := Aside.mk hza
  have HZB := Aside.mk hzb
  have HKK := Aside.mk hk
  have HSZ := Aside.mk hs
  clear hF hL hF2 hL2 hza hzb hk hs
  dsimp only [zV]
  go_enter Tryz.func101, Tryz.ntmps101
  go_upto_region 2 with fail
  generalize ((((w.alloc (.cells #[.int .i64 k, .int .i64 s, .int .i64 (a.n : Int), .int .i64 (a.nulls : Int), .int .i64 (a.odd : Int), .bool a.has, .int .u64 (a.least : Int), .int .u64 (a.most : Int), .slice F.a a.first.length F.c, .slice L.a a.last.length L.c] 79)).alloc (.cells #[.int .i64 k, .int .i64 s, .int .i64 (b.n : Int), .int .i64 (b.nulls : Int), .int .i64 (b.odd : Int), .bool b.has, .int .u64 (b.least : Int), .int .u64 (b.most : Int), .slice F2.a b.first.length F2.c, .slice L2.a b.last.length L2.c] 79)).alloc (.cells #[.int .i64 0, .int .i64 0, .int .i64 0, .int .i64 0, .int .i64 0, .bool false, .int .u64 0, .int .u64 0, .slice none 0 0, .slice none 0 0] 79)).alloc (.cells #[.int .i64 k, .int .i64 s, .int .i64 (b.n : Int), .int .i64 (b.nulls : Int), .int .i64 (b.odd : Int), .bool b.has, .int .u64 (b.least : Int), .int .u64 (b.most : Int), .slice F2.a b.first.length F2.c, .slice L2.a b.last.length L2.c] 79)) = w1 at *
  obtain ⟨t1, t2, t3, t4, t5⟩ := hq w1 rfl
  have B1 := Aside.mk t1
  have T1 := Aside.mk (And.intro t2 (And.intro t3 (And.intro t4 t5)))
  clear hq t1 t2 t3 t4 t5
  obtain ⟨a0, a1, a2, a3, a4, a5, a6, a7, a8, a9⟩ := box10 T1.out.1
  go_upto_if 9 with fail
  clear a0 a1 a2 a3 a4 a5 a6 a7 a8 a9
  go_cut [0, 1, 7] from 8 to 43 (fun _ _ _ wx => J1 k s a b F L F2 L2 w wx)
  case first =>
    have HJ := Aside.mk (show JW k s a b F L F2 L2 w w1 from ⟨B1.out, T1.out.1, T1.out.2.1, T1.out.2.2.1⟩)
    have HZ1 := Aside.mk T1.out.2.2.2
    replace HT := Aside.mk (And.intro (HT.out.1.below B1.out) (And.intro (HT.out.2.1.below B1.out) (And.intro (HT.out.2.2.1.below B1.out) (HT.out.2.2.2.below B1.out))))
    clear B1 T1
    obtain ⟨a0, a1, a2, a3, a4, a5, a6, a7, a8, a9⟩ := box10 HJ.out.ab
    obtain ⟨z0, z1, z2, z3, z4, z5, z6, z7, z8, z9⟩ := box10 HZ1.out
    have zf := fun k => frozen_blk (k := k) HZ1.out
    have zl := lt_of_blk HZ1.out
    obtain ⟨ah, eah⟩ : ∃ x, a.has = x := ⟨_, rfl⟩
    have EAH := Aside.mk eah
    rw [eah] at a5
    simp only [eah]
    clear eah
    cases ah with
    | false =>
      go_wp2_with fail
      go_meet
      have em : (if a.has then a else b) = b := by rw [EAH.out]; rfl
      have em2 : (if a.has then F else F2) = F2 := by rw [EAH.out]; rfl
      have em3 : (if a.has then L else L2) = L2 := by rw [EAH.out]; rfl
      exact ⟨HJ.out, by rw [em, em2, em3]; exact HZ1.out, HT.out⟩
    | true =>
      go_wp2_with fail
      go_meet
      have em : (if a.has then a else b) = a := by rw [EAH.out]; rfl
      have em2 : (if a.has then F else F2) = F := by rw [EAH.out]; rfl
      have em3 : (if a.has then L else L2) = L := by rw [EAH.out]; rfl
      have K10 := (kept10 w1 (w.heap.size + 1 + 1 + 1) (.int .i64 k) (.int .i64 s) (.int .i64 (a.n : Int)) (.int .i64 (a.nulls : Int)) (.int .i64 (a.odd : Int)) (.bool true) (.int .u64 (a.least : Int)) (.int .u64 (a.most : Int)) (.slice F.a a.first.length F.c) (.slice L.a a.last.length L.c)).mono (T := fun k => k = w.heap.size + 1 + 1 + 1 ∨ w1.heap.size ≤ k) (fun k e _ => .inl e)
      exact ⟨HJ.out.move K10, by rw [em, em2, em3, EAH.out]; exact set10 HZ1.out (.int .i64 k) (.int .i64 s) (.int .i64 (a.n : Int)) (.int .i64 (a.nulls : Int)) (.int .i64 (a.odd : Int)) (.bool true) (.int .u64 (a.least : Int)) (.int .u64 (a.most : Int)) (.slice F.a a.first.length F.c) (.slice L.a a.last.length L.c), rd_keepZ HT.out.1 HZ1.out K10, rd_keepZ HT.out.2.1 HZ1.out K10, rd_keepZ HT.out.2.2.1 HZ1.out K10, rd_keepZ HT.out.2.2.2 HZ1.out K10⟩
  case rest =>
  clear B1 T1 HT w1
  have HC := Aside.mk hcut
  clear hcut
  go_upto_region 4 with fail
  go_cut [16] from 8 to 43 (fun s16 wx => s16 = .bool (a.has && b.has) ∧ J1 k s a b F L F2 L2 w wx)
  case first =>
    obtain ⟨a0, a1, a2, a3, a4, a5, a6, a7, a8, a9⟩ := box10 HC.out.jw.ab
    obtain ⟨b0, b1, b2, b3, b4, b5, b6, b7, b8, b9⟩ := box10 HC.out.jw.bb
    obtain ⟨ah, eah⟩ : ∃ x, a.has = x := ⟨_, rfl⟩
    obtain ⟨bh, ebh⟩ : ∃ x, b.has = x := ⟨_, rfl⟩
    have EAH := Aside.mk eah
    have EBH := Aside.mk ebh
    rw [eah] at a5
    rw [ebh] at b5
    clear eah ebh
    cases ah with
    | false =>
      go_wp2_with fail
      go_meet
      exact ⟨by rw [EAH.out]; rfl, HC.out⟩
    | true =>
      go_wp2_with fail
      go_meet
      exact ⟨by rw [EAH.out, EBH.out]; rfl, HC.out⟩
  case rest =>
  obtain ⟨rfl, hcut⟩ := hcut
  clear HC
  replace HC := Aside.mk hcut
  clear hcut
  generalize wc = w2 at *
  go_upto_if 16 with fail
  go_cut [6] from 8 to 43 (fun s6 wx => JMid k s a b F L F2 L2 w wx)
  case first =>
    have HJ := Aside.mk HC.out.jw
    have HZ := Aside.mk HC.out.zb
    have HT := Aside.mk HC.out.rd
    clear HC
    obtain ⟨a0, a1, a2, a3, a4, a5, a6, a7, a8, a9⟩ := box10 HJ.out.ab
    obtain ⟨b0, b1, b2, b3, b4, b5, b6, b7, b8, b9⟩ := box10 HJ.out.bb
    obtain ⟨ah, eah⟩ : ∃ x, a.has = x := ⟨_, rfl⟩
    obtain ⟨bh, ebh⟩ : ∃ x, b.has = x := ⟨_, rfl⟩
    have EAH := Aside.mk eah
    have EBH := Aside.mk ebh
    rw [eah] at a5
    rw [ebh] at b5
    simp only [eah, ebh]
    clear eah ebh
    cases ah with
    | false =>
      simp only [Bool.false_and]
      go_wp2_with fail
      go_meet
      have em : zMid k a b = b := by unfold zMid; rw [EAH.out]; rfl
      have hz := HZ.out
      simp only [EAH.out, Bool.false_eq_true, if_false] at hz
      exact ⟨HJ.out.bel, HJ.out.ab, HJ.out.bb, HJ.out.rb, F2, L2, _, _, _, by rw [em]; exact hz, fun W _ h => by rw [em]; exact h, fun W _ h => by rw [em]; exact h⟩
    | true =>
      have hz := HZ.out
      simp only [EAH.out, if_true] at hz
      have HZ2 := Aside.mk hz
      clear hz HZ
      simp only [Bool.true_and]
      cases bh with
      | false =>
        go_wp2_with fail
        go_meet
        have em : zMid k a b = a := by unfold zMid; rw [EAH.out, EBH.out]; rfl
        exact ⟨HJ.out.bel, HJ.out.ab, HJ.out.bb, HJ.out.rb, F, L, _, _, _, by rw [em, EAH.out]; exact HZ2.out, fun W h _ => by rw [em]; exact h, fun W h _ => by rw [em]; exact h⟩
      | true =>
        have HU1 := Aside.mk (fun W h0 h1 => firstU' k s a.least b.least false 1 rfl HKK.out (fun hw => ⟨(HZB.out EBH.out hw).1, (HZA.out EAH.out hw).1⟩) w.heap.size W h0 h1)
        have HU2 := Aside.mk (fun W h0 h1 => firstU' k s a.most b.most true (-1) rfl HKK.out (fun hw => ⟨(HZB.out EBH.out hw).2, (HZA.out EAH.out hw).2⟩) w.heap.size W h0 h1)
        have HT1 := Aside.mk (fun W h1 h2 => firstT' a.first b.first F F2 false 1 rfl W h1 h2)
        have HT2 := Aside.mk (fun W h1 h2 => firstT' a.last b.last L L2 true (-1) rfl W h1 h2)
        have HEM := Aside.mk (show zMid k a b = ⟨a.n, a.nulls, a.odd, true, if pickU false (ordI k b.least a.least) then b.least else a.least, if pickU true (ordI k b.most a.most) then b.most else a.most, if pickU false (cmpT b.first a.first) then b.first else a.first, if pickU true (cmpT b.last a.last) then b.last else a.last⟩ by unfold zMid; rw [EAH.out, EBH.out]; rfl)
        have HP3 := Aside.mk (show ∀ W, RdT W a.first F → RdT W b.first F2 → RdT W (if pickU false (cmpT b.first a.first) then b.first else a.first) (if pickU false (cmpT b.first a.first) then F2 else F) from fun W h1 h2 => by split; exact h2; exact h1)
        have HP4 := Aside.mk (show ∀ W, RdT W a.last L → RdT W b.last L2 → RdT W (if pickU true (cmpT b.last a.last) then b.last else a.last) (if pickU true (cmpT b.last a.last) then L2 else L) from fun W h1 h2 => by split; exact h2; exact h1)
        generalize (if pickU false (ordI k b.least a.least) then b.least else a.least) = p1 at *
        generalize (if pickU true (ordI k b.most a.most) then b.most else a.most) = p2 at *
        generalize (if pickU false (cmpT b.first a.first) then b.first else a.first) = p3 at *
        generalize (if pickU true (cmpT b.last a.last) then b.last else a.last) = p4 at *
        generalize (if pickU false (cmpT b.first a.first) then F2 else F) = F3 at *
        generalize (if pickU true (cmpT b.last a.last) then L2 else L) = L3 at *
        go_upto_region 7 with (go_at_call 158; refine (HU1.out _ a0 a1).mono ?_; rintro e w3 ⟨rfl, hb3⟩; replace HJ := Aside.mk (HJ.out.below hb3); replace HZ2 := Aside.mk ((hb3.block _ (lt_of_blk HZ2.out)).trans HZ2.out); replace HT := Aside.mk (And.intro (HT.out.1.below hb3) (And.intro (HT.out.2.1.below hb3) (And.intro (HT.out.2.2.1.below hb3) (HT.out.2.2.2.below hb3)))); clear hb3; clear a0 a1 a2 a3 a4 a5 a6 a7 a8 a9 b0 b1 b2 b3 b4 b5 b6 b7 b8 b9; obtain ⟨a0, a1, a2, a3, a4, a5, a6, a7, a8, a9⟩ := box10 HJ.out.ab; obtain ⟨b0, b1, b2, b3, b4, b5, b6, b7, b8, b9⟩ := box10 HJ.out.bb; rw [EAH.out] at a5; rw [EBH.out] at b5; obtain ⟨z0, z1, z2, z3, z4, z5, z6, z7, z8, z9⟩ := box10 HZ2.out; have zf := fun k => frozen_blk (k := k) HZ2.out; have zl := lt_of_blk HZ2.out)
        have K1 := (Kept.setCell w3 ⟨w.heap.size + 1 + 1 + 1, 6, none⟩ (.int .u64 (p1 : Int))).mono (T := fun k => k = w.heap.size + 1 + 1 + 1 ∨ w3.heap.size ≤ k) (fun k e _ => .inl e)
        replace HJ := Aside.mk (HJ.out.move K1)
        replace HT := Aside.mk (And.intro (rd_keepZ HT.out.1 HZ2.out K1) (And.intro (rd_keepZ HT.out.2.1 HZ2.out K1) (And.intro (rd_keepZ HT.out.2.2.1 HZ2.out K1) (rd_keepZ HT.out.2.2.2 HZ2.out K1))))
        replace HZ2 := Aside.mk (set10_6 HZ2.out (.int .u64 (p1 : Int)))
        clear K1 z0 z1 z2 z3 z4 z5 z6 z7 z8 z9 zf zl
        generalize w3.setCell ⟨w.heap.size + 1 + 1 + 1, 6, none⟩ (.int .u64 (p1 : Int)) = w4 at *
        clear a0 a1 a2 a3 a4 a5 a6 a7 a8 a9 b0 b1 b2 b3 b4 b5 b6 b7 b8 b9; obtain ⟨a0, a1, a2, a3, a4, a5, a6, a7, a8, a9⟩ := box10 HJ.out.ab; obtain ⟨b0, b1, b2, b3, b4, b5, b6, b7, b8, b9⟩ := box10 HJ.out.bb; rw [EAH.out] at a5; rw [EBH.out] at b5
        go_upto_region 8 with (go_at_call 158; refine (HU2.out _ a0 a1).mono ?_; rintro e w3 ⟨rfl, hb3⟩; replace HJ := Aside.mk (HJ.out.below hb3); replace HZ2 := Aside.mk ((hb3.block _ (lt_of_blk HZ2.out)).trans HZ2.out); replace HT := Aside.mk (And.intro (HT.out.1.below hb3) (And.intro (HT.out.2.1.below hb3) (And.intro (HT.out.2.2.1.below hb3) (HT.out.2.2.2.below hb3)))); clear hb3; clear a0 a1 a2 a3 a4 a5 a6 a7 a8 a9 b0 b1 b2 b3 b4 b5 b6 b7 b8 b9; obtain ⟨a0, a1, a2, a3, a4, a5, a6, a7, a8, a9⟩ := box10 HJ.out.ab; obtain ⟨b0, b1, b2, b3, b4, b5, b6, b7, b8, b9⟩ := box10 HJ.out.bb; rw [EAH.out] at a5; rw [EBH.out] at b5; obtain ⟨z0, z1, z2, z3, z4, z5, z6, z7, z8, z9⟩ := box10 HZ2.out; have zf := fun k => frozen_blk (k := k) HZ2.out; have zl := lt_of_blk HZ2.out)
        have K1 := (Kept.setCell w3 ⟨w.heap.size + 1 + 1 + 1, 7, none⟩ (.int .u64 (p2 : Int))).mono (T := fun k => k = w.heap.size + 1 + 1 + 1 ∨ w3.heap.size ≤ k) (fun k e _ => .inl e)
        replace HJ := Aside.mk (HJ.out.move K1)
        replace HT := Aside.mk (And.intro (rd_keepZ HT.out.1 HZ2.out K1) (And.intro (rd_keepZ HT.out.2.1 HZ2.out K1) (And.intro (rd_keepZ HT.out.2.2.1 HZ2.out K1) (rd_keepZ HT.out.2.2.2 HZ2.out K1))))
        replace HZ2 := Aside.mk (set10_7 HZ2.out (.int .u64 (p2 : Int)))
        clear K1 z0 z1 z2 z3 z4 z5 z6 z7 z8 z9 zf zl
        generalize w3.setCell ⟨w.heap.size + 1 + 1 + 1, 7, none⟩ (.int .u64 (p2 : Int)) = w5 at *
        clear a0 a1 a2 a3 a4 a5 a6 a7 a8 a9 b0 b1 b2 b3 b4 b5 b6 b7 b8 b9; obtain ⟨a0, a1, a2, a3, a4, a5, a6, a7, a8, a9⟩ := box10 HJ.out.ab; obtain ⟨b0, b1, b2, b3, b4, b5, b6, b7, b8, b9⟩ := box10 HJ.out.bb; rw [EAH.out] at a5; rw [EBH.out] at b5
        go_upto_region 9 with (go_at_call 159; refine (HT1.out _ HT.out.1 HT.out.2.2.1).mono ?_; rintro e w3 ⟨rfl, rfl⟩; obtain ⟨z0, z1, z2, z3, z4, z5, z6, z7, z8, z9⟩ := box10 HZ2.out; have zf := fun k => frozen_blk (k := k) HZ2.out; have zl := lt_of_blk HZ2.out)
        have K1 := (Kept.setCell w5 ⟨w.heap.size + 1 + 1 + 1, 8, none⟩ (.slice F3.a p3.length F3.c)).mono (T := fun k => k = w.heap.size + 1 + 1 + 1 ∨ w5.heap.size ≤ k) (fun k e _ => .inl e)
        replace HJ := Aside.mk (HJ.out.move K1)
        replace HT := Aside.mk (And.intro (rd_keepZ HT.out.1 HZ2.out K1) (And.intro (rd_keepZ HT.out.2.1 HZ2.out K1) (And.intro (rd_keepZ HT.out.2.2.1 HZ2.out K1) (rd_keepZ HT.out.2.2.2 HZ2.out K1))))
        replace HZ2 := Aside.mk (set10_8 HZ2.out (.slice F3.a p3.length F3.c))
        clear K1 z0 z1 z2 z3 z4 z5 z6 z7 z8 z9 zf zl
        generalize w5.setCell ⟨w.heap.size + 1 + 1 + 1, 8, none⟩ (.slice F3.a p3.length F3.c) = w6 at *
        clear a0 a1 a2 a3 a4 a5 a6 a7 a8 a9 b0 b1 b2 b3 b4 b5 b6 b7 b8 b9; obtain ⟨a0, a1, a2, a3, a4, a5, a6, a7, a8, a9⟩ := box10 HJ.out.ab; obtain ⟨b0, b1, b2, b3, b4, b5, b6, b7, b8, b9⟩ := box10 HJ.out.bb; rw [EAH.out] at a5; rw [EBH.out] at b5
        go_wp2_with (go_at_call 159; refine (HT2.out _ HT.out.2.1 HT.out.2.2.2).mono ?_; rintro e w3 ⟨rfl, rfl⟩; obtain ⟨z0, z1, z2, z3, z4, z5, z6, z7, z8, z9⟩ := box10 HZ2.out; have zf := fun k => frozen_blk (k := k) HZ2.out; have zl := lt_of_blk HZ2.out)
        have K1 := (Kept.setCell w6 ⟨w.heap.size + 1 + 1 + 1, 9, none⟩ (.slice L3.a p4.length L3.c)).mono (T := fun k => k = w.heap.size + 1 + 1 + 1 ∨ w6.heap.size ≤ k) (fun k e _ => .inl e)
        go_meet
        have HJ' := HJ.out.move K1
        refine ⟨HJ'.bel, HJ'.ab, HJ'.bb, HJ'.rb, F3, L3, (a.n : Int), (a.nulls : Int), (a.odd : Int), ?_, fun W h1 h2 => by rw [HEM.out]; exact HP3.out W h1 h2, fun W h1 h2 => by rw [HEM.out]; exact HP4.out W h1 h2⟩
        rw [HEM.out]
        dsimp only
        exact set10_9 HZ2.out (.slice L3.a p4.length L3.c)
  case rest =>
    generalize wc = wx at *
    have hmid := hcut
    clear HC hcut
    obtain ⟨q1, q2, q3, q4, F', L', n, nl, od, q5, q6, q7⟩ := hmid
    obtain ⟨a0, a1, a2, a3, a4, a5, a6, a7, a8, a9⟩ := box10 q2
    obtain ⟨b0, b1, b2, b3, b4, b5, b6, b7, b8, b9⟩ := box10 q3
    obtain ⟨r0, r1, r2, r3, r4, r5, r6, r7, r8, r9⟩ := box10 q4
    obtain ⟨z0, z1, z2, z3, z4, z5, z6, z7, z8, z9⟩ := box10 q5
    have rf := fun k => frozen_blk (k := k) q4
    have zf := fun k => frozen_blk (k := k) q5
    have zl := lt_of_blk q5
    have rl := lt_of_blk q4
    have hw1 : IntKind.i64.wrap ((a.n : Int) + (b.n : Int)) = ((a.n + b.n : Nat) : Int) := (IntWalk.i64_left _).trans ((IntWalk.wrap64_in _ (by have := HSZ.out; omega)).trans (by omega))
    have hw2 : IntKind.i64.wrap ((a.nulls : Int) + (b.nulls : Int)) = ((a.nulls + b.nulls : Nat) : Int) := (IntWalk.i64_left _).trans ((IntWalk.wrap64_in _ (by have := HSZ.out; omega)).trans (by omega))
    have hw3 : IntKind.i64.wrap ((a.odd : Int) + (b.odd : Int)) = ((a.odd + b.odd : Nat) : Int) := (IntWalk.i64_left _).trans ((IntWalk.wrap64_in _ (by have := HSZ.out; omega)).trans (by omega))
    have QQ := Aside.mk (And.intro q1 (And.intro q2 (And.intro q3 (And.intro q4 (And.intro q5 (And.intro q6 q7))))))
    clear q1 q2 q3 q4 q5 q6 q7
    go_upto_region 10 with fail
    refine wp_regionE (fun W : World => W.cell? ⟨w.heap.size, 2, none⟩ = some (.int .i64 (a.n : Int)) ∧ W.cell? ⟨w.heap.size, 3, none⟩ = some (.int .i64 (a.nulls : Int)) ∧ W.cell? ⟨w.heap.size, 4, none⟩ = some (.int .i64 (a.odd : Int)) ∧ W.cell? ⟨w.heap.size + 1, 2, none⟩ = some (.int .i64 (b.n : Int)) ∧ W.cell? ⟨w.heap.size + 1, 3, none⟩ = some (.int .i64 (b.nulls : Int)) ∧ W.cell? ⟨w.heap.size + 1, 4, none⟩ = some (.int .i64 (b.odd : Int))) 20 21 (by kernel_rfl) rfl ?_
    have hS : (fun W : World => W.cell? ⟨w.heap.size, 2, none⟩ = some (.int .i64 (a.n : Int)) ∧ W.cell? ⟨w.heap.size, 3, none⟩ = some (.int .i64 (a.nulls : Int)) ∧ W.cell? ⟨w.heap.size, 4, none⟩ = some (.int .i64 (a.odd : Int)) ∧ W.cell? ⟨w.heap.size + 1, 2, none⟩ = some (.int .i64 (b.n : Int)) ∧ W.cell? ⟨w.heap.size + 1, 3, none⟩ = some (.int .i64 (b.nulls : Int)) ∧ W.cell? ⟨w.heap.size + 1, 4, none⟩ = some (.int .i64 (b.odd : Int))) wx.drew := ⟨a2, a3, a4, b2, b3, b4⟩
    refine wpE_take (k := 0) (o := ⟨some 44, _, _, _, _, _⟩) (v := ?_) rfl (by kernel_rfl) (by kernel_rfl) (by kernel_rfl) (by kernel_rfl) (fun _ _ _ h => h) (Or.inl ⟨by rfl, ?_⟩) (by assumption) ?_
    rotate_left
    · (intro w hSw; (try dsimp only at hSw); go_simp; (try with_reducible rfl))
    (try simp only [Act.put, List.setIfInBounds_toArray, List.set_cons_zero, List.set_cons_succ])
    refine wpE_take (k := 1) (o := ⟨some 45, _, _, _, _, _⟩) (v := ?_) rfl (by kernel_rfl) (by kernel_rfl) (by kernel_rfl) (by kernel_rfl) (fun _ _ _ h => h) (Or.inl ⟨by rfl, ?_⟩) (by assumption) ?_
    rotate_left
    · (intro w hSw; (try dsimp only at hSw); go_simp; (try with_reducible rfl))
    (try simp only [Act.put, List.setIfInBounds_toArray, List.set_cons_zero, List.set_cons_succ])
    refine wpE_take (k := 2) (o := ⟨some 46, _, _, _, _, _⟩) (v := ?_) rfl (by kernel_rfl) (by kernel_rfl) (by kernel_rfl) (by kernel_rfl) (fun _ _ _ h => h) (Or.inl ⟨by rfl, ?_⟩) (by assumption) ?_
    rotate_left
    · (intro w hSw; (try dsimp only at hSw); go_simp; (try with_reducible rfl))
    (try simp only [Act.put, List.setIfInBounds_toArray, List.set_cons_zero, List.set_cons_succ])
    refine wpE_take (k := 3) (o := ⟨some 47, _, _, _, _, _⟩) (v := ?_) rfl (by kernel_rfl) (by kernel_rfl) (by kernel_rfl) (by kernel_rfl) (fun _ _ _ h => h) (Or.inl ⟨by rfl, ?_⟩) (by assumption) ?_
    rotate_left
    · (intro w hSw; (try dsimp only at hSw); go_simp; (try with_reducible rfl))
    (try simp only [Act.put, List.setIfInBounds_toArray, List.set_cons_zero, List.set_cons_succ])
    refine wpE_take (k := 4) (o := ⟨some 48, _, _, _, _, _⟩) (v := ?_) rfl (by kernel_rfl) (by kernel_rfl) (by kernel_rfl) (by kernel_rfl) (fun _ _ _ h => h) (Or.inl ⟨by rfl, ?_⟩) (by assumption) ?_
    rotate_left
    · (intro w hSw; (try dsimp only at hSw); go_simp; (try with_reducible rfl))
    (try simp only [Act.put, List.setIfInBounds_toArray, List.set_cons_zero, List.set_cons_succ])
    refine wpE_take (k := 5) (o := ⟨some 49, _, _, _, _, _⟩) (v := ?_) rfl (by kernel_rfl) (by kernel_rfl) (by kernel_rfl) (by kernel_rfl) (fun _ _ _ h => h) (Or.inl ⟨by rfl, ?_⟩) (by assumption) ?_
    rotate_left
    · (intro w hSw; (try dsimp only at hSw); go_simp; (try with_reducible rfl))
    (try simp only [Act.put, List.setIfInBounds_toArray, List.set_cons_zero, List.set_cons_succ])
    refine wpE_take (k := 6) (o := ⟨some 50, _, _, _, _, _⟩) (v := ?_) rfl (by kernel_rfl) (by kernel_rfl) (by kernel_rfl) (by kernel_rfl) (fun _ _ _ h => h) (Or.inl ⟨by rfl, ?_⟩) (by assumption) ?_
    rotate_left
    · (intro w hSw; (try dsimp only at hSw); go_simp; (try with_reducible rfl))
    (try simp only [Act.put, List.setIfInBounds_toArray, List.set_cons_zero, List.set_cons_succ])
    refine wpE_take (k := 7) (o := ⟨some 51, _, _, _, _, _⟩) (v := ?_) rfl (by kernel_rfl) (by kernel_rfl) (by kernel_rfl) (by kernel_rfl) (fun _ _ _ h => h) (Or.inl ⟨by rfl, ?_⟩) (by assumption) ?_
    rotate_left
    · (intro w hSw; (try dsimp only at hSw); go_simp; (try with_reducible rfl))
    (try simp only [Act.put, List.setIfInBounds_toArray, List.set_cons_zero, List.set_cons_succ])
    refine wpE_take (k := 8) (o := ⟨some 52, _, _, _, _, _⟩) (v := ?_) rfl (by kernel_rfl) (by kernel_rfl) (by kernel_rfl) (by kernel_rfl) (fun _ _ _ h => h) (Or.inl ⟨by rfl, ?_⟩) (by assumption) ?_
    rotate_left
    · (intro w hSw; (try dsimp only at hSw); go_simp; (try with_reducible rfl))
    (try simp only [Act.put, List.setIfInBounds_toArray, List.set_cons_zero, List.set_cons_succ])
    refine wpE_take (k := 9) (o := ⟨some 53, _, _, _, _, _⟩) (v := ?_) rfl (by kernel_rfl) (by kernel_rfl) (by kernel_rfl) (by kernel_rfl) (fun _ _ _ h => h) (Or.inl ⟨by rfl, ?_⟩) (by assumption) ?_
    rotate_left
    · (intro w hSw; (try dsimp only at hSw); go_simp; (try with_reducible rfl))
    (try simp only [Act.put, List.setIfInBounds_toArray, List.set_cons_zero, List.set_cons_succ])
    refine wpE_take (k := 10) (o := ⟨some 54, _, _, _, _, _⟩) (v := ?_) rfl (by kernel_rfl) (by kernel_rfl) (by kernel_rfl) (by kernel_rfl) (fun _ _ _ h => h) (Or.inl ⟨by rfl, ?_⟩) (by assumption) ?_
    rotate_left
    · (intro w hSw; (try dsimp only at hSw); go_simp; (try with_reducible rfl))
    (try simp only [Act.put, List.setIfInBounds_toArray, List.set_cons_zero, List.set_cons_succ])
    refine wpE_take (k := 11) (o := ⟨some 55, _, _, _, _, _⟩) (v := ?_) rfl (by kernel_rfl) (by kernel_rfl) (by kernel_rfl) (by kernel_rfl) (fun _ _ _ h => h) (Or.inl ⟨by rfl, ?_⟩) (by assumption) ?_
    rotate_left
    · (intro w hSw; (try dsimp only at hSw); go_simp; (try with_reducible rfl))
    (try simp only [Act.put, List.setIfInBounds_toArray, List.set_cons_zero, List.set_cons_succ])
    refine wpE_take (k := 12) (o := ⟨some 56, _, _, _, _, _⟩) (v := ?_) rfl (by kernel_rfl) (by kernel_rfl) (by kernel_rfl) (by kernel_rfl) (fun _ _ _ h => h) (Or.inl ⟨by rfl, ?_⟩) (by assumption) ?_
    rotate_left
    · (intro w hSw; (try dsimp only at hSw); go_simp; (try with_reducible rfl))
    (try simp only [Act.put, List.setIfInBounds_toArray, List.set_cons_zero, List.set_cons_succ])
    refine wpE_take (k := 13) (o := ⟨some 57, _, _, _, _, _⟩) (v := ?_) rfl (by kernel_rfl) (by kernel_rfl) (by kernel_rfl) (by kernel_rfl) (fun _ _ _ h => h) (Or.inl ⟨by rfl, ?_⟩) (by assumption) ?_
    rotate_left
    · (intro w hSw; (try dsimp only at hSw); go_simp; (try with_reducible rfl))
    (try simp only [Act.put, List.setIfInBounds_toArray, List.set_cons_zero, List.set_cons_succ])
    refine wpE_take (k := 14) (o := ⟨some 58, _, _, _, _, _⟩) (v := ?_) rfl (by kernel_rfl) (by kernel_rfl) (by kernel_rfl) (by kernel_rfl) (fun _ _ _ h => h) (Or.inl ⟨by rfl, ?_⟩) (by assumption) ?_
    rotate_left
    · (intro w hSw; (try dsimp only at hSw); go_simp; (try with_reducible rfl))
    (try simp only [Act.put, List.setIfInBounds_toArray, List.set_cons_zero, List.set_cons_succ])
    refine wpE_take (k := 15) (o := ⟨some 59, _, _, _, _, _⟩) (v := ?_) rfl (by kernel_rfl) (by kernel_rfl) (by kernel_rfl) (by kernel_rfl) (fun _ _ _ h => h) (Or.inl ⟨by rfl, ?_⟩) (by assumption) ?_
    rotate_left
    · (intro w hSw; (try dsimp only at hSw); go_simp; (try with_reducible rfl))
    (try simp only [Act.put, List.setIfInBounds_toArray, List.set_cons_zero, List.set_cons_succ])
    refine wpE_one (k := 16) (o := ⟨none, _, _, _, _, _⟩) rfl (by kernel_rfl) (fun K hK => ?_)
    go_simp
    refine hK.out _ _ (⟨(Kept.setCell _ _ _).cell hS.1 (by dsimp only; omega), (Kept.setCell _ _ _).cell hS.2.1 (by dsimp only; omega), (Kept.setCell _ _ _).cell hS.2.2.1 (by dsimp only; omega), (Kept.setCell _ _ _).cell hS.2.2.2.1 (by dsimp only; omega), (Kept.setCell _ _ _).cell hS.2.2.2.2.1 (by dsimp only; omega), (Kept.setCell _ _ _).cell hS.2.2.2.2.2 (by dsimp only; omega)⟩) (fun hS => ?_)
    clear hK K
    try simp only [Act.put, List.setIfInBounds_toArray, List.set_cons_zero, List.set_cons_succ]
    refine wpE_take (k := 17) (o := ⟨some 60, _, _, _, _, _⟩) (v := ?_) rfl (by kernel_rfl) (by kernel_rfl) (by kernel_rfl) (by kernel_rfl) (fun _ _ _ h => h) (Or.inl ⟨by rfl, ?_⟩) (by assumption) ?_
    rotate_left
    · (intro w hSw; (try dsimp only at hSw); go_simp; (try with_reducible rfl))
    (try simp only [Act.put, List.setIfInBounds_toArray, List.set_cons_zero, List.set_cons_succ])
    refine wpE_one (k := 18) (o := ⟨none, _, _, _, _, _⟩) rfl (by kernel_rfl) (fun K hK => ?_)
    go_simp
    refine hK.out _ _ (⟨(Kept.setCell _ _ _).cell hS.1 (by dsimp only; omega), (Kept.setCell _ _ _).cell hS.2.1 (by dsimp only; omega), (Kept.setCell _ _ _).cell hS.2.2.1 (by dsimp only; omega), (Kept.setCell _ _ _).cell hS.2.2.2.1 (by dsimp only; omega), (Kept.setCell _ _ _).cell hS.2.2.2.2.1 (by dsimp only; omega), (Kept.setCell _ _ _).cell hS.2.2.2.2.2 (by dsimp only; omega)⟩) (fun hS => ?_)
    clear hK K
    try simp only [Act.put, List.setIfInBounds_toArray, List.set_cons_zero, List.set_cons_succ]
    refine wpE_take (k := 19) (o := ⟨some 61, _, _, _, _, _⟩) (v := ?_) rfl (by kernel_rfl) (by kernel_rfl) (by kernel_rfl) (by kernel_rfl) (fun _ _ _ h => h) (Or.inl ⟨by rfl, ?_⟩) (by assumption) ?_
    rotate_left
    · (intro w hSw; (try dsimp only at hSw); go_simp; (try with_reducible rfl))
    (try simp only [Act.put, List.setIfInBounds_toArray, List.set_cons_zero, List.set_cons_succ])
    refine wpE_last (k := 20) (o := ⟨none, _, _, _, _, _⟩) rfl (by kernel_rfl) (by kernel_rfl) rfl (fun K hK => ?_)
    go_simp
    refine hK.out _ _ ?_
    clear hK K
    clear hS a0 a1 a2 a3 a4 a5 a6 a7 a8 a9 b0 b1 b2 b3 b4 b5 b6 b7 b8 b9 r0 r1 r2 r3 r4 r5 r6 r7 r8 r9 z0 z1 z2 z3 z4 z5 z6 z7 z8 z9 rf zf zl rl
    obtain ⟨q1, q2, q3, q4, q5, q6, q7⟩ := QQ.out
    clear QQ
    have K3 := kept3z wx (w.heap.size + 1 + 1 + 1) (.int .i64 ((a.n : Int) + (b.n : Int))) (.int .i64 ((a.nulls : Int) + (b.nulls : Int))) (.int .i64 ((a.odd : Int) + (b.odd : Int)))
    have B3 := q1.trans (K3.to_below q1.size (fun k e => by omega))
    have hr := (K3.block _ (lt_of_blk q4) (fun e => by omega)).trans q4
    have hz := set10_234 q5 (.int .i64 ((a.n : Int) + (b.n : Int))) (.int .i64 ((a.nulls : Int) + (b.nulls : Int))) (.int .i64 ((a.odd : Int) + (b.odd : Int)))
    generalize ((wx.setCell ⟨w.heap.size + 1 + 1 + 1, 2, none⟩ (.int .i64 ((a.n : Int) + (b.n : Int)))).setCell ⟨w.heap.size + 1 + 1 + 1, 3, none⟩ (.int .i64 ((a.nulls : Int) + (b.nulls : Int)))).setCell ⟨w.heap.size + 1 + 1 + 1, 4, none⟩ (.int .i64 ((a.odd : Int) + (b.odd : Int))) = wy at *
    clear K3 q1 q2 q3 q4 q5
    have HB3 := Aside.mk B3
    have HQ6 := Aside.mk (And.intro q6 q7)
    obtain ⟨r0, r1, r2, r3, r4, r5, r6, r7, r8, r9⟩ := box10 hr
    obtain ⟨z0, z1, z2, z3, z4, z5, z6, z7, z8, z9⟩ := box10 hz
    have rf := fun k => frozen_blk (k := k) hr
    have zf := fun k => frozen_blk (k := k) hz
    have zl := lt_of_blk hz
    have rl := lt_of_blk hr
    clear hr hz B3 q6 q7
    go_wp2_with fail
    refine bodyPost_ret (v := .agg #[.int .i64 k, .int .i64 s, .int .i64 ((a.n : Int) + (b.n : Int)), .int .i64 ((a.nulls : Int) + (b.nulls : Int)), .int .i64 ((a.odd : Int) + (b.odd : Int)), .bool (zMid k a b).has, .int .u64 ((zMid k a b).least : Int), .int .u64 ((zMid k a b).most : Int), .slice F'.a (zMid k a b).first.length F'.c, .slice L'.a (zMid k a b).last.length L'.c]) (by simp [results, Tryz.results101, go_sem, r0, r1, r2, r3, r4, r5, r6, r7, r8, r9]) rfl ?_
    have K10 := kept10 wy (w.heap.size + 1 + 1) (.int .i64 k) (.int .i64 s) (.int .i64 ((a.n : Int) + (b.n : Int))) (.int .i64 ((a.nulls : Int) + (b.nulls : Int))) (.int .i64 ((a.odd : Int) + (b.odd : Int))) (.bool (zMid k a b).has) (.int .u64 ((zMid k a b).least : Int)) (.int .u64 ((zMid k a b).most : Int)) (.slice F'.a (zMid k a b).first.length F'.c) (.slice L'.a (zMid k a b).last.length L'.c)
    have hb10 := HB3.out.trans (K10.to_below HB3.out.size (fun k e => by omega))
    clear K10
    refine ⟨F', L', ?_, HQ6.out.1, HQ6.out.2, ?_⟩
    rotate_left
    · exact hb10.trans (below_drewN _ _ 1)
    clear hb10
    unfold zJoin
    dsimp only
    simp only [Int.natCast_add]
end Go.Proofs.YtmhjjhaipcgbiaaGreat


namespace Go.Proofs.YtmhjjhaipcgbiaaGreat
open Go.RowKit
set_option linter.unusedVariables false
set_option linter.unusedSimpArgs false
def zOne (k : Int) (v : V) : Zn := if v.null then ⟨1, 1, 0, false, 0, 0, [], []⟩ else if oddB k v.bits then ⟨1, 0, 1, false, 0, 0, [], []⟩ else ⟨1, 0, 0, true, v.bits, v.bits, v.text, v.text⟩
def ZE (z : Zn) : Prop := z.has = false → z.least = 0 ∧ z.most = 0 ∧ z.first = [] ∧ z.last = []
def Zn.withN (z : Zn) (m : Nat) : Zn := ⟨m, z.nulls, z.odd, z.has, z.least, z.most, z.first, z.last⟩
theorem zStep_n (k : Int) (m : Nat) (z : Zn) (v : V) : zStep k (z.withN m) v = (zStep k z v).withN m := by
  unfold zStep Zn.withN
  split
  · rfl
  · split
    · rfl
    · rfl
theorem zFold_n (k : Int) (m n : Nat) (l : List V) : zFold k m l = (zFold k n l).withN m := by
  induction l using snoc_ind with
  | h0 => rfl
  | h1 l v ih => rw [zFold_snoc, zFold_snoc, ih, zStep_n]
theorem ze_step {k : Int} {z : Zn} (v : V) (h : ZE z) : ZE (zStep k z v) := by
  unfold zStep
  split
  · exact h
  · split
    · exact h
    · exact fun e => by cases (show true = false from e)
theorem ze_fold (k : Int) (n : Nat) (l : List V) : ZE (zFold k n l) := by
  induction l using snoc_ind with
  | h0 => exact fun _ => ⟨rfl, rfl, rfl, rfl⟩
  | h1 l v ih => rw [zFold_snoc]; exact ze_step v ih
theorem zn_ext {a b : Zn} (h1 : a.n = b.n) (h2 : a.nulls = b.nulls) (h3 : a.odd = b.odd) (h4 : a.has = b.has) (h5 : a.least = b.least) (h6 : a.most = b.most) (h7 : a.first = b.first) (h8 : a.last = b.last) : a = b := by
  cases a; cases b; simp_all
theorem join_step (k : Int) (z : Zn) (v : V) (hz : ZOK k z) (he : ZE z) (hv : v.null = false → oddB k v.bits = false → PlainV k v) : zJoin k z (zOne k v) = (zStep k z v).withN (z.n + 1) := by
  unfold zOne zStep
  cases hn : v.null with
  | true =>
    simp only [if_true]
    cases hh : z.has with
    | true => unfold zJoin zMid Zn.withN; simp [hh]
    | false => obtain ⟨h1, h2, h3, h4⟩ := he hh; unfold zJoin zMid Zn.withN; simp [hh, h1, h2, h3, h4]
  | false =>
    simp only [Bool.false_eq_true, if_false]
    cases ho : oddB k v.bits with
    | true =>
      simp only [if_true]
      cases hh : z.has with
      | true => unfold zJoin zMid Zn.withN; simp [hh]
      | false => obtain ⟨h1, h2, h3, h4⟩ := he hh; unfold zJoin zMid Zn.withN; simp [hh, h1, h2, h3, h4]
    | false =>
      simp only [Bool.false_eq_true, if_false]
      have pv := hv hn ho
      cases hh : z.has with
      | false =>
        have hlo : zLo k z v = true := by unfold zLo; rw [hh]; rfl
        have hhi : zHi k z v = true := by unfold zHi; rw [hh]; rfl
        unfold zJoin zMid zWith Zn.withN; simp [hh, hlo, hhi]
      | true =>
        obtain ⟨p1, p2⟩ := hz hh
        have hlo : zLo k z v = decide (cmpV k v (zLow z) < 0) := by unfold zLo; rw [hh]; rfl
        have hhi : zHi k z v = decide (0 < cmpV k v (zHigh z)) := by unfold zHi; rw [hh]; rfl
        cases hw : wordedB k with
        | false =>
          have e1 : ordI k v.bits z.least = cmpV k v (zLow z) := by unfold ordI cmpV; rw [hw]; rfl
          have e2 : ordI k v.bits z.most = cmpV k v (zHigh z) := by unfold ordI cmpV; rw [hw]; rfl
          have t1 : z.first = [] := (p1.bits hw).2
          have t2 : z.last = [] := (p2.bits hw).2
          have t3 : v.text = [] := (pv.bits hw).2
          unfold zJoin zMid zWith Zn.withN
          simp only [hh, if_true]
          refine zn_ext rfl rfl rfl rfl ?_ ?_ ?_ ?_
          · dsimp only; rw [e1, hlo]; rfl
          · dsimp only; rw [e2, hhi]; rfl
          · dsimp only; rw [t1, t3]; simp
          · dsimp only; rw [t2, t3]; simp
        | true =>
          have e1 : cmpT v.text z.first = cmpV k v (zLow z) := by unfold cmpV; rw [hw]; rfl
          have e2 : cmpT v.text z.last = cmpV k v (zHigh z) := by unfold cmpV; rw [hw]; rfl
          have t1 : z.least = 0 := (p1.text hw).1
          have t2 : z.most = 0 := (p2.text hw).1
          have t3 : v.bits = 0 := (pv.text hw).1
          unfold zJoin zMid zWith Zn.withN
          simp only [hh, if_true]
          refine zn_ext rfl rfl rfl rfl ?_ ?_ ?_ ?_
          · dsimp only; rw [t1, t3]; simp
          · dsimp only; rw [t2, t3]; simp
          · dsimp only; rw [e1, hlo]; rfl
          · dsimp only; rw [e2, hhi]; rfl
def zAt (c : Col) (i : Nat) : Zn := zFold c.k i (valsC c i)
def Mod19 (c : Col) : Prop := (c.m = c.n → c.n ≤ 20000) ∧ ∀ i : Nat, (i : Int) < c.n → (valC c i).text.length ≤ 4900
theorem Small18.mod {c : Col} (hs : Small18 c) : Mod19 c := ⟨hs.1, fun i _ => valC_small18 hs i⟩
structure ZGood (c : Col) (i : Nat) : Prop where
  ok : ZOK c.k (zAt c i)
  n : (zAt c i).n = i
  nulls : (zAt c i).nulls ≤ i
  odd : (zAt c i).odd ≤ i
  few : (zAt c i).first.length ≤ 100000000 ∧ (zAt c i).last.length ≤ 100000000
theorem zAt_good {c : Col} (hs : Mod19 c) {N i : Nat} (hN : c.n = (N : Int)) (hi : i ≤ N) (hvo : ∀ v ∈ valsC c N, vOK c.k c.s v) : ZGood c i := by
  have hsub : ∀ v ∈ valsC c i, vOK c.k c.s v ∧ v.text.length ≤ 100000000 := fun v hv => by
    obtain ⟨j, hj, rfl⟩ := List.mem_map.1 hv
    exact ⟨hvo _ (List.mem_map.2 ⟨j, List.mem_range.2 (by have := List.mem_range.1 hj; omega), rfl⟩), Nat.le_trans (hs.2 j (by rw [hN]; have := List.mem_range.1 hj; omega)) (by decide)⟩
  have h := zinv (k := c.k) (s := c.s) (n := i) (valsC c i) hsub
  have hl : (valsC c i).length = i := valsC_len2 _ _
  exact ⟨h.ok, h.nn, by have := h.nulls; rw [hl] at this; exact this, by have := h.odd; rw [hl] at this; exact this, h.few⟩
theorem zAt_step {c : Col} (hs : Mod19 c) {N i : Nat} (hN : c.n = (N : Int)) (hi : i < N) (hvo : ∀ v ∈ valsC c N, vOK c.k c.s v) : zJoin c.k (zAt c i) (zOne c.k (valC c i)) = zAt c (i + 1) := by
  have hg := zAt_good hs hN (Nat.le_of_lt hi) hvo
  rw [join_step c.k _ _ hg.ok (ze_fold _ _ _) (fun hn ho => plain_of (hvo _ (List.mem_map.2 ⟨i, List.mem_range.2 hi, rfl⟩)) hn ho), hg.n]
  unfold zAt
  rw [valsC_snoc, zFold_snoc, zFold_n c.k (i + 1) i (valsC c i), zStep_n]
end Go.Proofs.YtmhjjhaipcgbiaaGreat


namespace Go.Proofs.YtmhjjhaipcgbiaaGreat
open Go.RowKit Go.Shelf
set_option linter.unusedVariables false
set_option linter.unusedSimpArgs false
set_option maxRecDepth 100000
set_option maxHeartbeats 4000000
attribute [local go_sem] Oper.semAt_some
def StayM (n zb : Nat) (t : List Int) (A : SL) (W : World) : Prop := ∀ W', Kept (fun k => (k = n ∨ k = n + 1) ∨ k = zb ∨ W.heap.size ≤ k) W W' → RdT W' t A
theorem StayM.step {n zb : Nat} {t : List Int} {A : SL} {W W2 : World} (h : StayM n zb t A W) (hk : Kept (fun k => (k = n ∨ k = n + 1) ∨ k = zb ∨ W.heap.size ≤ k) W W2) : StayM n zb t A W2 := fun W' h2 => h W' (hk.trans h2 (fun k e hl => by have := hk.size; rcases e with e | e | e; exact .inl e; exact .inr (.inl e); omega))
theorem StayM.now {n zb : Nat} {t : List Int} {A : SL} {W : World} (h : StayM n zb t A W) : RdT W t A := h W (Kept.refl _ _)
theorem StayM.nil (n zb : Nat) (W : World) : StayM n zb [] ⟨none, 0⟩ W := fun W' _ => Rd.nil _ _
theorem StayM.new {W : World} {n zb : Nat} {t : List Int} {A : SL} (h : RdT W t A) (hm : Marks n W) {a0 a1 a2 a3 a4 a6 a7 : Int} {b5 : Bool} {A8 A9 : Option Addr} {n8 c8 n9 c9 : Nat} {T : TypeId} (hz : W.heap[zb]? = some (.cells #[.int .i64 a0, .int .i64 a1, .int .i64 a2, .int .i64 a3, .int .i64 a4, .bool b5, .int .u64 a6, .int .u64 a7, .slice A8 n8 c8, .slice A9 n9 c9] T (0, 0))) : StayM n zb t A W := fun W' hk => by
  obtain ⟨hl, a, cap, e, h1, h2, h3, h4⟩ := h
  refine ⟨hl, a, cap, e, h1, h2, h3, fun j u hu => ?_⟩
  obtain ⟨b, off, rfl, hc⟩ := h4 j u hu
  refine ⟨b, off, rfl, hk.cell hc ?_⟩
  obtain ⟨⟨o, ho⟩, r, hr⟩ := hm
  rintro ((e2 | e2) | e2 | e2)
  · simp only at e2
    rw [e2] at hc
    simp [World.cell?, ho] at hc
  · simp only at e2
    rw [e2] at hc
    simp [World.cell?, hr] at hc
  · dsimp only at e2
    subst e2
    rw [cell_blk hz] at hc
    have hu8 : ∃ x, u = .int .u8 x := by
      rw [List.getElem?_map] at hu
      cases hq : t[j]? with
      | none => rw [hq] at hu; cases hu
      | some y => rw [hq] at hu; exact ⟨y, (Option.some.inj hu).symm⟩
    obtain ⟨x, rfl⟩ := hu8
    have hlt := (Array.getElem?_eq_some_iff.1 hc).1
    generalize off + j = o at *
    simp only [List.size_toArray, List.length_cons, List.length_nil] at hlt
    obtain rfl | rfl | rfl | rfl | rfl | rfl | rfl | rfl | rfl | rfl : o = 0 ∨ o = 1 ∨ o = 2 ∨ o = 3 ∨ o = 4 ∨ o = 5 ∨ o = 6 ∨ o = 7 ∨ o = 8 ∨ o = 9 := by omega
    all_goals (simp at hc)
  · have := World.block_lt_of_cell? _ _ hc
    dsimp only at e2 this
    omega
structure ZofI (c : Col) (B D E X : SL) (vals : List Value) (w : World) (n cb rb zb Bs : Nat) (i : Nat) (W : World) : Prop where
  bel : Below w.heap.size w W
  cb : W.heap[cb]? = some (.cells #[.int .i64 c.k, .int .i64 c.s, .int .i64 c.n, .int .i64 c.m, .slice B.a c.bits.length B.c, .slice D.a c.data.length D.c, .slice E.a c.ends.length E.c, .slice X.a c.words.length X.c] 63 (0, 0))
  rb : W.heap[rb]? = some (.cells #[.int .i64 0, .int .i64 0, .int .i64 0, .int .i64 0, .int .i64 0, .bool false, .int .u64 0, .int .u64 0, .slice none 0 0, .slice none 0 0] 79 (0, 0))
  bx : W.heap[Bs]? = some (.cells #[.int .i64 c.k, .int .i64 c.s, .int .i64 c.n, .int .i64 c.m, .slice B.a c.bits.length B.c, .slice D.a c.data.length D.c, .slice E.a c.ends.length E.c, .slice X.a c.words.length X.c] 63 (0, 0))
  zb : ∃ F L : SL, W.heap[zb]? = some (.cells #[.int .i64 c.k, .int .i64 c.s, .int .i64 ((zAt c i).n : Int), .int .i64 ((zAt c i).nulls : Int), .int .i64 ((zAt c i).odd : Int), .bool (zAt c i).has, .int .u64 ((zAt c i).least : Int), .int .u64 ((zAt c i).most : Int), .slice F.a (zAt c i).first.length F.c, .slice L.a (zAt c i).last.length L.c] 79 (0, 0)) ∧ StayM n zb (zAt c i).first F W ∧ StayM n zb (zAt c i).last L W
theorem ZofI.moved {c : Col} {B D E X : SL} {vals : List Value} {w : World} {n cb rb zb Bs i : Nat} {A A' : World} (h : ZofI c B D E X vals w n cb rb zb Bs i A) (hn : w.heap.size ≤ n ∧ w.heap.size ≤ zb ∧ w.heap.size ≤ A.heap.size) (h1 : cb < n ∧ rb < n ∧ zb < n ∧ Bs < n)
    (hk : Kept (fun k => (k = n ∨ k = n + 1) ∨ A.heap.size ≤ k) A A') : ZofI c B D E X vals w n cb rb zb Bs i A' := by
  obtain ⟨F, L, z1, z2, z3⟩ := h.zb
  have hk2 : Kept (fun k => (k = n ∨ k = n + 1) ∨ k = zb ∨ A.heap.size ≤ k) A A' := hk.mono (fun k e _ => e.imp id .inr)
  have go : ∀ {b : Nat} {o : Obj}, A.heap[b]? = some o → b < n → A'.heap[b]? = some o := fun {b o} hb hlt => (hk.block b (Array.getElem?_eq_some_iff.1 hb).1 (fun e => by have := (Array.getElem?_eq_some_iff.1 hb).1; rcases e with (e | e) | e <;> omega)).trans hb
  exact ⟨h.bel.trans (hk.to_below h.bel.size (fun k e => by rcases e with (e | e) | e <;> omega)), go h.cb h1.1, go h.rb h1.2.1, go h.bx h1.2.2.2, F, L, go z1 h1.2.2.1, z2.step hk2, z3.step hk2⟩
structure ZR (c : Col) (B D E X : SL) (cb zb vb : Nat) (z : Zn) (F L : SL) (v : V) (ta : Option Addr) (tc : Nat) (W : World) : Prop where
  hc : W.heap[cb]? = some (.cells #[.int .i64 c.k, .int .i64 c.s, .int .i64 c.n, .int .i64 c.m, .slice B.a c.bits.length B.c, .slice D.a c.data.length D.c, .slice E.a c.ends.length E.c, .slice X.a c.words.length X.c] 63 (0, 0))
  hz : W.heap[zb]? = some (.cells #[.int .i64 c.k, .int .i64 c.s, .int .i64 (z.n : Int), .int .i64 (z.nulls : Int), .int .i64 (z.odd : Int), .bool z.has, .int .u64 (z.least : Int), .int .u64 (z.most : Int), .slice F.a z.first.length F.c, .slice L.a z.last.length L.c] 79 (0, 0))
  hv : W.heap[vb]? = some (.cells #[.int .u64 (v.bits : Int), .slice ta v.text.length tc, .bool v.null] 145 (0, 0))
theorem ZR.below {c : Col} {B D E X : SL} {cb zb vb : Nat} {z : Zn} {F L : SL} {v : V} {ta : Option Addr} {tc : Nat} {W W' : World} (h : ZR c B D E X cb zb vb z F L v ta tc W) (hb : Below W.heap.size W W') : ZR c B D E X cb zb vb z F L v ta tc W' :=
  ⟨(hb.block _ (lt_of_blk h.hc)).trans h.hc, (hb.block _ (lt_of_blk h.hz)).trans h.hz, (hb.block _ (lt_of_blk h.hv)).trans h.hv⟩
theorem ZR.set {c : Col} {B D E X : SL} {cb zb vb n : Nat} {z : Zn} {F L : SL} {v : V} {ta : Option Addr} {tc : Nat} {W W' : World} (h : ZR c B D E X cb zb vb z F L v ta tc W) (hn : cb ≠ n ∧ zb ≠ n ∧ vb ≠ n) (hk : Kept (fun k => k = n) W W') : ZR c B D E X cb zb vb z F L v ta tc W' :=
  ⟨(hk.block _ (lt_of_blk h.hc) hn.1).trans h.hc, (hk.block _ (lt_of_blk h.hz) hn.2.1).trans h.hz, (hk.block _ (lt_of_blk h.hv) hn.2.2).trans h.hv⟩
structure ZOwn (z : Zn) (F L : SL) (b : Nat) (W : World) : Prop where
  f : Own W b 5 1 (.slice F.a z.first.length F.c) z.first.length (z.first.map (.int .u8))
  l : Own W b 5 1 (.slice L.a z.last.length L.c) z.last.length (z.last.map (.int .u8))
  apart : ∀ k, (Value.slice F.a z.first.length F.c).ownBlock = some k → (Value.slice L.a z.last.length L.c).ownBlock ≠ some k
theorem ZOwn.below {z : Zn} {F L : SL} {b : Nat} {W W' : World} (h : ZOwn z F L b W) (hb : Below W.heap.size W W') : ZOwn z F L b W' := ⟨h.f.below hb, h.l.below hb, h.apart⟩
theorem ZOwn.mono {z : Zn} {F L : SL} {b b' : Nat} {W : World} (h : ZOwn z F L b W) (hb : b' ≤ b) : ZOwn z F L b' W := ⟨h.f.mono hb, h.l.mono hb, h.apart⟩
theorem ZOwn.kept {z : Zn} {F L : SL} {b : Nat} {S : Nat → Prop} {W W' : World} (h : ZOwn z F L b W) (hk : Kept S W W') (hs : ∀ k, S k → k < b ∨ W.heap.size ≤ k) : ZOwn z F L b W' :=
  ⟨h.f.kept hk (fun k e e2 => by have := h.f.lt k e; have := hs k e2; omega), h.l.kept hk (fun k e e2 => by have := h.l.lt k e; have := hs k e2; omega), h.apart⟩
theorem kept_putD {W : World} {D : Nat} {o' : Obj} : Kept (fun k => k = D) W (W.putObj D o') := ⟨rfl, rfl, rfl, by simp, fun k hk hn => World.putObj_heap_other hn⟩
theorem set10_89 {w : World} {b : Nat} {x0 x1 x2 x3 x4 x5 x6 x7 x8 x9 : Value} {T : TypeId} (h : w.heap[b]? = some (.cells #[x0, x1, x2, x3, x4, x5, x6, x7, x8, x9] T (0, 0))) (y8 y9 : Value) : ((w.setCell ⟨b, 8, none⟩ y8).setCell ⟨b, 9, none⟩ y9).heap[b]? = some (.cells #[x0, x1, x2, x3, x4, x5, x6, x7, y8, y9] T (0, 0)) := by
  have h := heap_setCell_at (k := 9) (heap_setCell_at (k := 8) h y8) y9
  simpa using h
theorem kept89 (w : World) (b : Nat) (y8 y9 : Value) : Kept (fun k => k = b) w ((w.setCell ⟨b, 8, none⟩ y8).setCell ⟨b, 9, none⟩ y9) := by
  repeat (refine Kept.trans ?_ (Kept.setCell _ _ _) (fun _ e _ => e))
  exact Kept.refl _ _
theorem kk_chain {zb : Nat} {W2 W7 W8 W9 W10 : World} (h7 : Below W2.heap.size W2 W7) (h8 : Kept (fun k => k = W2.heap.size) W7 W8) (h9 : Below W8.heap.size W8 W9) (h10 : Kept (fun k => k = zb) W9 W10) : Kept (fun k => k = zb ∨ W2.heap.size ≤ k) W2 W10 :=
  (((Kept.of_below h7).trans h8 (fun k e hl => .inr (by omega))).trans (Kept.of_below (S := fun _ => False) h9) (fun _ e _ => e.elim)).trans h10 (fun k e _ => .inl e)
theorem ZofI.next {c : Col} {B D E X : SL} {vals : List Value} {w : World} {n cb rb zb Bs i : Nat} {A A' : World} (h : ZofI c B D E X vals w n cb rb zb Bs i A) (hn : w.heap.size ≤ zb) (h1 : cb ≠ zb ∧ rb ≠ zb ∧ Bs ≠ zb) (hk : Kept (fun k => k = zb ∨ A.heap.size ≤ k) A A') {z' : Zn} (e : zAt c (i + 1) = z') {F L : SL}
    (hz : A'.heap[zb]? = some (.cells #[.int .i64 c.k, .int .i64 c.s, .int .i64 (z'.n : Int), .int .i64 (z'.nulls : Int), .int .i64 (z'.odd : Int), .bool z'.has, .int .u64 (z'.least : Int), .int .u64 (z'.most : Int), .slice F.a z'.first.length F.c, .slice L.a z'.last.length L.c] 79 (0, 0))) (hF : StayM n zb z'.first F A') (hL : StayM n zb z'.last L A') : ZofI c B D E X vals w n cb rb zb Bs (i + 1) A' := by
  subst e
  have hs := h.bel.size
  have go : ∀ {b : Nat} {o : Obj}, A.heap[b]? = some o → b ≠ zb → A'.heap[b]? = some o := fun {b o} hb hne => (hk.block b (Array.getElem?_eq_some_iff.1 hb).1 (fun e => by have := (Array.getElem?_eq_some_iff.1 hb).1; rcases e with e | e <;> omega)).trans hb
  exact ⟨h.bel.trans (hk.to_below hs (fun k e => by rcases e with e | e <;> omega)), go h.cb h1.1, go h.rb h1.2.1, go h.bx h1.2.2, F, L, hz, hF, hL⟩
theorem set10_589 {w : World} {b : Nat} {x0 x1 x2 x3 x4 x5 x6 x7 x8 x9 : Value} {T : TypeId} (h : w.heap[b]? = some (.cells #[x0, x1, x2, x3, x4, x5, x6, x7, x8, x9] T (0, 0))) (y5 y8 y9 : Value) : (((w.setCell ⟨b, 5, none⟩ y5).setCell ⟨b, 8, none⟩ y8).setCell ⟨b, 9, none⟩ y9).heap[b]? = some (.cells #[x0, x1, x2, x3, x4, y5, x6, x7, y8, y9] T (0, 0)) := by
  have h := heap_setCell_at (k := 9) (heap_setCell_at (k := 8) (heap_setCell_at (k := 5) h y5) y8) y9
  simpa using h
theorem kept589 (w : World) (b : Nat) (y5 y8 y9 : Value) : Kept (fun k => k = b) w (((w.setCell ⟨b, 5, none⟩ y5).setCell ⟨b, 8, none⟩ y8).setCell ⟨b, 9, none⟩ y9) := by
  repeat (refine Kept.trans ?_ (Kept.setCell _ _ _) (fun _ e _ => e))
  exact Kept.refl _ _
theorem set10_567 {w : World} {b : Nat} {x0 x1 x2 x3 x4 x5 x6 x7 x8 x9 : Value} {T : TypeId} (h : w.heap[b]? = some (.cells #[x0, x1, x2, x3, x4, x5, x6, x7, x8, x9] T (0, 0))) (y5 y6 y7 : Value) : (((w.setCell ⟨b, 5, none⟩ y5).setCell ⟨b, 6, none⟩ y6).setCell ⟨b, 7, none⟩ y7).heap[b]? = some (.cells #[x0, x1, x2, x3, x4, y5, y6, y7, x8, x9] T (0, 0)) := by
  have h := heap_setCell_at (k := 7) (heap_setCell_at (k := 6) (heap_setCell_at (k := 5) h y5) y6) y7
  simpa using h
theorem kept567 (w : World) (b : Nat) (y5 y6 y7 : Value) : Kept (fun k => k = b) w (((w.setCell ⟨b, 5, none⟩ y5).setCell ⟨b, 6, none⟩ y6).setCell ⟨b, 7, none⟩ y7) := by
  repeat (refine Kept.trans ?_ (Kept.setCell _ _ _) (fun _ e _ => e))
  exact Kept.refl _ _
theorem set10_3 {w : World} {b : Nat} {x0 x1 x2 x3 x4 x5 x6 x7 x8 x9 : Value} {T : TypeId} (h : w.heap[b]? = some (.cells #[x0, x1, x2, x3, x4, x5, x6, x7, x8, x9] T (0, 0))) (y : Value) : (w.setCell ⟨b, 3, none⟩ y).heap[b]? = some (.cells #[x0, x1, x2, y, x4, x5, x6, x7, x8, x9] T (0, 0)) := by
  simpa using heap_setCell_at (k := 3) h y
theorem set10_4 {w : World} {b : Nat} {x0 x1 x2 x3 x4 x5 x6 x7 x8 x9 : Value} {T : TypeId} (h : w.heap[b]? = some (.cells #[x0, x1, x2, x3, x4, x5, x6, x7, x8, x9] T (0, 0))) (y : Value) : (w.setCell ⟨b, 4, none⟩ y).heap[b]? = some (.cells #[x0, x1, x2, x3, y, x5, x6, x7, x8, x9] T (0, 0)) := by
  simpa using heap_setCell_at (k := 4) h y
end Go.Proofs.YtmhjjhaipcgbiaaGreat
