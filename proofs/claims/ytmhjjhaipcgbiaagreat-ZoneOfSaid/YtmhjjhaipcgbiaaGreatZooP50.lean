/- Texts of this claim, one behind the other: Zwk, Zbk, Zow. -/
import Derived.Test.YtmhjjhaipcgbiaaGreatZooP49
import Derived.Test.YtmhjjhaipcgbiaaGreatZooP22
import Derived.Test.YtmhjjhaipcgbiaaGreatZooP25
import Derived.Test.YtmhjjhaipcgbiaaGreatZooP44

namespace Go.Proofs.YtmhjjhaipcgbiaaGreat
open Go.RowKit
set_option linter.unusedVariables false
set_option linter.unusedSimpArgs false
set_option maxRecDepth 100000
set_option maxHeartbeats 1000000
def wkC : Col := ⟨1, 0, 3, 3, [2], [255, 0, 5], [], []⟩
theorem wk_zone : zoneC wkC = ⟨3, 1, 0, true, 255, 5, [], []⟩ := zn_ext (by decide) (by decide) (by decide) (by decide) (by decide) (by decide) (by decide) (by decide)
theorem wk_check : checkC wkC = 0 := by decide
theorem wk_ok : COK wkC := ⟨(by unfold wkC; intro x hx; simp at hx; omega), (by unfold wkC; intro x hx; simp at hx; omega), (by intro x hx; cases hx), (by intro x hx; cases hx), (by decide), (by decide), (by decide), (by decide), (by unfold wkC IsI64; dsimp only; omega), (by unfold wkC IsI64; dsimp only; omega), (by unfold wkC IsI64; dsimp only; omega), (by unfold wkC IsI64; dsimp only; omega)⟩
theorem wk_small : Small18 wkC := ⟨fun _ => by decide, by decide, by intro t ht; cases ht⟩
theorem wakes19_any (w : World) : Calls Tryz.prog 43 #[] w (BoolP true w) := by
  have hb : Below w.heap.size w ((w.alloc (.cells #[.int .u8 2] 5)).alloc (.cells #[.int .u8 255, .int .u8 0, .int .u8 5] 5)) := ((Below.refl _ w).alloc (Nat.le_refl _) _).alloc (by simp) _
  have h1 : ((w.alloc (.cells #[.int .u8 2] 5)).alloc (.cells #[.int .u8 255, .int .u8 0, .int .u8 5] 5)).heap[w.heap.size]? = some (.cells #[.int .u8 2] 5) := (Below.heap_alloc _ _ _ (by simp)).trans (World.alloc_heap_new w _)
  have h2 : ((w.alloc (.cells #[.int .u8 2] 5)).alloc (.cells #[.int .u8 255, .int .u8 0, .int .u8 5] 5)).heap[w.heap.size + 1]? = some (.cells #[.int .u8 255, .int .u8 0, .int .u8 5] 5) := by
    have := World.alloc_heap_new (w.alloc (.cells #[.int .u8 2] 5)) (.cells #[.int .u8 255, .int .u8 0, .int .u8 5] 5)
    rwa [World.size_alloc] at this
  have hr : RdC ((w.alloc (.cells #[.int .u8 2] 5)).alloc (.cells #[.int .u8 255, .int .u8 0, .int .u8 5] 5)) wkC ⟨some ⟨w.heap.size, 0, none⟩, 1⟩ ⟨some ⟨w.heap.size + 1, 0, none⟩, 3⟩ ⟨none, 0⟩ ⟨none, 0⟩ [] :=
    ⟨rd_blk h1 rfl (by decide), rd_blk h2 rfl (by decide), Rd.nil _ _, Rd.nil _ _, ⟨rfl, fun i t hi => by cases hi⟩⟩
  have ho := zof_any wkC wk_ok wk_small.mod wk_check _ _ _ _ [] (.inr ⟨_, _, rfl⟩) _ hr
  rw [wk_zone] at ho
  have HO := Aside.mk ho
  have HB := Aside.mk hb
  clear ho hb h1 h2 hr
  go_enter Tryz.func43, Tryz.ntmps43
  go_wp2_with (first
    | (go_at_call 38; refine HO.out.mono ?_; rintro e w2 ⟨F, L, rfl, -, hb2⟩; have B2 := Aside.mk (below_chain HB.out hb2); clear hb2 HO; dsimp only [zV, wkC])
    | (go_at_call 41; refine (num19_any _ _).mono ?_; rintro e w3 ⟨rfl, hb3⟩; have B3 := Aside.mk (below_chain (below_chain B2.out (below_new w2 _)) hb3); obtain ⟨z0, z1, z2, z3, z4, z5, z6, z7, z8, z9⟩ := box10 ((hb3.block w2.heap.size (by simp)).trans (heap_alloc_new w2 _)); clear hb3))
  go_ret
  exact ⟨rfl, B3.out⟩
end Go.Proofs.YtmhjjhaipcgbiaaGreat


namespace Go.Proofs.YtmhjjhaipcgbiaaGreat
open Go.RowKit
set_option linter.unusedVariables false
set_option linter.unusedSimpArgs false
set_option maxRecDepth 100000
set_option maxHeartbeats 1000000
abbrev rval (p : SL × List Int) : Value := .slice p.1.a p.2.length p.1.c
def BksT (B : Nat) (used : List (SL × List Int)) (b : Nat) : Prop := B ≤ b ∨ ∃ p ∈ used, (rval p).ownBlock = some b
structure Bks (w0 w : World) (base B bk : Nat) (used rem : List (SL × List Int)) (boxes : List (Nat × Obj)) : Prop where
  bel : Below base w0 w
  hB : base ≤ B ∧ B ≤ w.heap.size
  book : BK w (BksT B used) bk
  low : ∀ p, p ∈ used ∨ p ∈ rem → ∀ b, (rval p).ownBlock = some b → base ≤ b ∧ b < B
  own : ∀ p ∈ rem, Own w 0 5 1 (rval p) p.2.length (p.2.map (.int .u8)) ∧ IsBytes p.2 ∧ p.2.length ≤ 100000000
  apart : ∀ p ∈ used, ∀ q ∈ rem, ∀ b, (rval p).ownBlock = some b → (rval q).ownBlock ≠ some b
  apart2 : rem.Pairwise (fun p q => ∀ b, (rval p).ownBlock = some b → (rval q).ownBlock ≠ some b)
  box : ∀ x ∈ boxes, w.heap[x.1]? = some x.2 ∧ x.1 < B ∧ ∀ p, p ∈ used ∨ p ∈ rem → (rval p).ownBlock ≠ some x.1
theorem BksT.base {base B : Nat} {used rem : List (SL × List Int)} (h1 : base ≤ B) (h : ∀ p, p ∈ used ∨ p ∈ rem → ∀ b, (rval p).ownBlock = some b → base ≤ b ∧ b < B) : ∀ b, BksT B used b → base ≤ b := by
  rintro b (e | ⟨p, hp, e⟩)
  · omega
  · exact (h p (.inl hp) b e).1
theorem Bks.parts {w0 w w' : World} {base B bk : Nat} {used rem : List (SL × List Int)} {boxes : List (Nat × Obj)} (h : Bks w0 w base B bk used rem boxes) (hk : Kept (BksT B used) w w') : Below base w0 w' ∧ B ≤ w'.heap.size ∧ (∀ p ∈ rem, Own w' 0 5 1 (rval p) p.2.length (p.2.map (.int .u8))) ∧ ∀ x ∈ boxes, w'.heap[x.1]? = some x.2 :=
  ⟨h.bel.trans (hk.to_below (Nat.le_trans h.hB.1 h.hB.2) (BksT.base h.hB.1 h.low)), Nat.le_trans h.hB.2 hk.size,
    fun p hp => (h.own p hp).1.kept hk (fun b e => by
      rintro (t | ⟨q, hq, t⟩)
      · have := (h.low p (.inr hp) b e).2; omega
      · exact h.apart q hq p hp b t e),
    fun x hx => (hk.block _ (lt_of_blk (h.box x hx).1) (by
      rintro (t | ⟨q, hq, t⟩)
      · have := (h.box x hx).2.1; omega
      · exact (h.box x hx).2.2 q (.inl hq) t)).trans (h.box x hx).1⟩
theorem Bks.kept {w0 w w' : World} {base B bk : Nat} {used rem : List (SL × List Int)} {boxes : List (Nat × Obj)} (h : Bks w0 w base B bk used rem boxes) (hk : Kept (BksT B used) w w') (hb : BK w' (BksT B used) bk) : Bks w0 w' base B bk used rem boxes :=
  have hx := h.parts hk
  ⟨hx.1, ⟨h.hB.1, hx.2.1⟩, hb, h.low, fun p hp => ⟨hx.2.2.1 p hp, (h.own p hp).2⟩, h.apart, h.apart2, fun x hx' => ⟨hx.2.2.2 x hx', (h.box x hx').2⟩⟩
theorem Bks.below {w0 w w' : World} {base B bk : Nat} {used rem : List (SL × List Int)} {boxes : List (Nat × Obj)} (h : Bks w0 w base B bk used rem boxes) (hb : Below w.heap.size w w') : Bks w0 w' base B bk used rem boxes :=
  h.kept (Kept.of_below hb) (h.book.below hb)
theorem Bks.step {w0 w : World} {base B bk : Nat} {used rem : List (SL × List Int)} {p : SL × List Int} {boxes : List (Nat × Obj)} (h : Bks w0 w base B bk used (p :: rem) boxes) :
    Calls Tryz.prog 42 #[.pointer (some ⟨bk, 0, none⟩), rval p] w (fun e w' => e = .returned (.tuple #[]) ∧ Bks w0 w' base B bk (p :: used) rem boxes) := by
  obtain ⟨ho, hby, hl⟩ := h.own p (List.mem_cons_self ..)
  have hlow := h.low p (.inr (List.mem_cons_self ..))
  refine (book_bytes (BksT B used) bk p.1.a p.1.c p.2 hby hl w h.book ho (fun b e => ?_)).mono ?_
  · rintro (t | ⟨q, hq, t⟩)
    · have := (hlow b e).2; omega
    · exact h.apart q hq p (List.mem_cons_self ..) b t e
  · rintro e w' ⟨rfl, hb, hk⟩
    have hx := h.parts hk
    refine ⟨rfl, hx.1, ⟨h.hB.1, hx.2.1⟩, hb.mono (fun b t _ => ?_), fun q hq => h.low q ?_, fun q hq => ⟨hx.2.2.1 q (List.mem_cons_of_mem _ hq), (h.own q (List.mem_cons_of_mem _ hq)).2⟩, fun q hq r hr b e => ?_, (List.pairwise_cons.1 h.apart2).2, fun x hx' => ⟨hx.2.2.2 x hx', (h.box x hx').2.1, fun q hq => (h.box x hx').2.2 q ?_⟩⟩
    · rcases t with (t | ⟨q, hq, t⟩) | t | t
      · exact .inl t
      · exact .inr ⟨q, List.mem_cons_of_mem _ hq, t⟩
      · exact .inr ⟨p, List.mem_cons_self .., t⟩
      · exact .inl (Nat.le_trans h.hB.2 t)
    · rcases hq with hq | hq
      · rcases List.mem_cons.1 hq with rfl | hq
        · exact .inr (List.mem_cons_self ..)
        · exact .inl hq
      · exact .inr (List.mem_cons_of_mem _ hq)
    · rcases List.mem_cons.1 hq with rfl | hq
      · exact (List.pairwise_cons.1 h.apart2).1 r hr b e
      · exact h.apart q hq r (List.mem_cons_of_mem _ hr) b e
    · rcases hq with hq | hq
      · rcases List.mem_cons.1 hq with rfl | hq
        · exact .inr (List.mem_cons_self ..)
        · exact .inl hq
      · exact .inr (List.mem_cons_of_mem _ hq)
theorem Bks.close {w0 w : World} {base B bk : Nat} {used rem : List (SL × List Int)} {boxes : List (Nat × Obj)} (h : Bks w0 w base B bk used rem boxes) :
    Calls Tryz.prog 36 #[.pointer (some ⟨bk, 0, none⟩)] w (fun e w' => e = .returned (.bool true) ∧ Below base w0 w') := by
  refine (book_close _ bk w h.book).mono ?_
  rintro e w' ⟨rfl, hk⟩
  exact ⟨rfl, h.bel.trans (hk.to_below (Nat.le_trans h.hB.1 h.hB.2) (BksT.base h.hB.1 h.low))⟩
end Go.Proofs.YtmhjjhaipcgbiaaGreat


namespace Go.Proofs.YtmhjjhaipcgbiaaGreat
open Go.RowKit
set_option linter.unusedVariables false
set_option linter.unusedSimpArgs false
set_option maxRecDepth 100000
set_option maxHeartbeats 1000000
abbrev colCells (c : Col) (B D E X : SL) : Obj := .cells #[.int .i64 c.k, .int .i64 c.s, .int .i64 c.n, .int .i64 c.m, .slice B.a c.bits.length B.c, .slice D.a c.data.length D.c, .slice E.a c.ends.length E.c, .slice X.a c.words.length X.c] 63 (0, 0)
structure ZowI (n : Int) (r : List V) (B D E X : SL) (va : List Value) (cb : Nat) (k' n' : Int) (w wx : World) : Prop where
  hk : IsI64 k'
  hn : IsI64 n'
  bel : Below w.heap.size w wx
  lo : w.heap.size ≤ cb
  own : OwnC wx w.heap.size (colOf (kindI n) (scaleI n) r) B D E X va
  box : wx.heap[cb]? = some (colCells (badC (colOf (kindI n) (scaleI n) r) k' n') B D E X)
theorem wrap64_i64 (x : Int) : IsI64 (wrap64 x) := by unfold IsI64 wrap64; omega
theorem ZowI.setN {n : Int} {r : List V} {B D E X : SL} {va : List Value} {cb : Nat} {k' n' n2 : Int} {w wx : World} (h : ZowI n r B D E X va cb k' n' w wx) (h2 : IsI64 n2) : ZowI n r B D E X va cb k' n2 w (wx.setCell ⟨cb, 2, none⟩ (.int .i64 n2)) :=
  ⟨h.hk, h2, h.bel.trans ((Kept.setCell wx ⟨cb, 2, none⟩ (.int .i64 n2)).to_below h.bel.size (fun k e => by have := h.lo; have e' : k = cb := e; omega)), h.lo, h.own.turnT h.box (Kept.setCell wx ⟨cb, 2, none⟩ (.int .i64 n2)), by simpa [badC] using heap_setCell_at (k := 2) h.box (.int .i64 n2)⟩
theorem ZowI.setK {n : Int} {r : List V} {B D E X : SL} {va : List Value} {cb : Nat} {k' n' k2 : Int} {w wx : World} (h : ZowI n r B D E X va cb k' n' w wx) (h2 : IsI64 k2) : ZowI n r B D E X va cb k2 n' w (wx.setCell ⟨cb, 0, none⟩ (.int .i64 k2)) :=
  ⟨h2, h.hn, h.bel.trans ((Kept.setCell wx ⟨cb, 0, none⟩ (.int .i64 k2)).to_below h.bel.size (fun k e => by have := h.lo; have e' : k = cb := e; omega)), h.lo, h.own.turnT h.box (Kept.setCell wx ⟨cb, 0, none⟩ (.int .i64 k2)), by simpa [badC] using heap_setCell_at (k := 0) h.box (.int .i64 k2)⟩
theorem zbk_start {z : Zn} {w w14 : World} {F L F3 L3 : SL} {b4 b8 B z1 z3 : Nat} {o1 o3 : Array Value} (hbel : Below w.heap.size w w14) (hB : w.heap.size ≤ B ∧ B ≤ w14.heap.size) (h4 : w.heap.size ≤ b4) (h8 : w.heap.size ≤ b8) (hbk : BK w14 (fun b => B ≤ b) B) (hZ1 : ZOwn z F L b4 w14) (hZ3 : ZOwn z F3 L3 b8 w14) {s8 : Nat}
    (hlt : (∀ k, (Value.slice F.a z.first.length F.c).ownBlock = some k → k < B ∧ k < s8) ∧ (∀ k, (Value.slice L.a z.last.length L.c).ownBlock = some k → k < B ∧ k < s8) ∧ (∀ k, (Value.slice F3.a z.first.length F3.c).ownBlock = some k → k < B ∧ s8 ≤ k) ∧ (∀ k, (Value.slice L3.a z.last.length L3.c).ownBlock = some k → k < B ∧ s8 ≤ k))
    (htx : (IsBytes z.first ∧ z.first.length ≤ 100000000) ∧ IsBytes z.last ∧ z.last.length ≤ 100000000) (hy1 : w14.heap[z1]? = some (.cells o1 79 (0, 0))) (hy3 : w14.heap[z3]? = some (.cells o3 79 (0, 0))) (hz : z1 < B ∧ z3 < B) :
    Bks w w14 w.heap.size B B [] [(F, z.first), (L, z.last), (F3, z.first), (L3, z.last)] [(z1, .cells o1 79 (0, 0)), (z3, .cells o3 79 (0, 0))] := by
  refine ⟨hbel, hB, hbk.mono (fun b t _ => .inl t), fun p hp b e => ?_, fun p hp => ?_, by simp, ?_, fun x hx => ?_⟩
  · simp only [List.not_mem_nil, false_or, List.mem_cons, or_false] at hp
    rcases hp with rfl | rfl | rfl | rfl
    · exact ⟨Nat.le_trans h4 (hZ1.f.lt b e).1, (hlt.1 b e).1⟩
    · exact ⟨Nat.le_trans h4 (hZ1.l.lt b e).1, (hlt.2.1 b e).1⟩
    · exact ⟨Nat.le_trans h8 (hZ3.f.lt b e).1, (hlt.2.2.1 b e).1⟩
    · exact ⟨Nat.le_trans h8 (hZ3.l.lt b e).1, (hlt.2.2.2 b e).1⟩
  · simp only [List.mem_cons, List.not_mem_nil, or_false] at hp
    rcases hp with rfl | rfl | rfl | rfl
    · exact ⟨hZ1.f.mono (Nat.zero_le _), htx.1⟩
    · exact ⟨hZ1.l.mono (Nat.zero_le _), htx.2⟩
    · exact ⟨hZ3.f.mono (Nat.zero_le _), htx.1⟩
    · exact ⟨hZ3.l.mono (Nat.zero_le _), htx.2⟩
  · simp only [List.pairwise_cons, List.mem_cons, List.not_mem_nil, or_false, forall_eq_or_imp, forall_eq, false_imp_iff, implies_true, List.Pairwise.nil, and_true]
    refine ⟨⟨hZ1.apart, fun b e e2 => ?_, fun b e e2 => ?_⟩, ⟨fun b e e2 => ?_, fun b e e2 => ?_⟩, hZ3.apart⟩
    · have := (hlt.1 b e).2; have := (hlt.2.2.1 b e2).2; omega
    · have := (hlt.1 b e).2; have := (hlt.2.2.2 b e2).2; omega
    · have := (hlt.2.1 b e).2; have := (hlt.2.2.1 b e2).2; omega
    · have := (hlt.2.1 b e).2; have := (hlt.2.2.2 b e2).2; omega
  · simp only [List.mem_cons, List.not_mem_nil, or_false] at hx
    rcases hx with rfl | rfl
    · refine ⟨hy1, hz.1, fun p hp => ?_⟩
      simp only [List.not_mem_nil, false_or, List.mem_cons, or_false] at hp
      rcases hp with rfl | rfl | rfl | rfl
      · exact hZ1.f.blk_ne hy1 (by decide)
      · exact hZ1.l.blk_ne hy1 (by decide)
      · exact hZ3.f.blk_ne hy1 (by decide)
      · exact hZ3.l.blk_ne hy1 (by decide)
    · refine ⟨hy3, hz.2, fun p hp => ?_⟩
      simp only [List.not_mem_nil, false_or, List.mem_cons, or_false] at hp
      rcases hp with rfl | rfl | rfl | rfl
      · exact hZ1.f.blk_ne hy3 (by decide)
      · exact hZ1.l.blk_ne hy3 (by decide)
      · exact hZ3.f.blk_ne hy3 (by decide)
      · exact hZ3.l.blk_ne hy3 (by decide)
theorem zoneOf_walk (n bad : Int) (hbad : IsI64 bad) (l : List V) (hl : l.length ≤ 9223372036854775807) (hv : ∀ v ∈ l, IsBytes v.text ∧ v.bits < 18446744073709551616 ∧ v.text.length ≤ 9223372036854775807) (A : SL) (w : World) (h : RdVs w A l) :
    Calls Tryz.prog 4 #[.int .i64 n, .slice A.a l.length A.c, .int .i64 bad] w (BoolP true w) := by
  have HL := Aside.mk (lay19_any n l hl hv A w h)
  have HBAD := Aside.mk hbad
  clear h hl hv hbad
  generalize l.length = ln at *
  go_enter Tryz.func4, Tryz.ntmps4
  go_upto_region 2 with (go_at_call 37; refine HL.out.mono ?_; rintro e w1 ⟨r, hr, B, D, E, X, va, rfl, hown, hb1⟩; have HRR := Aside.mk hr; have HOW := Aside.mk hown; have HB1 := Aside.mk hb1; clear hr hown hb1 HL; dsimp only [colV])
  have hco := (spoil_col (wh := 0) (wat := 0) (wby := 0) (kind_ok n) HRR.out (by unfold IsI64; omega)).1
  have HI0 := Aside.mk (show ZowI n r B D E X va w1.heap.size (colOf (kindI n) (scaleI n) r).k (colOf (kindI n) (scaleI n) r).n w (w1.alloc (.cells #[.int .i64 (colOf (kindI n) (scaleI n) r).k, .int .i64 (colOf (kindI n) (scaleI n) r).s, .int .i64 (colOf (kindI n) (scaleI n) r).n, .int .i64 (colOf (kindI n) (scaleI n) r).m, .slice B.a (colOf (kindI n) (scaleI n) r).bits.length B.c, .slice D.a (colOf (kindI n) (scaleI n) r).data.length D.c, .slice E.a (colOf (kindI n) (scaleI n) r).ends.length E.c, .slice X.a (colOf (kindI n) (scaleI n) r).words.length X.c] 63)) from
    ⟨hco.k, hco.n, below_chain HB1.out (below_new _ _), HB1.out.size, HOW.out.below (below_new _ _), heap_alloc_new w1 _⟩)
  clear hco HB1 HOW
  generalize hcc : colOf (kindI n) (scaleI n) r = c at *
  generalize w1.alloc (.cells #[.int .i64 c.k, .int .i64 c.s, .int .i64 c.n, .int .i64 c.m, .slice B.a c.bits.length B.c, .slice D.a c.data.length D.c, .slice E.a c.ends.length E.c, .slice X.a c.words.length X.c] 63) = w2 at *
  have HCC := Aside.mk hcc
  clear hcc
  go_upto_if 21 with fail
  go_cut [] from 16 to 90 (fun wx => ∃ n' : Int, ZowI n r B D E X va w1.heap.size c.k n' w wx)
  case first =>
    obtain ⟨c0, c1, c2, c3, c4, c5, c6, c7⟩ := box8 HI0.out.box
    have cf := fun k => frozen_blk (k := k) HI0.out.box
    have cl := lt_of_blk HI0.out.box
    go_wp2_with fail
    · go_meet
      exact ⟨_, HI0.out.setN (wrap64_i64 _)⟩
    · go_meet
      exact ⟨_, HI0.out⟩
  case rest =>
  obtain ⟨n', hcut⟩ := hcut
  clear HI0
  have HI1 := Aside.mk hcut
  clear hcut w2
  generalize wc = w2 at *
  go_upto_if 30 with fail
  go_cut [] from 16 to 90 (fun wx => ∃ k' : Int, ZowI n r B D E X va w1.heap.size k' n' w wx)
  case first =>
    obtain ⟨c0, c1, c2, c3, c4, c5, c6, c7⟩ := box8 HI1.out.box
    have cf := fun k => frozen_blk (k := k) HI1.out.box
    have cl := lt_of_blk HI1.out.box
    go_wp2_with fail
    · go_meet
      exact ⟨_, HI1.out.setK (by have := HBAD.out; unfold IsI64 at *; omega)⟩
    · go_meet
      exact ⟨_, HI1.out⟩
  case rest =>
  obtain ⟨k', hcut⟩ := hcut
  clear HI1
  obtain ⟨hok5, hsm5⟩ := badC_ok (k' := k') (n' := n') (kind_ok n) HRR.out hcut.hk hcut.hn
  have hown5 := badC_own hcut.own k' n'
  have hbox5 := hcut.box
  have hbel5 := hcut.bel
  clear hcut w2 HCC
  generalize wc = w2 at *
  generalize badC (colOf (kindI n) (scaleI n) r) k' n' = c5 at *
  have HO5 := Aside.mk hok5
  have HS5 := Aside.mk hsm5
  have HW5 := Aside.mk hown5
  have HX5 := Aside.mk hbox5
  have HB5 := Aside.mk hbel5
  clear hok5 hsm5 hown5 hbox5 hbel5
  obtain ⟨c0, c1, c2, c3, c4, c5', c6, c7⟩ := box8 HX5.out
  go_upto_region 7 with (go_at_call 27; refine (twin18 c5 B D E X va HO5.out.ld HO5.out.lb HO5.out.le HO5.out.lw (fun t ht => (HO5.out.words t ht).2) _ HW5.out.rd).mono ?_; rintro e w3 ⟨B2, D2, E2, X2, va2, rfl, hown2, hb3⟩; have HT3 := Aside.mk hown2; have HB3 := Aside.mk hb3; clear hown2 hb3; dsimp only [colV])
  have hDa : D.a = none ∨ ∃ g off, D.a = some ⟨g, off, none⟩ := by
    rcases HW5.out.data.2 with ⟨e, _⟩ | ⟨g, off, cap, cur, e, _⟩
    · left; simp only [Value.slice.injEq] at e; exact e.1
    · right; simp only [Value.slice.injEq] at e; exact ⟨g, off, e.1⟩
  have HDA := Aside.mk hDa
  clear hDa
  clear c0 c1 c2 c3 c4 c5' c6 c7
  replace HX5 := Aside.mk ((HB3.out.block _ (lt_of_blk HX5.out)).trans HX5.out)
  replace HW5 := Aside.mk (HW5.out.below HB3.out)
  replace HB5 := Aside.mk (below_chain HB5.out HB3.out)
  have hb4 := below_new w3 (.cells #[.int .i64 c5.k, .int .i64 c5.s, .int .i64 c5.n, .int .i64 c5.m, .slice B2.a c5.bits.length B2.c, .slice D2.a c5.data.length D2.c, .slice E2.a c5.ends.length E2.c, .slice X2.a c5.words.length X2.c] 63)
  have hn4 := heap_alloc_new w3 (.cells #[.int .i64 c5.k, .int .i64 c5.s, .int .i64 c5.n, .int .i64 c5.m, .slice B2.a c5.bits.length B2.c, .slice D2.a c5.data.length D2.c, .slice E2.a c5.ends.length E2.c, .slice X2.a c5.words.length X2.c] 63)
  generalize w3.alloc (.cells #[.int .i64 c5.k, .int .i64 c5.s, .int .i64 c5.n, .int .i64 c5.m, .slice B2.a c5.bits.length B2.c, .slice D2.a c5.data.length D2.c, .slice E2.a c5.ends.length E2.c, .slice X2.a c5.words.length X2.c] 63) = w4 at *
  replace HX5 := Aside.mk ((hb4.block _ (lt_of_blk HX5.out)).trans HX5.out)
  replace HW5 := Aside.mk (HW5.out.below hb4)
  replace HB5 := Aside.mk (below_chain HB5.out hb4)
  replace HT3 := Aside.mk (HT3.out.below hb4)
  have HY := Aside.mk hn4
  clear hb4 hn4
  obtain ⟨c0, c1, c2, c3, c4, c5', c6, c7⟩ := box8 HX5.out
  go_upto_region 8 with (go_at_call 38; refine (zof_all c5 HO5.out HS5.out B D E X va HDA.out _ HW5.out.rd).mono ?_; rintro e w5 ⟨F, L, rfl, hz, hb5⟩; have HZ1 := Aside.mk hz; have HB := Aside.mk hb5; clear hz hb5; dsimp only [zV])
  have HLO4 := Aside.mk HB5.out.size
  clear c0 c1 c2 c3 c4 c5' c6 c7
  replace HX5 := Aside.mk ((HB.out.block _ (lt_of_blk HX5.out)).trans HX5.out)
  replace HW5 := Aside.mk (HW5.out.below HB.out)
  replace HB5 := Aside.mk (below_chain HB5.out HB.out)
  replace HT3 := Aside.mk (HT3.out.below HB.out)
  replace HY := Aside.mk ((HB.out.block _ (lt_of_blk HY.out)).trans HY.out)
  have hb6 := below_new w5 (.cells #[.int .i64 (zK c5), .int .i64 (zS c5), .int .i64 ((zR c5).n : Int), .int .i64 ((zR c5).nulls : Int), .int .i64 ((zR c5).odd : Int), .bool (zR c5).has, .int .u64 ((zR c5).least : Int), .int .u64 ((zR c5).most : Int), .slice F.a (zR c5).first.length F.c, .slice L.a (zR c5).last.length L.c] 79)
  have hn6 := heap_alloc_new w5 (.cells #[.int .i64 (zK c5), .int .i64 (zS c5), .int .i64 ((zR c5).n : Int), .int .i64 ((zR c5).nulls : Int), .int .i64 ((zR c5).odd : Int), .bool (zR c5).has, .int .u64 ((zR c5).least : Int), .int .u64 ((zR c5).most : Int), .slice F.a (zR c5).first.length F.c, .slice L.a (zR c5).last.length L.c] 79)
  generalize w5.alloc (.cells #[.int .i64 (zK c5), .int .i64 (zS c5), .int .i64 ((zR c5).n : Int), .int .i64 ((zR c5).nulls : Int), .int .i64 ((zR c5).odd : Int), .bool (zR c5).has, .int .u64 ((zR c5).least : Int), .int .u64 ((zR c5).most : Int), .slice F.a (zR c5).first.length F.c, .slice L.a (zR c5).last.length L.c] 79) = w6 at *
  replace HX5 := Aside.mk ((hb6.block _ (lt_of_blk HX5.out)).trans HX5.out)
  replace HW5 := Aside.mk (HW5.out.below hb6)
  replace HB5 := Aside.mk (below_chain HB5.out hb6)
  replace HT3 := Aside.mk (HT3.out.below hb6)
  replace HY := Aside.mk ((hb6.block _ (lt_of_blk HY.out)).trans HY.out)
  replace HZ1 := Aside.mk (HZ1.out.below hb6)
  have HY1 := Aside.mk hn6
  clear hb6 hn6
  obtain ⟨c0, c1, c2, c3, c4, c5', c6, c7⟩ := box8 HX5.out
  go_upto_region 9 with (go_at_call 39; refine (rof_all c5 HO5.out HS5.out B D E X va _ HW5.out.rd).mono ?_; rintro e w7 ⟨F2, L2, rfl, hz, hz', hb7⟩; have HZ2 := Aside.mk (And.intro hz hz'); have HB2 := Aside.mk hb7; clear hz hz' hb7; dsimp only [zV])
  clear c0 c1 c2 c3 c4 c5' c6 c7
  replace HX5 := Aside.mk ((HB2.out.block _ (lt_of_blk HX5.out)).trans HX5.out)
  replace HW5 := Aside.mk (HW5.out.below HB2.out)
  replace HB5 := Aside.mk (below_chain HB5.out HB2.out)
  replace HT3 := Aside.mk (HT3.out.below HB2.out)
  replace HY := Aside.mk ((HB2.out.block _ (lt_of_blk HY.out)).trans HY.out)
  replace HZ1 := Aside.mk (HZ1.out.below HB2.out)
  replace HY1 := Aside.mk ((HB2.out.block _ (lt_of_blk HY1.out)).trans HY1.out)
  have hb8 := below_new w7 (.cells #[.int .i64 (zK c5), .int .i64 (zS c5), .int .i64 ((zR c5).n : Int), .int .i64 ((zR c5).nulls : Int), .int .i64 ((zR c5).odd : Int), .bool (zR c5).has, .int .u64 ((zR c5).least : Int), .int .u64 ((zR c5).most : Int), .slice F2.a (zR c5).first.length F2.c, .slice L2.a (zR c5).last.length L2.c] 79)
  have hn8 := heap_alloc_new w7 (.cells #[.int .i64 (zK c5), .int .i64 (zS c5), .int .i64 ((zR c5).n : Int), .int .i64 ((zR c5).nulls : Int), .int .i64 ((zR c5).odd : Int), .bool (zR c5).has, .int .u64 ((zR c5).least : Int), .int .u64 ((zR c5).most : Int), .slice F2.a (zR c5).first.length F2.c, .slice L2.a (zR c5).last.length L2.c] 79)
  generalize w7.alloc (.cells #[.int .i64 (zK c5), .int .i64 (zS c5), .int .i64 ((zR c5).n : Int), .int .i64 ((zR c5).nulls : Int), .int .i64 ((zR c5).odd : Int), .bool (zR c5).has, .int .u64 ((zR c5).least : Int), .int .u64 ((zR c5).most : Int), .slice F2.a (zR c5).first.length F2.c, .slice L2.a (zR c5).last.length L2.c] 79) = w8 at *
  replace HX5 := Aside.mk ((hb8.block _ (lt_of_blk HX5.out)).trans HX5.out)
  replace HW5 := Aside.mk (HW5.out.below hb8)
  replace HB5 := Aside.mk (below_chain HB5.out hb8)
  replace HT3 := Aside.mk (HT3.out.below hb8)
  replace HY := Aside.mk ((hb8.block _ (lt_of_blk HY.out)).trans HY.out)
  replace HZ1 := Aside.mk (HZ1.out.below hb8)
  replace HY1 := Aside.mk ((hb8.block _ (lt_of_blk HY1.out)).trans HY1.out)
  replace HZ2 := Aside.mk (And.intro (HZ2.out.1.below hb8) (HZ2.out.2.below hb8))
  have HY2 := Aside.mk hn8
  have HLT8 := Aside.mk (show (∀ k, (Value.slice F.a (zR c5).first.length F.c).ownBlock = some k → k < w8.heap.size) ∧ (∀ k, (Value.slice L.a (zR c5).last.length L.c).ownBlock = some k → k < w8.heap.size) from ⟨fun k e => (HZ1.out.f.lt k e).2, fun k e => (HZ1.out.l.lt k e).2⟩)
  clear hb8 hn8
  obtain ⟨c0, c1, c2, c3, c4, c5', c6, c7⟩ := box8 HX5.out
  go_upto_region 10 with (go_at_call 38; refine (zof_all c5 HO5.out HS5.out B D E X va HDA.out _ HW5.out.rd).mono ?_; rintro e w9 ⟨F3, L3, rfl, hz, hb9⟩; have HZ3 := Aside.mk hz; have HB9 := Aside.mk hb9; clear hz hb9; dsimp only [zV])
  have HLO8 := Aside.mk HB5.out.size
  clear c0 c1 c2 c3 c4 c5' c6 c7
  replace HX5 := Aside.mk ((HB9.out.block _ (lt_of_blk HX5.out)).trans HX5.out)
  replace HW5 := Aside.mk (HW5.out.below HB9.out)
  replace HB5 := Aside.mk (below_chain HB5.out HB9.out)
  replace HT3 := Aside.mk (HT3.out.below HB9.out)
  replace HY := Aside.mk ((HB9.out.block _ (lt_of_blk HY.out)).trans HY.out)
  replace HZ1 := Aside.mk (HZ1.out.below HB9.out)
  replace HY1 := Aside.mk ((HB9.out.block _ (lt_of_blk HY1.out)).trans HY1.out)
  replace HZ2 := Aside.mk (And.intro (HZ2.out.1.below HB9.out) (HZ2.out.2.below HB9.out))
  replace HY2 := Aside.mk ((HB9.out.block _ (lt_of_blk HY2.out)).trans HY2.out)
  have hb10 := below_new w9 (.cells #[.int .i64 (zK c5), .int .i64 (zS c5), .int .i64 ((zR c5).n : Int), .int .i64 ((zR c5).nulls : Int), .int .i64 ((zR c5).odd : Int), .bool (zR c5).has, .int .u64 ((zR c5).least : Int), .int .u64 ((zR c5).most : Int), .slice F3.a (zR c5).first.length F3.c, .slice L3.a (zR c5).last.length L3.c] 79)
  have hn10 := heap_alloc_new w9 (.cells #[.int .i64 (zK c5), .int .i64 (zS c5), .int .i64 ((zR c5).n : Int), .int .i64 ((zR c5).nulls : Int), .int .i64 ((zR c5).odd : Int), .bool (zR c5).has, .int .u64 ((zR c5).least : Int), .int .u64 ((zR c5).most : Int), .slice F3.a (zR c5).first.length F3.c, .slice L3.a (zR c5).last.length L3.c] 79)
  generalize w9.alloc (.cells #[.int .i64 (zK c5), .int .i64 (zS c5), .int .i64 ((zR c5).n : Int), .int .i64 ((zR c5).nulls : Int), .int .i64 ((zR c5).odd : Int), .bool (zR c5).has, .int .u64 ((zR c5).least : Int), .int .u64 ((zR c5).most : Int), .slice F3.a (zR c5).first.length F3.c, .slice L3.a (zR c5).last.length L3.c] 79) = w10 at *
  replace HX5 := Aside.mk ((hb10.block _ (lt_of_blk HX5.out)).trans HX5.out)
  replace HW5 := Aside.mk (HW5.out.below hb10)
  replace HB5 := Aside.mk (below_chain HB5.out hb10)
  replace HT3 := Aside.mk (HT3.out.below hb10)
  replace HY := Aside.mk ((hb10.block _ (lt_of_blk HY.out)).trans HY.out)
  replace HZ1 := Aside.mk (HZ1.out.below hb10)
  replace HY1 := Aside.mk ((hb10.block _ (lt_of_blk HY1.out)).trans HY1.out)
  replace HZ2 := Aside.mk (And.intro (HZ2.out.1.below hb10) (HZ2.out.2.below hb10))
  replace HY2 := Aside.mk ((hb10.block _ (lt_of_blk HY2.out)).trans HY2.out)
  replace HZ3 := Aside.mk (HZ3.out.below hb10)
  have HY3 := Aside.mk hn10
  clear hb10 hn10
  obtain ⟨x0, x1, x2, x3, x4, x5, x6, x7, x8, x9⟩ := box10 HY1.out
  obtain ⟨y0, y1, y2, y3, y4, y5, y6, y7, y8, y9⟩ := box10 HY2.out
  obtain ⟨c0, c1, c2, c3, c4, c5', c6, c7⟩ := box8 HX5.out
  obtain ⟨d0, d1, d2, d3, d4, d5, d6, d7⟩ := box8 HY.out
  have HSM := Aside.mk (fun W (hb : Below w10.heap.size w10 W) => rsame_any (zK c5) (zS c5) (zR c5) F L F2 L2 W (HZ1.out.f.rd.below hb) (HZ1.out.l.rd.below hb) (HZ2.out.1.below hb) (HZ2.out.2.below hb))
  dsimp only [zV] at HSM
  go_upto_region 12 with (first
    | (go_at_call 40; refine (HSM.out _ (Below.refl _ _)).mono ?_; rintro e w11 ⟨rfl, hb⟩; clear HSM x0 x1 x2 x3 x4 x5 x6 x7 x8 x9 y0 y1 y2 y3 y4 y5 y6 y7 y8 y9; clear c0 c1 c2 c3 c4 c5' c6 c7 d0 d1 d2 d3 d4 d5 d6 d7; replace HX5 := Aside.mk ((hb.block _ (lt_of_blk HX5.out)).trans HX5.out); replace HW5 := Aside.mk (HW5.out.below hb); replace HB5 := Aside.mk (below_chain HB5.out hb); replace HT3 := Aside.mk (HT3.out.below hb); replace HY := Aside.mk ((hb.block _ (lt_of_blk HY.out)).trans HY.out); replace HZ1 := Aside.mk (HZ1.out.below hb); replace HY1 := Aside.mk ((hb.block _ (lt_of_blk HY1.out)).trans HY1.out); replace HZ2 := Aside.mk (And.intro (HZ2.out.1.below hb) (HZ2.out.2.below hb)); replace HY2 := Aside.mk ((hb.block _ (lt_of_blk HY2.out)).trans HY2.out); replace HZ3 := Aside.mk (HZ3.out.below hb); replace HY3 := Aside.mk ((hb.block _ (lt_of_blk HY3.out)).trans HY3.out); obtain ⟨c0, c1, c2, c3, c4, c5', c6, c7⟩ := box8 HX5.out; obtain ⟨d0, d1, d2, d3, d4, d5, d6, d7⟩ := box8 HY.out; clear hb)
    | (go_at_call 41; refine (num19_any _ _).mono ?_; rintro e w12 ⟨rfl, hb⟩; clear c0 c1 c2 c3 c4 c5' c6 c7 d0 d1 d2 d3 d4 d5 d6 d7; replace HX5 := Aside.mk ((hb.block _ (lt_of_blk HX5.out)).trans HX5.out); replace HW5 := Aside.mk (HW5.out.below hb); replace HB5 := Aside.mk (below_chain HB5.out hb); replace HT3 := Aside.mk (HT3.out.below hb); replace HY := Aside.mk ((hb.block _ (lt_of_blk HY.out)).trans HY.out); replace HZ1 := Aside.mk (HZ1.out.below hb); replace HY1 := Aside.mk ((hb.block _ (lt_of_blk HY1.out)).trans HY1.out); replace HZ2 := Aside.mk (And.intro (HZ2.out.1.below hb) (HZ2.out.2.below hb)); replace HY2 := Aside.mk ((hb.block _ (lt_of_blk HY2.out)).trans HY2.out); replace HZ3 := Aside.mk (HZ3.out.below hb); replace HY3 := Aside.mk ((hb.block _ (lt_of_blk HY3.out)).trans HY3.out); obtain ⟨c0, c1, c2, c3, c4, c5', c6, c7⟩ := box8 HX5.out; obtain ⟨d0, d1, d2, d3, d4, d5, d6, d7⟩ := box8 HY.out; clear hb)
    | (go_at_call 30; refine (equal_col c5 c5 HO5.out HO5.out B D E X B2 D2 E2 X2 va va2 _ HW5.out.rd HT3.out.rd).mono ?_; rintro e w13 ⟨rfl, hb⟩; rw [equalC_refl]; clear c0 c1 c2 c3 c4 c5' c6 c7 d0 d1 d2 d3 d4 d5 d6 d7; replace HX5 := Aside.mk ((hb.block _ (lt_of_blk HX5.out)).trans HX5.out); replace HW5 := Aside.mk (HW5.out.below hb); replace HB5 := Aside.mk (below_chain HB5.out hb); replace HT3 := Aside.mk (HT3.out.below hb); replace HY := Aside.mk ((hb.block _ (lt_of_blk HY.out)).trans HY.out); replace HZ1 := Aside.mk (HZ1.out.below hb); replace HY1 := Aside.mk ((hb.block _ (lt_of_blk HY1.out)).trans HY1.out); replace HZ2 := Aside.mk (And.intro (HZ2.out.1.below hb) (HZ2.out.2.below hb)); replace HY2 := Aside.mk ((hb.block _ (lt_of_blk HY2.out)).trans HY2.out); replace HZ3 := Aside.mk (HZ3.out.below hb); replace HY3 := Aside.mk ((hb.block _ (lt_of_blk HY3.out)).trans HY3.out); obtain ⟨c0, c1, c2, c3, c4, c5', c6, c7⟩ := box8 HX5.out; obtain ⟨d0, d1, d2, d3, d4, d5, d6, d7⟩ := box8 HY.out; clear hb))
  clear c0 c1 c2 c3 c4 c5' c6 c7 d0 d1 d2 d3 d4 d5 d6 d7
  go_upto_region 13 with fail
  have HTX := Aside.mk (zR_text HO5.out HS5.out)
  have HLT := Aside.mk (show (∀ k, (Value.slice F.a (zR c5).first.length F.c).ownBlock = some k → k < w13.heap.size ∧ k < w8.heap.size) ∧ (∀ k, (Value.slice L.a (zR c5).last.length L.c).ownBlock = some k → k < w13.heap.size ∧ k < w8.heap.size) ∧ (∀ k, (Value.slice F3.a (zR c5).first.length F3.c).ownBlock = some k → k < w13.heap.size ∧ w8.heap.size ≤ k) ∧ (∀ k, (Value.slice L3.a (zR c5).last.length L3.c).ownBlock = some k → k < w13.heap.size ∧ w8.heap.size ≤ k) from ⟨fun k e => ⟨(HZ1.out.f.lt k e).2, HLT8.out.1 k e⟩, fun k e => ⟨(HZ1.out.l.lt k e).2, HLT8.out.2 k e⟩, fun k e => ⟨(HZ3.out.f.lt k e).2, (HZ3.out.f.lt k e).1⟩, fun k e => ⟨(HZ3.out.l.lt k e).2, (HZ3.out.l.lt k e).1⟩⟩)
  have HBX := Aside.mk (show w5.heap.size < w13.heap.size ∧ w9.heap.size < w13.heap.size ∧ w.heap.size ≤ w13.heap.size from ⟨lt_of_blk HY1.out, lt_of_blk HY3.out, HB5.out.size⟩)
  have hbk := BK.new w13
  have hbn := below_new w13 (.cells #[.slice none 0 0, .slice none 0 0, .slice none 0 0, .slice none 0 0, .slice none 0 0, .slice none 0 0] 41)
  generalize w13.alloc (.cells #[.slice none 0 0, .slice none 0 0, .slice none 0 0, .slice none 0 0, .slice none 0 0, .slice none 0 0] 41) = w14 at *
  replace HX5 := Aside.mk ((hbn.block _ (lt_of_blk HX5.out)).trans HX5.out)
  replace HW5 := Aside.mk (HW5.out.below hbn)
  replace HB5 := Aside.mk (below_chain HB5.out hbn)
  replace HT3 := Aside.mk (HT3.out.below hbn)
  replace HY := Aside.mk ((hbn.block _ (lt_of_blk HY.out)).trans HY.out)
  replace HZ1 := Aside.mk (HZ1.out.below hbn)
  replace HY1 := Aside.mk ((hbn.block _ (lt_of_blk HY1.out)).trans HY1.out)
  replace HZ2 := Aside.mk (And.intro (HZ2.out.1.below hbn) (HZ2.out.2.below hbn))
  replace HY2 := Aside.mk ((hbn.block _ (lt_of_blk HY2.out)).trans HY2.out)
  replace HZ3 := Aside.mk (HZ3.out.below hbn)
  replace HY3 := Aside.mk ((hbn.block _ (lt_of_blk HY3.out)).trans HY3.out)
  have HK := Aside.mk (zbk_start HB5.out ⟨HBX.out.2.2, by have := hbn.size; omega⟩ HLO4.out HLO8.out hbk HZ1.out HZ3.out HLT.out HTX.out HY1.out HY3.out ⟨HBX.out.1, HBX.out.2.1⟩)
  clear hbk hbn HX5 HW5 HT3 HY HZ2 HY2 HZ1 HZ3 HY1 HY3 HLT HBX HLO4 HLO8 HB5 HLT8 HTX HO5 HS5
  obtain ⟨x0, x1, x2, x3, x4, x5, x6, x7, x8, x9⟩ := box10 (HK.out.box _ (List.mem_cons_self ..)).1
  go_upto_region 14 with (go_at_call 42; refine HK.out.step.mono ?_; rintro e w15 ⟨rfl, hk⟩; clear x0 x1 x2 x3 x4 x5 x6 x7 x8 x9 HK; have HK := Aside.mk hk; clear hk)
  obtain ⟨x0, x1, x2, x3, x4, x5, x6, x7, x8, x9⟩ := box10 (HK.out.box _ (List.mem_cons_self ..)).1
  go_upto_region 15 with (go_at_call 42; refine HK.out.step.mono ?_; rintro e w16 ⟨rfl, hk⟩; clear x0 x1 x2 x3 x4 x5 x6 x7 x8 x9 HK; have HK := Aside.mk hk; clear hk)
  obtain ⟨x0, x1, x2, x3, x4, x5, x6, x7, x8, x9⟩ := box10 (HK.out.box _ (List.mem_cons_of_mem _ (List.mem_cons_self ..))).1
  go_upto_region 16 with (go_at_call 42; refine HK.out.step.mono ?_; rintro e w17 ⟨rfl, hk⟩; clear x0 x1 x2 x3 x4 x5 x6 x7 x8 x9 HK; have HK := Aside.mk hk; clear hk)
  obtain ⟨x0, x1, x2, x3, x4, x5, x6, x7, x8, x9⟩ := box10 (HK.out.box _ (List.mem_cons_of_mem _ (List.mem_cons_self ..))).1
  go_wp2_with (go_at_call 42; refine HK.out.step.mono ?_; rintro e w18 ⟨rfl, hk⟩; clear x0 x1 x2 x3 x4 x5 x6 x7 x8 x9 HK; have HK := Aside.mk hk; clear hk)
  refine HK.out.close.mono ?_
  rintro e w19 ⟨rfl, hb⟩
  have HB := Aside.mk hb
  clear hb HK
  go_wp2_with (go_at_call 43; refine (wakes19_any _).mono ?_; rintro e w20 ⟨rfl, hb⟩; replace HB := Aside.mk (below_chain HB.out hb); clear hb)
  go_ret
  exact ⟨rfl, HB.out⟩
end Go.Proofs.YtmhjjhaipcgbiaaGreat
