/- Texts of this claim, one behind the other: Step, Mask, MaskOf. -/
import Derived.Test.YtmhjjhaipcgbiaaGreatZemP1
import Derived.Deep.AppendLies
import Derived.Deep.RegionLaw
import Derived.Deep.RegionHeld3
import Derived.Test.YtmhjjhaipcgbiaaGreatZemP6

namespace Go.Proofs.YtmhjjhaipcgbiaaGreat
set_option linter.unusedSimpArgs false
open Go.RowKit
theorem step_app {P : Program} (w : World) {ops : Array Oper} {o : Oper} {a : Act} {K : Act → World → Prop} {Q : Exit → Act → World → Prop} {E' : Prop} (hgd : o.guard = none) (s x : Operand) (t tx : TypeId)
    (ho : o.op = .call { callee := .builtin .append, args := #[s, x], argTypes := #[t, tx] })
    (base : Nat) (e : TypeId) (z : Value) (size bytes : Nat) (ht : P.underlying t = some (.slice e)) (hi : (P.info? e).map (fun i => (i.zero, i.size, i.bytes)) = some (some z, size, bytes))
    (hzs : z.cells.size = size)
    (v : Value) (n : Nat) (xs : List Value) (hs : a.eval s = v) (hown : Own w base e size v n xs)
    (u : Value) (m : Nat) (news : List Value) (hx : a.eval x = u) (hsrc : Src P size tx u m news w)
    (h63 : n + m ≤ maxLen) (hbytes : (n + m) * bytes ≤ 140737488355328) (hbase : base ≤ w.heap.size)
    (h : ∀ v' w', Own w' base e size v' (n + m) (xs ++ news) → w.grownBy w' v.ownBlock → (v' = .slice none 0 0 ↔ v = .slice none 0 0 ∧ m = 0) → (v'.ownBlock = v.ownBlock ∨ ∃ b, v'.ownBlock = some b ∧ w.heap.size ≤ b) →
      K (a.put o.dst v') w') : if Region.wanted o (yielded ops a.tmps) = true then Oper.wp P o a w K Q else E' := by
  obtain ⟨i0, hi, hz0, hz1, hz2⟩ := info_parts hi
  obtain ⟨v', w', hr, h2, h3, h4, h5⟩ := run_append_own_at (P := P) w base t tx o.type e i0 z size bytes ht hi hz0 hz1 hz2 hzs v n xs hown u m news hsrc h63 hbytes hbase
  have hw : Region.wanted o (yielded ops a.tmps) = true := by simp [Region.wanted, hgd]
  rw [if_pos hw]
  unfold Oper.wp execOp
  simp only [ho, resolve, invoke, builtin, Sem.run_bind, Sem.run_pure, Result.andThen_ok, List.map_toArray, List.map_cons, List.map_nil, hs, hx, hr]
  exact h v' w' h2 h3 h4 h5
theorem src_one_drew {P : Program} {w : World} {tx e : TypeId} (hk : P.underlying tx = some (.slice e)) (b : Nat) (x : Value) (E : TypeId) (h1 : x.oneCell' = true) (hb : w.heap.size = b) : Src P 1 tx (.slice (some ⟨b, 0, none⟩) 1 1) 1 [x] (w.alloc (.cells #[x] E)).drew :=
  src_one (w := w.drew) hk b x E h1 hb
theorem step_call {P : Program} (w : World) {ops : Array Oper} {o : Oper} {a : Act} {K : Act → World → Prop} {Q : Exit → Act → World → Prop} {E' : Prop} (hgd : o.guard = none) (f : FuncId) (args : List Operand) (tys : Array TypeId)
    (ho : o.op = .call { callee := .value (.func f), args := args.toArray, argTypes := tys }) (vs : List Value) (hv : args.map a.eval = vs)
    (eg : ∀ args w, (callFunc f args).run P w = .ok (.enter f args) w) {R : Ending → World → Prop} (hc : Calls P f vs.toArray w R)
    (h : ∀ e w', R e w' → ∃ v, e = .returned v ∧ K (a.put o.dst v) w') : if Region.wanted o (yielded ops a.tmps) = true then Oper.wp P o a w K Q else E' := by
  have hw : Region.wanted o (yielded ops a.tmps) = true := by simp [Region.wanted, hgd]
  rw [if_pos hw]
  unfold Oper.wp
  have hr : (execOp a.eval o).run P w = .ok (.enter f vs.toArray) w := by
    unfold execOp
    simp [ho, List.map_toArray, resolve, invoke, Sem.run_bind, Sem.run_pure, Result.andThen_ok, hv, eg, Act.eval, Deferred.ofValue, Result.andThen]
  rw [hr, Oper.upon_enter]
  refine hc.mono ?_
  intro e w' hR
  obtain ⟨v, rfl, hK⟩ := h e w' hR
  exact hK
end Go.Proofs.YtmhjjhaipcgbiaaGreat


namespace Go.Proofs.YtmhjjhaipcgbiaaGreat
open Go.RowKit
set_option linter.unusedVariables false
set_option linter.unusedSimpArgs false
set_option maxRecDepth 100000
set_option maxHeartbeats 1000000
def mrow (bs : List Int) (n : Nat) : List Int := if n % 8 = 0 then bs ++ [0] else bs
def morb (x : Int) (k : Nat) : Int := bits .or .u8 x (2 ^ k % 256)
def mput (bs : List Int) (n : Nat) (bit : Bool) : List Int := if bit then (mrow bs n).set (n / 8) (morb ((mrow bs n).getD (n / 8) 0) (n % 8)) else mrow bs n
def MidP (base n : Nat) (bs : List Int) (v : Value) (w wx : World) : Prop :=
  ∃ v1, wx.heap[w.heap.size]? = some (.cells #[.int .i64 (n : Int), v1] 60 (0, 0)) ∧ wx.heap[w.heap.size + 1]? = some (.cells #[.int .i64 0, .slice none 0 0] 60 (0, 0)) ∧
    Own wx base 5 1 v1 (mrow bs n).length ((mrow bs n).map (.int .u8)) ∧ Kept (fun b => v.ownBlock = some b) w wx ∧ (v1.ownBlock = v.ownBlock ∨ ∃ b, v1.ownBlock = some b ∧ w.heap.size ≤ b)
def MputP (base n : Nat) (bs : List Int) (bit : Bool) (v : Value) (w : World) (e : Ending) (w' : World) : Prop :=
  ∃ v', e = .returned (.agg #[.int .i64 ((n : Int) + 1), v']) ∧ Own w' base 5 1 v' (mput bs n bit).length ((mput bs n bit).map (.int .u8)) ∧ Kept (fun b => v.ownBlock = some b) w w' ∧ (v'.ownBlock = v.ownBlock ∨ ∃ b, v'.ownBlock = some b ∧ w.heap.size ≤ b)
theorem kept_set {S : Nat → Prop} {w w1 : World} (h : Kept S w w1) {a : Addr} (ha : w.heap.size ≤ a.block) (v : Value) : Kept S w (w1.setCell a v) :=
  h.trans (Kept.setCell w1 a v) (fun k e hk => by subst e; omega)
theorem mrow_len (bs : List Int) (n : Nat) (h : bs.length = (n + 7) / 8) : (mrow bs n).length = n / 8 + 1 := by
  unfold mrow
  split
  · rw [List.length_append, h]; simp; omega
  · rw [h]; omega
theorem mput_len (bs : List Int) (n : Nat) (bit : Bool) (h : bs.length = (n + 7) / 8) : (mput bs n bit).length = n / 8 + 1 := by
  unfold mput
  split
  · rw [List.length_set]; exact mrow_len bs n h
  · exact mrow_len bs n h
theorem mid_grown {w w2 w5 : World} {base n m : Nat} {bs : List Int} {v v' : Value} {o : Obj} (hb : Below w.heap.size w w2) (hB0 : w2.heap[w.heap.size]? = some (.cells #[.int .i64 (n : Int), v] 60 (0, 0))) (hB1 : w2.heap[w.heap.size + 1]? = some (.cells #[.int .i64 0, .slice none 0 0] 60 (0, 0)))
    (hlt : ∀ k, v.ownBlock = some k → base ≤ k ∧ k < w.heap.size) (hg : (w2.alloc o).grownBy w5 v.ownBlock) (hm : bs.length = m) (hr : mrow bs n = bs ++ [0]) (hown : Own w5 base 5 1 v' (m + 1) (bs.map (.int .u8) ++ [.int .u8 0])) (hat : v'.ownBlock = v.ownBlock ∨ ∃ b, v'.ownBlock = some b ∧ (w2.alloc o).heap.size ≤ b) :
    w5.heap[w.heap.size]? = some (.cells #[.int .i64 (n : Int), v] 60 (0, 0)) ∧ MidP base n bs v w (w5.setCell ⟨w.heap.size, 1, none⟩ v') := by
  have k0 := lt_of_blk hB0
  have k1 := lt_of_blk hB1
  have n0 : v.ownBlock ≠ some w.heap.size := fun e => by have := (hlt _ e).2; omega
  have n1 : v.ownBlock ≠ some (w.heap.size + 1) := fun e => by have := (hlt _ e).2; omega
  have hsz : w2.heap.size ≤ (w2.alloc o).heap.size := by simp
  have h0 := (hg.block w.heap.size (by omega) (fun e => n0 e.symm)).trans ((Below.heap_alloc w2 o _ k0).trans hB0)
  have h1 := (hg.block (w.heap.size + 1) (by omega) (fun e => n1 e.symm)).trans ((Below.heap_alloc w2 o _ k1).trans hB1)
  refine ⟨h0, v', ?_, ?_, ?_, ?_, ?_⟩
  · have := heap_setCell_at (k := 1) h0 v'
    simpa using this
  · rw [Below.heap_setCell _ _ _ _ (by simp)]; exact h1
  · rw [hr, List.length_append, hm, List.map_append]
    exact hown.set_other (hown.blk_ne h0 (by decide)) _
  · exact kept_set (((Kept.of_below hb).trans (Kept.of_below (below_new w2 o)) (fun _ e _ => e)).trans (Kept.of_grown hg) (fun k e _ => e.symm)) (Nat.le_refl _) _
  · rcases hat with e | ⟨b, e, h⟩
    · exact .inl e
    · exact .inr ⟨b, e, by have := hb.size; omega⟩
theorem mput_any (base n : Nat) (bs : List Int) (bit : Bool) (v : Value) (w : World) (hn : n ≤ 100000000) (hlen : bs.length = (n + 7) / 8) (h : Own w base 5 1 v bs.length (bs.map (.int .u8))) (hb : base ≤ w.heap.size) :
    Calls Tryz.prog 154 #[.agg #[.int .i64 (n : Int), v], .bool bit] w (MputP base n bs bit v w) := by
  obtain ⟨a0, c0, rfl⟩ := h.form
  have H := Aside.mk h
  have hlt := Aside.mk h.lt
  clear h
  generalize hm : bs.length = m at *
  have HM := Aside.mk hm
  have HLEN := Aside.mk hlen
  have hm8 : m ≤ 100000000 := by omega
  clear hm hlen
  go_enter Tryz.func154, Tryz.ntmps154
  go_upto_if 8 with fail
  go_cut [4] from 8 to 13 (fun s4 wx => s4 = .pointer (some ⟨w.heap.size + 1, 0, none⟩) ∧ MidP base n bs (.slice a0 m c0) w wx)
  case first =>
    have hB0 : ((w.alloc (.cells #[.int .i64 (n : Int), .slice a0 m c0] 60)).alloc (.cells #[.int .i64 0, .slice none 0 0] 60)).heap[w.heap.size]? = some (.cells #[.int .i64 (n : Int), .slice a0 m c0] 60 (0, 0)) := by
      rw [Below.heap_alloc _ _ _ (by simp)]; exact heap_alloc_new _ _
    have hB1 : ((w.alloc (.cells #[.int .i64 (n : Int), .slice a0 m c0] 60)).alloc (.cells #[.int .i64 0, .slice none 0 0] 60)).heap[w.heap.size + 1]? = some (.cells #[.int .i64 0, .slice none 0 0] 60 (0, 0)) := by
      have := heap_alloc_new (w.alloc (.cells #[.int .i64 (n : Int), .slice a0 m c0] 60)) (.cells #[.int .i64 0, .slice none 0 0] 60)
      simpa using this
    have hB : Below w.heap.size w ((w.alloc (.cells #[.int .i64 (n : Int), .slice a0 m c0] 60)).alloc (.cells #[.int .i64 0, .slice none 0 0] 60)) := ((Below.refl _ _).alloc (Nat.le_refl _) _).alloc (by simp) _
    have HB := Aside.mk (And.intro hB (And.intro hB0 hB1))
    clear hB hB0 hB1
    by_cases h8 : n % 8 = 0
    · have hb8 : ((n : Int) % 8 == 0) = true := by simp; omega
      have HR : Aside (mrow bs n = bs ++ [0]) := ⟨by simp [mrow, h8]⟩
      clear h8
      go_wp2_with (at_builtin; refine wpList_app _ rfl _ _ 43 43 rfl base 5 (.int .u8 0) 1 1 Tryz.underlying43 u8info rfl _ _ _ rfl ((H.out.below HB.out.1).alloc _) _ 1 [.int .u8 0] rfl (src_one Tryz.underlying43 _ _ _ rfl (by simp)) (by unfold maxLen; omega) (by omega) (by simp; omega) ?_)
      intro v' w5 hown' hgrow _ hat
      obtain ⟨a5, c5, rfl⟩ := hown'.form
      have hh := mid_grown HB.out.1 HB.out.2.1 HB.out.2.2 hlt.out hgrow HM.out HR.out hown' (by simpa using hat)
      have hc5 := cell_blk (k := 1) hh.1
      have hf5 := frozen_blk (k := 1) hh.1
      simp at hc5
      have HH := Aside.mk hh.2
      clear hh hown' hgrow hat
      go_wp2_with (fail)
      go_meet
      exact ⟨rfl, HH.out⟩
    · have hb8 : ((n : Int) % 8 == 0) = false := by simp; omega
      have HR : Aside (mrow bs n = bs) := ⟨by simp [mrow, h8]⟩
      clear h8
      go_wp2_with (fail)
      go_meet
      refine ⟨rfl, _, HB.out.2.1, HB.out.2.2, ?_, Kept.of_below HB.out.1, .inl rfl⟩
      rw [HR.out, HM.out]
      exact H.out.below HB.out.1
  case rest =>
    obtain ⟨rfl, v1, hB0, hB1, ho, hk, hat⟩ := hcut
    have nb0 : v1.ownBlock ≠ some w.heap.size := ho.blk_ne hB0 (by decide)
    have nb1 : v1.ownBlock ≠ some (w.heap.size + 1) := ho.blk_ne hB1 (by decide)
    have hml := mrow_len bs n (by rw [HM.out, HLEN.out])
    have c00 := cell_blk (k := 0) hB0
    have c01 := cell_blk (k := 1) hB0
    have f00 := frozen_blk (k := 0) hB0
    have f01 := frozen_blk (k := 1) hB0
    have c10 := cell_blk (k := 0) hB1
    have c11 := cell_blk (k := 1) hB1
    have f10 := frozen_blk (k := 0) hB1
    have f11 := frozen_blk (k := 1) hB1
    simp at c00 c01 c10 c11
    have HO := Aside.mk ho
    have HK := Aside.mk hk
    have HAT := Aside.mk hat
    have NB := Aside.mk (And.intro nb0 nb1)
    have HML := Aside.mk hml
    clear hB0 hB1 hk hat nb0 nb1 hml
    cases bit
    · obtain ⟨a1, c1, rfl⟩ := ho.form
      clear ho
      go_wp2
      refine bodyPost_ret (v := .agg #[.int .i64 ((n : Int) + 1), .slice a1 (mrow bs n).length c1]) (by simp [results, Tryz.results154, go_sem, c10, c11]) rfl ?_
      have e1 : mput bs n false = mrow bs n := rfl
      refine ⟨_, rfl, ?_, ?_, HAT.out⟩
      · rw [e1]
        exact (((HO.out.set_other NB.out.1 _).set_other NB.out.2 _).set_other NB.out.2 _)
      · exact kept_set (kept_set (kept_set HK.out (Nat.le_refl _) _) (by simp) _) (by simp) _
    · obtain ⟨g, off, cap, rfl, hg1, hg2, hcap, hcap2, hcells, hfz⟩ := ho.some_ (by rw [HML.out]; omega)
      have hx := hcells (n / 8) (.int .u8 ((mrow bs n).getD (n / 8) 0)) (by
        have : n / 8 < (mrow bs n).length := by rw [HML.out]; omega
        simp [List.getElem?_eq_getElem this])
      have hfx := hfz (off + n / 8)
      have hnl : n / 8 < (mrow bs n).length := by rw [HML.out]; omega
      generalize hl : (mrow bs n).length = len at *
      generalize hxx : (mrow bs n).getD (n / 8) 0 = x at *
      have HX := Aside.mk (And.intro hl hxx)
      clear hcells hfz hl hxx ho
      go_wp2
      have hg0 : g ≠ w.heap.size := fun e => NB.out.1 (by subst e; rfl)
      have hg1' : g ≠ w.heap.size + 1 := fun e => NB.out.2 (by rw [← e]; rfl)
      go_region
      go_wp2
      refine bodyPost_ret (v := .agg #[.int .i64 ((n : Int) + 1), .slice (some ⟨g, off, none⟩) len cap]) (by simp [results, Tryz.results154, go_sem, c10, c11]) rfl ?_
      have e1 : mput bs n true = (mrow bs n).set (n / 8) (morb x (n % 8)) := by unfold mput; rw [if_pos rfl, HX.out.2]
      refine ⟨_, rfl, ?_, ?_, HAT.out⟩
      · rw [e1, List.length_set, HX.out.1, List.map_set]
        have h1 := HO.out.stored (n / 8) (.int .u8 (morb x (n % 8)))
        exact Own.drewN (((h1.set_other NB.out.1 _).set_other NB.out.2 _).set_other NB.out.2 _) 1
      · have h1 : Kept (fun b => (Value.slice a0 m c0).ownBlock = some b) w (wc.setCell ⟨g, off + n / 8, none⟩ (.int .u8 (morb x (n % 8)))) := HK.out.trans (Kept.setCell _ _ _) (fun k e hk => by
          simp only at e
          subst e
          rcases HAT.out with h | ⟨b, h, h2⟩
          · rw [← h]; rfl
          · have h3 : (⟨k, off, none⟩ : Addr).block = b := by simpa [Value.ownBlock] using h
            have h4 : (⟨k, off, none⟩ : Addr).block = k := rfl
            omega)
        exact (kept_set (kept_set (kept_set h1 (Nat.le_refl _) _) (by simp) _) (by simp) _).trans (Kept.of_below (below_drewN _ _ 1)) (fun _ e _ => e)
end Go.Proofs.YtmhjjhaipcgbiaaGreat


namespace Go.Proofs.YtmhjjhaipcgbiaaGreat
open Go.RowKit
set_option linter.unusedVariables false
set_option linter.unusedSimpArgs false
set_option maxRecDepth 100000
set_option maxHeartbeats 1000000
def mofR : List Bool → List Int
  | [] => []
  | b :: r => mput (mofR r) r.length b
def mof (l : List Bool) : List Int := mofR l.reverse
theorem mof_snoc (l : List Bool) (b : Bool) : mof (l ++ [b]) = mput (mof l) l.length b := by simp [mof, mofR]
theorem mofR_len (l : List Bool) : (mofR l).length = (l.length + 7) / 8 := by
  induction l with
  | nil => rfl
  | cons b r ih =>
    rw [mofR, mput_len _ _ _ ih, List.length_cons]
    omega
theorem mof_len (l : List Bool) : (mof l).length = (l.length + 7) / 8 := by rw [mof, mofR_len, List.length_reverse]
def MofIn (l : List Bool) (i : Nat) (w wr : World) : Prop :=
  ∃ v', wr.heap[w.heap.size + 1]? = some (.cells #[.int .i64 (i : Int), v'] 60 (0, 0)) ∧ wr.heap[w.heap.size]? = some (.cells #[.int .i64 0, .slice none 0 0] 60 (0, 0)) ∧
    Own wr w.heap.size 5 1 v' (mof (l.take i)).length ((mof (l.take i)).map (.int .u8)) ∧ Below w.heap.size w wr
def MofP (l : List Bool) (w : World) (e : Ending) (w' : World) : Prop :=
  ∃ v', e = .returned (.agg #[.int .i64 (l.length : Int), v']) ∧ Own w' w.heap.size 5 1 v' (mof l).length ((mof l).map (.int .u8)) ∧ Below w.heap.size w w'
theorem mof_put {wr w3 : World} {base b m : Nat} {v' : Value} {xs cs : List Value} (hB : wr.heap[b]? = some (.cells cs.toArray 60 (0, 0))) (ho : Own wr base 5 1 v' m xs) (hk : Kept (fun b => v'.ownBlock = some b) wr w3) : w3.heap[b]? = some (.cells cs.toArray 60 (0, 0)) :=
  (hk.block b (lt_of_blk hB) (ho.blk_ne hB (by decide))).trans hB
theorem mof_step {l : List Bool} {i : Nat} {w wr w3 : World} {v' v3 : Value} (hi : i < l.length) (b1 : w3.heap[w.heap.size + 1]? = some (.cells #[.int .i64 (i : Int), v'] 60 (0, 0))) (b0 : w3.heap[w.heap.size]? = some (.cells #[.int .i64 0, .slice none 0 0] 60 (0, 0)))
    (ho : ∀ k, v'.ownBlock = some k → w.heap.size ≤ k) (hb : Below w.heap.size w wr) (hk : Kept (fun b => v'.ownBlock = some b) wr w3) (h3 : Own w3 w.heap.size 5 1 v3 (mput (mof (l.take i)) i l[i]).length ((mput (mof (l.take i)) i l[i]).map (.int .u8))) :
    MofIn l (i + 1) w ((w3.setCell ⟨w.heap.size + 1, 0, none⟩ (.int .i64 ((i : Int) + 1))).setCell ⟨w.heap.size + 1, 1, none⟩ v3) := by
  have e : mof (l.take (i + 1)) = mput (mof (l.take i)) i l[i] := by
    rw [List.take_succ_eq_append_getElem hi, mof_snoc, List.length_take, Nat.min_eq_left (by omega)]
  have n1 : v3.ownBlock ≠ some (w.heap.size + 1) := h3.blk_ne b1 (by decide)
  refine ⟨v3, ?_, ?_, ?_, ?_⟩
  · have := heap_setCell_at (k := 1) (heap_setCell_at (k := 0) b1 (.int .i64 ((i : Int) + 1))) v3
    simpa using this
  · rw [Below.heap_setCell _ _ _ _ (by simp), Below.heap_setCell _ _ _ _ (by simp)]; exact b0
  · rw [e]; exact (h3.set_other n1 _).set_other n1 _
  · exact ((hb.trans (hk.to_below hb.size ho)).setCell (by simp) _).setCell (by simp) _
theorem mof_any (l : List Bool) (v : Value) (w : World) (hl : l.length ≤ 100000000) (h : Rd w 1 v l.length (l.map .bool)) : Calls Tryz.prog 90 #[v] w (MofP l w) := by
  obtain ⟨a, cap, rfl⟩ := h.form
  have HR := Aside.mk h
  clear h
  generalize hn : l.length = n at *
  have HN := Aside.mk hn
  clear hn
  go_enter Tryz.func90, Tryz.ntmps90
  go_wp2
  go_loopw [5, 9] (fun bv iv wr => ∃ i : Nat, i ≤ n ∧ iv = .int .i64 (i : Int) ∧ Aside (MofIn l i w wr)) (fun _ iv _ => n - (intOf iv).toNat)
  case atStart =>
    refine ⟨0, by omega, rfl, ⟨.slice none 0 0, ?_, ?_, Own.nil _ _ _ _, ((Below.refl _ _).alloc (Nat.le_refl _) _).alloc (by simp) _⟩⟩
    · have := heap_alloc_new (w.alloc (.cells #[.int .i64 0, .slice none 0 0] 60)) (.cells #[.int .i64 0, .slice none 0 0] 60)
      simpa using this
    · rw [Below.heap_alloc _ _ _ (by simp)]; exact heap_alloc_new _ _
  case round =>
    obtain ⟨i, hi, rfl, hp⟩ := hrel
    obtain ⟨v', hB1, hB0, ho, hb⟩ := hp.out
    have hs := hb.size
    have c10 := cell_blk (k := 0) hB1
    have c11 := cell_blk (k := 1) hB1
    have f10 := frozen_blk (k := 0) hB1
    have f11 := frozen_blk (k := 1) hB1
    have c00 := cell_blk (k := 0) hB0
    have c01 := cell_blk (k := 1) hB0
    have f00 := frozen_blk (k := 0) hB0
    have f01 := frozen_blk (k := 1) hB0
    simp at c10 c11 c00 c01
    by_cases hlt : i < n
    · have hil : i < l.length := by rw [HN.out]; exact hlt
      obtain ⟨_, a', cap', hsl, _, _, _, hcells⟩ := HR.out
      simp only [Value.slice.injEq, true_and] at hsl
      obtain ⟨rfl, rfl⟩ := hsl
      obtain ⟨g, off, rfl, hc⟩ := hcells i (.bool l[i]) (by simp [List.getElem?_eq_getElem hil])
      have hc2 := (hb.cell (p := ⟨g, off + i, none⟩) (World.block_lt_of_cell? _ _ hc)).trans hc
      obtain ⟨a1, c1, rfl⟩ := ho.form
      have HO := Aside.mk (And.intro hB1 (And.intro hB0 (And.intro ho hb)))
      have HCC := Aside.mk hcells
      clear hcells hc ho hB1 hB0 hb
      generalize hbb : l[i] = bit at *
      have HBIT := Aside.mk hbb
      clear hbb
      go_wp2_with (go_at_call 154; refine (mput_any w.heap.size i (mof (l.take i)) bit _ _ (by omega) (by rw [mof_len, List.length_take]; omega) HO.out.2.2.1 hs).mono ?_; rintro e w3 ⟨v3, rfl, ho3, hk3, hat3⟩; obtain ⟨a3, c3, rfl⟩ := ho3.form; have H3 := Aside.mk (And.intro ho3 (And.intro hk3 hat3)); have b1 := mof_put HO.out.1 HO.out.2.2.1 hk3; have b0 := mof_put HO.out.2.1 HO.out.2.2.1 hk3; have d10 := cell_blk (k := 0) b1; have d11 := cell_blk (k := 1) b1; have e10 := frozen_blk (k := 0) b1; have e11 := frozen_blk (k := 1) b1; simp at d10 d11; have BB := Aside.mk (And.intro b1 b0); clear ho3 hk3 hat3 b1 b0)
      go_roundw
      case rel =>
        exact ⟨i + 1, by omega, by go_num, ⟨mof_step hil BB.out.1 BB.out.2 (fun k e => (HO.out.2.2.1.lt k e).1) HO.out.2.2.2 H3.out.2.1 (by rw [HBIT.out]; exact H3.out.1)⟩⟩
      case measure => simp [intOf]; omega
    · obtain rfl : i = n := by omega
      have HO := Aside.mk (And.intro hB1 (And.intro hB0 (And.intro ho hb)))
      obtain ⟨a1, c1, rfl⟩ := ho.form
      clear hB1 hB0 ho hb
      go_wp2_with (fail)
      refine bodyPost_ret (v := .agg #[.int .i64 (i : Int), .slice a1 (mof (l.take i)).length c1]) (by simp [results, Tryz.results90, go_sem, c00, c01]) rfl ?_
      have e1 : l.take i = l := by rw [← HN.out]; simp
      refine ⟨_, by rw [HN.out], ?_, ?_⟩
      · have h0 := HO.out.2.2.1.blk_ne HO.out.2.1 (by decide)
        have := (HO.out.2.2.1.set_other (a := ⟨w.heap.size, 0, none⟩) h0 (.int .i64 (i : Int))).set_other (a := ⟨w.heap.size, 1, none⟩) h0 (.slice a1 (mof (l.take i)).length c1)
        rw [e1] at this ⊢
        exact this
      · exact (HO.out.2.2.2.setCell (Nat.le_refl _) _).setCell (Nat.le_refl _) _
end Go.Proofs.YtmhjjhaipcgbiaaGreat
