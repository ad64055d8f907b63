/- Texts of this claim, one behind the other: InR, Zof. -/
import Derived.Test.YtmhjjhaipcgbiaaGreatZemP35
import Derived.Test.YtmhjjhaipcgbiaaGreatZemP18
import Derived.Test.YtmhjjhaipcgbiaaGreatZemP36

namespace Go.Proofs.YtmhjjhaipcgbiaaGreat
open Go.RowKit
set_option linter.unusedVariables false
section
variable {P : Program} {ops : Array Oper} {md : Region.Mode}
def Only (Q : Exit → Act → World → Prop) : Exit → Act → World → Prop := fun e a w => e = .normal ∧ Q .normal a w
def plainOp (o : Oper) : Bool := match o.op with | .defer _ => false | _ => true
theorem plainOp_ne {o : Oper} (h : plainOp o = true) : ∀ c, o.op ≠ .defer c := fun c e => by unfold plainOp at h; rw [e] at h; cases h
theorem upon_round {l n : Nat} {o : Oper} {a : Act} {next next' : Act → World → Prop} {Q : Exit → Act → World → Prop} {r : Result Next} (hn : ∀ a w, next a w → next' a w) (h : o.upon P a next (Only Q) r) : o.uponIn (Fence.wide.inRound l) n P a next' Q r := by
  cases r with
  | ok x w' =>
    cases x with
    | value v => exact hn _ _ h
    | skip => exact hn _ _ h
    | defer d => exact hn _ _ h
    | enter f args =>
      refine ⟨fun e => (by cases e), CallsIn.inRound l (callsIn_wide.2 (Calls.mono h ?_))⟩
      intro e w'' he
      cases e with
      | returned v => exact hn _ _ he
      | panicked c => exact absurd he.1 (by simp)
      | outgrown => exact absurd he (by unfold LetsOut Only; simp)
    | row row args => exact ⟨fun e => (by cases e), fun c cs _ => let ⟨v, w', r, s⟩ := h c cs; ⟨v, w', hn _ _ r, stepsIn_wide.2 s⟩⟩
    | _ => exact h.elim
  | halt x w' =>
    cases x with
    | panic v => exact absurd h.1 (by simp)
    | _ => exact h.elim
theorem wpOp_round {l n i : Nat} {K K' : Act → World → Prop} {Q : Exit → Act → World → Prop} {a : Act} {w : World} (hp : ops.all plainOp = true) (hn : ∀ a w, K a w → K' a w) (h : wpOp P ops (Only Q) i K a w) : wpOpIn (Fence.wide.inRound l) n P ops Q i K' a w := by
  unfold wpOp at h
  unfold wpOpIn
  cases ho : ops[i]? with
  | none => rw [ho] at h; exact hn _ _ h
  | some o =>
    rw [ho] at h
    dsimp only at h ⊢
    have hpo : plainOp o = true := by
      obtain ⟨hi, rfl⟩ := Array.getElem?_eq_some_iff.1 ho
      exact Array.all_eq_true.1 hp i hi
    split
    · rename_i hw
      rw [if_pos hw] at h
      rcases h with h | ⟨_, a2, w2, h2⟩
      · refine ⟨fun _ _ => trivial, ?_⟩
        rw [show (Fence.wide.inRound l).round = some l from rfl, Oper.semAt_some l _ o (plainOp_ne hpo)]
        exact upon_round hn h
      · exact absurd h2.1 (by simp)
    · rename_i hw
      rw [if_neg hw] at h
      exact ⟨fun _ _ => trivial, hn _ _ h⟩
theorem wpAny_round {l n : Nat} {Q : Exit → Act → World → Prop} (hp : ops.all plainOp = true) : ∀ (fuel : Nat) (m : Array Bool) (a : Act) (w : World), wpAny P md ops (Only Q) fuel m a w → wpAnyIn (Fence.wide.inRound l) n P md ops Q fuel m a w
  | 0, m, a, w, h => ⟨h.1, h.2.2⟩
  | fuel + 1, m, a, w, h => ⟨fun e => (h.1 e).2, fun i hi => wpOp_round hp (fun a w => wpAny_round hp fuel _ a w) (h.2 i hi)⟩
theorem wpIn_regionE {l d id : Nat} {Q : Exit → Act → World → Prop} {a : Act} {w : World} (S : World → Prop) (z n : Nat) (hm : P.follows .mixedOrders = true) (hn : ops.size = n) (hp : ops.all plainOp = true) (h : wpE P .any ops (Only Q) S z n (Array.replicate n false) a w.drew) : (Code.region id ops true).wpIn (Fence.wide.inRound l) d P Q a w := by
  subst hn; exact wpIn_region_any hm (wpAny_round hp _ _ _ _ h.any)
theorem wp_regionO {id : Nat} {Q : Exit → Act → World → Prop} {a : Act} {w : World} (S : World → Prop) (z n : Nat) (hm : P.follows .mixedOrders = true) (hn : ops.size = n) (h : wpE P .any ops (Only Q) S z n (Array.replicate n false) a w.drew) : (Code.region id ops true).wp P Q a w :=
  wp_mono (wp_regionE S z n hm hn h) (fun e a w q => by obtain ⟨rfl, h⟩ := q; exact h)
end
end Go.Proofs.YtmhjjhaipcgbiaaGreat


namespace Go.Proofs.YtmhjjhaipcgbiaaGreat
open Go.RowKit Go.Shelf
set_option linter.unusedVariables false
set_option linter.unusedSimpArgs false
set_option maxRecDepth 100000
set_option maxHeartbeats 1000000
attribute [local go_sem] Oper.semAt_some
theorem zof_any (c : Col) (hc : COK c) (hs : Mod19 c) (hz : checkC c = 0) (B D E X : SL) (vals : List Value) (hDa : D.a = none ∨ ∃ g off, D.a = some ⟨g, off, none⟩) (w : World) (h : RdC w c B D E X vals) :
    Calls Tryz.prog 38 #[colV c B D E X] w (fun e w' => ∃ F L : SL, e = .returned (.tuple #[zV c.k c.s (zoneC c) F L, .int .i64 0]) ∧ ZOwn (zoneC c) F L w.heap.size w' ∧ Below w.heap.size w w') := by
  have hcn := check_zero hz
  have hn20 := hs.1 hcn.2.2.1
  have hn0 : 0 ≤ c.n := by obtain ⟨_, hm, hn, _⟩ := hcn; have := ((maskOK_iff hc.bits).1 hm).1; omega
  obtain ⟨N, hN⟩ : ∃ N : Nat, c.n = (N : Int) := ⟨c.n.toNat, by omega⟩
  have hvo := vals_ok hc hz
  rw [show c.n.toNat = N by omega] at hvo
  have HZC := Aside.mk (show zoneC c = zAt c N by unfold zoneC zAt; rw [show c.n.toNat = N by omega])
  have HST := Aside.mk (fun i (hi : i < N) => zAt_step hs hN hi hvo)
  have HGD := Aside.mk (fun i (hi : i ≤ N) => zAt_good hs hN hi hvo)
  have HV := Aside.mk (fun i (hi : i < N) => hvo (valC c i) (List.mem_map.2 ⟨i, List.mem_range.2 hi, rfl⟩))
  have HN20 := Aside.mk (show N ≤ 20000 by omega)
  have HOK := Aside.mk (show 1 ≤ c.k ∧ c.k ≤ 16 by have := hcn.1; unfold okType at this; simp at this; omega)
  have hck := Aside.mk (fun (w2 : World) (hb : Below w.heap.size w w2) => check_any c hc B D E X vals w2 (h.below hb))
  have HE := Aside.mk (fun Bs => each1_any c hc B D E X vals hz hDa Bs N hN)
  have hea := Aside.mk (fun w2 => each_any c B D E X w2)
  rw [hz] at hck
  have HCOL := Aside.mk (fun W (hb : Below w.heap.size w W) => h.below hb)
  have HN := Aside.mk hN
  clear h hc hs hz hcn hn20 hn0 hvo hDa hN
  obtain ⟨t1, t2, t3, t4⟩ := below_two w (.cells #[.int .i64 c.k, .int .i64 c.s, .int .i64 c.n, .int .i64 c.m, .slice B.a c.bits.length B.c, .slice D.a c.data.length D.c, .slice E.a c.ends.length E.c, .slice X.a c.words.length X.c] 63 (0, 0)) (.cells #[.int .i64 0, .int .i64 0, .int .i64 0, .int .i64 0, .int .i64 0, .bool false, .int .u64 0, .int .u64 0, .slice none 0 0, .slice none 0 0] 79 (0, 0))
  have hq : ∀ W', ((w.alloc (.cells #[.int .i64 c.k, .int .i64 c.s, .int .i64 c.n, .int .i64 c.m, .slice B.a c.bits.length B.c, .slice D.a c.data.length D.c, .slice E.a c.ends.length E.c, .slice X.a c.words.length X.c] 63)).alloc (.cells #[.int .i64 0, .int .i64 0, .int .i64 0, .int .i64 0, .int .i64 0, .bool false, .int .u64 0, .int .u64 0, .slice none 0 0, .slice none 0 0] 79)) = W' → Below w.heap.size w W' ∧ W'.heap.size = w.heap.size + 2 ∧ W'.heap[w.heap.size]? = some (.cells #[.int .i64 c.k, .int .i64 c.s, .int .i64 c.n, .int .i64 c.m, .slice B.a c.bits.length B.c, .slice D.a c.data.length D.c, .slice E.a c.ends.length E.c, .slice X.a c.words.length X.c] 63 (0, 0)) ∧ W'.heap[w.heap.size + 1]? = some (.cells #[.int .i64 0, .int .i64 0, .int .i64 0, .int .i64 0, .int .i64 0, .bool false, .int .u64 0, .int .u64 0, .slice none 0 0, .slice none 0 0] 79 (0, 0)) := fun W' e => by rw [← e]; exact ⟨t1, t2, t3, t4⟩
  clear t1 t2 t3 t4
  dsimp only [colV] at hck hea ⊢
  refine calls_of_marks Tryz.func38 rfl ?_; simp only [Tryz.ntmps38, List.size_toArray, List.length_cons, List.length_nil, Nat.reduceAdd, Nat.reduceSub, Array.replicate_succ, Array.replicate_zero, List.push_toArray, List.append_toArray, List.nil_append, List.cons_append]
  go_upto_region 1 with fail
  generalize ((w.alloc (.cells #[.int .i64 c.k, .int .i64 c.s, .int .i64 c.n, .int .i64 c.m, .slice B.a c.bits.length B.c, .slice D.a c.data.length D.c, .slice E.a c.ends.length E.c, .slice X.a c.words.length X.c] 63)).alloc (.cells #[.int .i64 0, .int .i64 0, .int .i64 0, .int .i64 0, .int .i64 0, .bool false, .int .u64 0, .int .u64 0, .slice none 0 0, .slice none 0 0] 79)) = w2 at *
  obtain ⟨t1, t2, t3, t4⟩ := hq w2 rfl
  have B2 := Aside.mk t1
  have S2 := Aside.mk t2
  have HX := Aside.mk t3
  have HR := Aside.mk t4
  obtain ⟨c0, c1, c2, c3, c4, c5, c6, c7⟩ := box8 t3
  clear hq t1 t2 t3 t4
  go_upto_region 2 with (go_at_call 82; refine (hck.out _ B2.out).mono ?_; rintro e w3 ⟨rfl, hb⟩; have HB3 := Aside.mk hb; clear hb)
  replace HX := Aside.mk ((HB3.out.block _ (lt_of_blk HX.out)).trans HX.out)
  replace HR := Aside.mk ((HB3.out.block _ (lt_of_blk HR.out)).trans HR.out)
  clear c0 c1 c2 c3 c4 c5 c6 c7
  obtain ⟨c0, c1, c2, c3, c4, c5, c6, c7⟩ := box8 HX.out
  go_upto_region 5 with fail
  have hz4 := heap_alloc_new w3 (.cells #[.int .i64 c.k, .int .i64 c.s, .int .i64 0, .int .i64 0, .int .i64 0, .bool false, .int .u64 0, .int .u64 0, .slice none 0 0, .slice none 0 0] 79)
  have hb4 := below_new w3 (.cells #[.int .i64 c.k, .int .i64 c.s, .int .i64 0, .int .i64 0, .int .i64 0, .bool false, .int .u64 0, .int .u64 0, .slice none 0 0, .slice none 0 0] 79)
  generalize w3.alloc (.cells #[.int .i64 c.k, .int .i64 c.s, .int .i64 0, .int .i64 0, .int .i64 0, .bool false, .int .u64 0, .int .u64 0, .slice none 0 0, .slice none 0 0] 79) = w4 at *
  have B4 := Aside.mk (below_chain B2.out (below_chain HB3.out hb4))
  replace HX := Aside.mk ((hb4.block _ (lt_of_blk HX.out)).trans HX.out)
  replace HR := Aside.mk ((hb4.block _ (lt_of_blk HR.out)).trans HR.out)
  have HZ := Aside.mk hz4
  have HZW := Aside.mk (show w.heap.size + 2 ≤ w3.heap.size ∧ w3.heap.size < w4.heap.size by have := HB3.out.size; have := S2.out; have := lt_of_blk hz4; omega)
  clear c0 c1 c2 c3 c4 c5 c6 c7 hz4 hb4 B2 HB3 S2 hck
  obtain ⟨c0, c1, c2, c3, c4, c5, c6, c7⟩ := box8 HX.out
  go_wp2_with (go_at_call 83; refine (hea.out _).mono ?_; rintro e w5 ⟨rfl, hb5, hbx⟩; have B5 := Aside.mk (below_chain B4.out hb5); replace HX := Aside.mk ((hb5.block _ (lt_of_blk HX.out)).trans HX.out); replace HR := Aside.mk ((hb5.block _ (lt_of_blk HR.out)).trans HR.out); replace HZ := Aside.mk ((hb5.block _ (lt_of_blk HZ.out)).trans HZ.out); have HBX := Aside.mk hbx; clear hb5 hbx)
  have HS45 := Aside.mk (lt_of_blk HBX.out)
  clear c0 c1 c2 c3 c4 c5 c6 c7
  refine wp_seq (gf := 150) (lb := #[.pointer (some ⟨w4.heap.size, 0, none⟩)]) rfl (enters_of Tryz.func150 (by kernel_rfl) rfl) (HE.out w4.heap.size) (fun _ _ => rfl)
    (ZofI c B D E X vals w w5.heap.size w.heap.size (w.heap.size + 1) w3.heap.size w4.heap.size) (fun _ _ => False)
    (fun k A h => ⟨HCOL.out A h.bel, h.bx⟩)
    (fun k A A' hk h => h.moved ⟨B5.out.size, by have := HZW.out; omega, h.bel.size⟩ (by have := HZW.out; have := HS45.out; omega) (hk.mono (fun k e _ => .inl e))) (fun _ _ _ _ h => h)
    (fun W hb hs => ⟨below_chain B5.out hb, (hb.block _ (lt_of_blk HX.out)).trans HX.out, (hb.block _ (lt_of_blk HR.out)).trans HR.out, (hb.block _ (lt_of_blk HBX.out)).trans HBX.out, ⟨none, 0⟩, ⟨none, 0⟩, (hb.block _ (lt_of_blk HZ.out)).trans HZ.out, StayM.nil _ _ _, StayM.nil _ _ _⟩) ?round ?done ?stop
  case stop => exact fun _ _ h _ => h.elim
  case round =>
    rintro l i v W hi hI ⟨ta, tc, rfl, hrd⟩ hlt hmk
    have HST := Aside.mk (HST.out i hi)
    have HGD := Aside.mk (HGD.out i (Nat.le_of_lt hi))
    have HVV := Aside.mk (HV.out i hi)
    have HI := Aside.mk hI
    have HRV := Aside.mk (show ∀ F L : SL, W.heap[w3.heap.size]? = some (.cells #[.int .i64 c.k, .int .i64 c.s, .int .i64 ((zAt c i).n : Int), .int .i64 ((zAt c i).nulls : Int), .int .i64 ((zAt c i).odd : Int), .bool (zAt c i).has, .int .u64 ((zAt c i).least : Int), .int .u64 ((zAt c i).most : Int), .slice F.a (zAt c i).first.length F.c, .slice L.a (zAt c i).last.length L.c] 79 (0, 0)) → StayM w5.heap.size w3.heap.size (valC c i).text ⟨ta, tc⟩ W from fun F L hz => StayM.new hrd hmk hz)
    have HLT5 := Aside.mk hlt
    have HI20 := Aside.mk (show i ≤ 20000 by have := HN20.out; omega)
    clear hI hrd hmk hlt HN20 HE hea
    dsimp only [valV]
    generalize hz' : zAt c (i + 1) = z' at *
    have HZ' := Aside.mk hz'
    clear hz'
    gi_wp2
    refine ⟨fun k hk => Below.heap_alloc W _ k (by have := HLT5.out; omega), fun W₂ hk hsz => ?_⟩
    have hWsz := HLT5.out
    have hsz2 : W₂.heap.size = W.heap.size + 1 := by rw [hsz]; simp
    have hkW : Kept (fun k => (k = w5.heap.size ∨ k = w5.heap.size + 1) ∨ W.heap.size ≤ k) W W₂ := ((Kept.of_below ((Below.refl _ W).alloc (Nat.le_refl _) _)).trans hk (fun _ h _ => h)).mono (fun k e _ => .inl e)
    have HI2 := Aside.mk (HI.out.moved ⟨B5.out.size, by have := HZW.out; omega, HI.out.bel.size⟩ (by have := HZW.out; have := HS45.out; omega) hkW)
    have hvb := (hk.block W.heap.size (by simp) (by omega)).trans (heap_alloc_new W (.cells #[.int .u64 ((valC c i).bits : Int), .slice ta (valC c i).text.length tc, .bool (valC c i).null] 145))
    have HTV : Aside (StayM w5.heap.size w3.heap.size (valC c i).text ⟨ta, tc⟩ W₂) := Aside.mk (by
      obtain ⟨F0, L0, hz0, _, _⟩ := HI.out.zb
      exact (HRV.out F0 L0 hz0).step (hkW.mono (fun k e _ => e.imp id .inr)))
    have HVB := Aside.mk hvb
    have HS2 := Aside.mk hsz2
    clear hk hsz hWsz hsz2 hkW hvb HRV
    obtain ⟨F, L, hzb, hF, hL⟩ := HI2.out.zb
    have HZB := Aside.mk hzb
    have HFL := Aside.mk (And.intro hF hL)
    clear hzb hF hL
    generalize hvc : valC c i = vc at *
    obtain ⟨vn, vb, vt⟩ := vc
    have HVC := Aside.mk hvc
    clear hvc
    obtain ⟨C0, C1, C2, C3, C4, C5, C6, C7⟩ := box8 HI2.out.cb
    gi_wp2_with (refine Aside.out (p := Go.wpListIn _ _ _ _ _ (⟨some 33, _, _, _, _, _⟩ :: _) _ _) ?_)
    refine Aside.mk ?_
    have hb7 := below_new W₂ (.cells #[.int .i64 c.k, .int .i64 c.s, .int .i64 1, .int .i64 0, .int .i64 0, .bool false, .int .u64 0, .int .u64 0, .slice none 0 0, .slice none 0 0] 79)
    have hone7 := heap_alloc_new W₂ (.cells #[.int .i64 c.k, .int .i64 c.s, .int .i64 1, .int .i64 0, .int .i64 0, .bool false, .int .u64 0, .int .u64 0, .slice none 0 0, .slice none 0 0] 79)
    generalize W₂.alloc (.cells #[.int .i64 c.k, .int .i64 c.s, .int .i64 1, .int .i64 0, .int .i64 0, .bool false, .int .u64 0, .int .u64 0, .slice none 0 0, .slice none 0 0] 79) = W5 at *
    clear C0 C1 C2 C3 C4 C5 C6 C7
    have B7 := Aside.mk hb7
    have HONE := Aside.mk hone7
    have HZR := Aside.mk (show ZR c B D E X w.heap.size w3.heap.size W.heap.size (zAt c i) F L ⟨vn, vb, vt⟩ ta tc W5 from ZR.below ⟨HI2.out.cb, HZB.out, HVB.out⟩ hb7)
    obtain ⟨c0, c1, c2, c3, c4, c5, c6, c7⟩ := box8 HZR.out.hc
    obtain ⟨q0, q1, q2⟩ := box3 HZR.out.hv
    obtain ⟨z0, z1, z2, z3, z4, z5, z6, z7, z8, z9⟩ := box10 HZR.out.hz
    obtain ⟨o0, o1, o2, o3, o4, o5, o6, o7, o8, o9⟩ := box10 HONE.out
    have zf := fun k => frozen_blk (k := k) HZR.out.hz
    have of_ := fun k => frozen_blk (k := k) HONE.out
    have zl := lt_of_blk HZR.out.hz
    have ol := lt_of_blk HONE.out
    dsimp only at q0 q1 q2
    have HNE := Aside.mk (show w.heap.size ≠ W₂.heap.size ∧ w3.heap.size ≠ W₂.heap.size ∧ W.heap.size ≠ W₂.heap.size by have := HS2.out; have := HI.out.bel.size; have := HLT5.out; have := B5.out.size; have := lt_of_blk HZB.out; refine ⟨?_, ?_, ?_⟩ <;> omega)
    have hn1 := HNE.out.1
    have hn2 := HNE.out.2.1
    have hn3 := HNE.out.2.2
    have hn4 := Ne.symm hn1
    have hn5 := Ne.symm hn2
    have hn6 := Ne.symm hn3
    have kk2 : ∀ {W7 : World} (W8 : World), Below W₂.heap.size W₂ W7 → Kept (fun k => k = W₂.heap.size) W7 W8 → Kept (fun k => (k = w5.heap.size ∨ k = w5.heap.size + 1) ∨ k = w3.heap.size ∨ W₂.heap.size ≤ k) W₂ W8 := fun W8 h7 h8 => (Kept.of_below h7).trans h8 (fun k e hl => .inr (.inr (by omega)))
    have HN0 := Aside.mk (show ((0 : Nat) : Int) = 0 from rfl)
    have HN1 := Aside.mk (show ((1 : Nat) : Int) = 1 from rfl)
    have HTX := Aside.mk (fun W => texts_any c.k c.s W)
    clear hb7 hone7
    cases vn with
    | true =>
      have HE1 := Aside.mk (show zJoin c.k (zAt c i) (⟨1, 1, 0, false, 0, 0, [], []⟩ : Zn) = z' from (by rw [← show zOne c.k ⟨true, vb, vt⟩ = (⟨1, 1, 0, false, 0, 0, [], []⟩ : Zn) from rfl]; exact HST.out))
      (obtain ⟨W8, HEQ8⟩ : ∃ W8, W5.setCell ⟨W₂.heap.size, 3, none⟩ (.int .i64 1) = W8 := ⟨_, rfl⟩; have hk8 : Kept (fun k => k = W₂.heap.size) W5 W8 := (by rw [← HEQ8]; exact Kept.setCell W5 ⟨W₂.heap.size, 3, none⟩ (.int .i64 1)); have hone8 : W8.heap[W₂.heap.size]? = some (.cells #[.int .i64 c.k, .int .i64 c.s, .int .i64 1, .int .i64 1, .int .i64 0, .bool false, .int .u64 0, .int .u64 0, .slice none 0 0, .slice none 0 0] 79 (0, 0)) := (by rw [← HEQ8]; exact set10_3 HONE.out (.int .i64 1)); have HZR8 := Aside.mk (HZR.out.set ⟨HNE.out.1, HNE.out.2.1, HNE.out.2.2⟩ hk8); have HONE8 := Aside.mk hone8; have hj := join_any c.k c.s HOK.out (zAt c i) (⟨1, 1, 0, false, 0, 0, [], []⟩ : Zn) (fun e hw => ⟨((HGD.out.ok e).1.bits hw).1, ((HGD.out.ok e).2.bits hw).1⟩) (fun e => by cases (show false = true from e)) ⟨by have := HGD.out.n; have := HI20.out; dsimp only; omega, by have := HGD.out.nulls; have := HI20.out; dsimp only; omega, by have := HGD.out.odd; have := HI20.out; dsimp only; omega⟩ F L ⟨none, 0⟩ ⟨none, 0⟩ W8 (HFL.out.1.step (kk2 W8 B7.out hk8)).now (HFL.out.2.step (kk2 W8 B7.out hk8)).now (Rd.nil _ _) (Rd.nil _ _); rw [HE1.out] at hj; dsimp only [zV] at hj; simp only [HN0.out, HN1.out, List.length_nil] at hj; have HJ := Aside.mk hj; have HK8 := Aside.mk hk8; clear hk8 hone8 hj)
      gi_wp2_with (first
        | (refine Aside.out (p := Go.wpListIn _ _ _ _ _ (⟨some 54, _, _, _, _, _⟩ :: _) _ _) ?_))
      refine Aside.mk ?_
      try rw [HEQ8]
      clear c0 c1 c2 c3 c4 c5 c6 c7 q0 q1 q2 z0 z1 z2 z3 z4 z5 z6 z7 z8 z9 zf zl o0 o1 o2 o3 o4 o5 o6 o7 o8 o9 of_ ol
      obtain ⟨z0, z1, z2, z3, z4, z5, z6, z7, z8, z9⟩ := box10 HZR8.out.hz
      obtain ⟨o0, o1, o2, o3, o4, o5, o6, o7, o8, o9⟩ := box10 HONE8.out
      gi_wp2_with (refine ⟨trivial, ?_⟩; gi_at_call 101; refine (CallsIn.inRound l (callsIn_wide.2 HJ.out)).mono ?_; rintro e W9 ⟨F', L', rfl, hF', hL', hb9⟩; have HB9 := Aside.mk hb9; have HFJ := Aside.mk (And.intro hF' hL'); have HZ9 := Aside.mk ((hb9.block _ (lt_of_blk HZR8.out.hz)).trans HZR8.out.hz); clear hb9 hF' hL' z0 z1 z2 z3 z4 z5 z6 z7 z8 z9 o0 o1 o2 o3 o4 o5 o6 o7 o8 o9; obtain ⟨z0, z1, z2, z3, z4, z5, z6, z7, z8, z9⟩ := box10 HZ9.out; have zf := fun k => frozen_blk (k := k) HZ9.out; have zl := lt_of_blk HZ9.out)
      have K10 := kept10 W9 w3.heap.size (.int .i64 c.k) (.int .i64 c.s) (.int .i64 (z'.n : Int)) (.int .i64 (z'.nulls : Int)) (.int .i64 (z'.odd : Int)) (.bool z'.has) (.int .u64 (z'.least : Int)) (.int .u64 (z'.most : Int)) (.slice F'.a z'.first.length F'.c) (.slice L'.a z'.last.length L'.c)
      have KK := kk_chain (zb := w3.heap.size) B7.out HK8.out HB9.out K10
      have hKS := KK.mono (T := fun k => (k = w5.heap.size ∨ k = w5.heap.size + 1) ∨ k = w3.heap.size ∨ W₂.heap.size ≤ k) (fun k e _ => .inr e)
      have hs1 := HLT5.out
      have hs2 := HS2.out
      have hs3 := HZW.out
      have hs4 := HS45.out
      refine ⟨fun k hk => KK.block k (by omega) (by omega), HI2.out.next (by omega) (by omega) KK HZ'.out (set10 HZ9.out (.int .i64 c.k) (.int .i64 c.s) (.int .i64 (z'.n : Int)) (.int .i64 (z'.nulls : Int)) (.int .i64 (z'.odd : Int)) (.bool z'.has) (.int .u64 (z'.least : Int)) (.int .u64 (z'.most : Int)) (.slice F'.a z'.first.length F'.c) (.slice L'.a z'.last.length L'.c)) (fun W' hk => HFJ.out.1 W' ((HFL.out.1.step hKS) W' hk) ((StayM.nil _ _ _) W' hk)) (fun W' hk => HFJ.out.2 W' ((HFL.out.2.step hKS) W' hk) ((StayM.nil _ _ _) W' hk))⟩
    | false =>
      obtain ⟨hw, ehw⟩ : ∃ x, wordedB c.k = x := ⟨_, rfl⟩
      have HW := Aside.mk ehw
      rw [ehw] at HTX
      clear ehw
      cases hw with
      | true =>
        have HOB := Aside.mk (show oddB c.k (vb : Int) = false by have := HW.out; unfold wordedB at this; unfold oddB; simp at this; rw [if_neg (by omega), if_neg (by omega)])
        have HVB0 := Aside.mk (show vb = 0 by have := HVV.out.2.2.2 rfl; rw [HW.out] at this; simpa using this)
        have HE1 := Aside.mk (show zJoin c.k (zAt c i) (⟨1, 0, 0, true, 0, 0, vt, vt⟩ : Zn) = z' from (by rw [← show zOne c.k ⟨false, vb, vt⟩ = (⟨1, 0, 0, true, 0, 0, vt, vt⟩ : Zn) from (by unfold zOne; simp only [Bool.false_eq_true, if_false]; rw [HOB.out]; simp only [Bool.false_eq_true, if_false]; rw [HVB0.out])]; exact HST.out))
        gi_wp2_with (first
          | (refine ⟨trivial, ?_⟩; gi_at_call 99; refine (CallsIn.inRound l (callsIn_wide.2 (HTX.out _))).mono ?_; rintro e W6 ⟨rfl, hba⟩; clear HTX; replace B7 := Aside.mk (below_chain B7.out hba); replace HZR := Aside.mk (HZR.out.below hba); replace HONE := Aside.mk ((hba.block _ (lt_of_blk HONE.out)).trans HONE.out); clear hba c0 c1 c2 c3 c4 c5 c6 c7 q0 q1 q2 z0 z1 z2 z3 z4 z5 z6 z7 z8 z9 zf zl o0 o1 o2 o3 o4 o5 o6 o7 o8 o9 of_ ol; obtain ⟨c0, c1, c2, c3, c4, c5, c6, c7⟩ := box8 HZR.out.hc; obtain ⟨q0, q1, q2⟩ := box3 HZR.out.hv; obtain ⟨z0, z1, z2, z3, z4, z5, z6, z7, z8, z9⟩ := box10 HZR.out.hz; obtain ⟨o0, o1, o2, o3, o4, o5, o6, o7, o8, o9⟩ := box10 HONE.out; have zf := fun k => frozen_blk (k := k) HZR.out.hz; have of_ := fun k => frozen_blk (k := k) HONE.out; have zl := lt_of_blk HZR.out.hz; have ol := lt_of_blk HONE.out; dsimp only at q0 q1 q2; obtain ⟨W8, HEQ8⟩ : ∃ W8, (((W6.setCell ⟨W₂.heap.size, 5, none⟩ (.bool true)).setCell ⟨W₂.heap.size, 8, none⟩ (.slice ta vt.length tc)).setCell ⟨W₂.heap.size, 9, none⟩ (.slice ta vt.length tc)).drew = W8 := ⟨_, rfl⟩; have hk8 : Kept (fun k => k = W₂.heap.size) W6 W8 := (by rw [← HEQ8]; exact (kept589 W6 W₂.heap.size (.bool true) (.slice ta vt.length tc) (.slice ta vt.length tc)).trans (Kept.of_below (S := fun _ => False) (below_drewN _ _ 1)) (fun _ e _ => e.elim)); have hone8 : W8.heap[W₂.heap.size]? = some (.cells #[.int .i64 c.k, .int .i64 c.s, .int .i64 1, .int .i64 0, .int .i64 0, .bool true, .int .u64 0, .int .u64 0, .slice ta vt.length tc, .slice ta vt.length tc] 79 (0, 0)) := (by rw [← HEQ8]; exact set10_589 HONE.out (.bool true) (.slice ta vt.length tc) (.slice ta vt.length tc)); have HZR8 := Aside.mk (HZR.out.set ⟨HNE.out.1, HNE.out.2.1, HNE.out.2.2⟩ hk8); have HONE8 := Aside.mk hone8; have hj := join_any c.k c.s HOK.out (zAt c i) (⟨1, 0, 0, true, 0, 0, vt, vt⟩ : Zn) (fun e hw => ⟨((HGD.out.ok e).1.bits hw).1, ((HGD.out.ok e).2.bits hw).1⟩) (fun _ hw2 => by rw [HW.out] at hw2; cases hw2) ⟨by have := HGD.out.n; have := HI20.out; dsimp only; omega, by have := HGD.out.nulls; have := HI20.out; dsimp only; omega, by have := HGD.out.odd; have := HI20.out; dsimp only; omega⟩ F L ⟨ta, tc⟩ ⟨ta, tc⟩ W8 (HFL.out.1.step (kk2 W8 B7.out hk8)).now (HFL.out.2.step (kk2 W8 B7.out hk8)).now ((HTV.out.step (kk2 W8 B7.out hk8)).now) ((HTV.out.step (kk2 W8 B7.out hk8)).now); rw [HE1.out] at hj; dsimp only [zV] at hj; simp only [HN0.out, HN1.out, List.length_nil] at hj; have HJ := Aside.mk hj; have HK8 := Aside.mk hk8; clear hk8 hone8 hj)
          | (refine Aside.out (p := Go.wpListIn _ _ _ _ _ (⟨some 54, _, _, _, _, _⟩ :: _) _ _) ?_))
        refine wpIn_regionE (fun U : World => U.cell? ⟨W.heap.size, 1, none⟩ = some (.slice ta vt.length tc)) 9 10 (by kernel_rfl) rfl (by kernel_rfl) ?_
        have hS : (fun U : World => U.cell? ⟨W.heap.size, 1, none⟩ = some (.slice ta vt.length tc)) W6.drew := q1
        refine wpE_take (k := 0) (o := ⟨some 40, _, _, _, _, _⟩) (v := ?_) rfl (by kernel_rfl) (by kernel_rfl) (by kernel_rfl) (by kernel_rfl) (fun _ _ _ h => absurd h.1 (by simp)) (Or.inl ⟨by rfl, ?_⟩) (by assumption) ?_
        rotate_left
        · (intro w hSw; (try dsimp only at hSw); go_simp; (try with_reducible rfl))
        (try simp only [Act.put, List.setIfInBounds_toArray, List.set_cons_zero, List.set_cons_succ])
        refine wpE_take (k := 1) (o := ⟨some 41, _, _, _, _, _⟩) (v := ?_) rfl (by kernel_rfl) (by kernel_rfl) (by kernel_rfl) (by kernel_rfl) (fun _ _ _ h => absurd h.1 (by simp)) (Or.inl ⟨by rfl, ?_⟩) (by assumption) ?_
        rotate_left
        · (intro w hSw; (try dsimp only at hSw); go_simp; (try with_reducible rfl))
        (try simp only [Act.put, List.setIfInBounds_toArray, List.set_cons_zero, List.set_cons_succ])
        refine wpE_take (k := 2) (o := ⟨some 42, _, _, _, _, _⟩) (v := ?_) rfl (by kernel_rfl) (by kernel_rfl) (by kernel_rfl) (by kernel_rfl) (fun _ _ _ h => absurd h.1 (by simp)) (Or.inl ⟨by rfl, ?_⟩) (by assumption) ?_
        rotate_left
        · (intro w hSw; (try dsimp only at hSw); go_simp; (try with_reducible rfl))
        (try simp only [Act.put, List.setIfInBounds_toArray, List.set_cons_zero, List.set_cons_succ])
        refine wpE_take (k := 3) (o := ⟨some 43, _, _, _, _, _⟩) (v := ?_) rfl (by kernel_rfl) (by kernel_rfl) (by kernel_rfl) (by kernel_rfl) (fun _ _ _ h => absurd h.1 (by simp)) (Or.inl ⟨by rfl, ?_⟩) (by assumption) ?_
        rotate_left
        · (intro w hSw; (try dsimp only at hSw); go_simp; (try with_reducible rfl))
        (try simp only [Act.put, List.setIfInBounds_toArray, List.set_cons_zero, List.set_cons_succ])
        refine wpE_take (k := 4) (o := ⟨some 44, _, _, _, _, _⟩) (v := ?_) rfl (by kernel_rfl) (by kernel_rfl) (by kernel_rfl) (by kernel_rfl) (fun _ _ _ h => absurd h.1 (by simp)) (Or.inl ⟨by rfl, ?_⟩) (by assumption) ?_
        rotate_left
        · (intro w hSw; (try dsimp only at hSw); go_simp; (try with_reducible rfl))
        (try simp only [Act.put, List.setIfInBounds_toArray, List.set_cons_zero, List.set_cons_succ])
        refine wpE_one (k := 5) (o := ⟨none, _, _, _, _, _⟩) rfl (by kernel_rfl) (fun K hK => ?_)
        go_simp
        refine hK.out _ _ ((Kept.setCell _ _ _).cell hS (by dsimp only; omega)) (fun hS => ?_)
        clear hK K
        try simp only [Act.put, List.setIfInBounds_toArray, List.set_cons_zero, List.set_cons_succ]
        refine wpE_take (k := 6) (o := ⟨some 45, _, _, _, _, _⟩) (v := ?_) rfl (by kernel_rfl) (by kernel_rfl) (by kernel_rfl) (by kernel_rfl) (fun _ _ _ h => absurd h.1 (by simp)) (Or.inl ⟨by rfl, ?_⟩) (by assumption) ?_
        rotate_left
        · (intro w hSw; (try dsimp only at hSw); go_simp; (try with_reducible rfl))
        (try simp only [Act.put, List.setIfInBounds_toArray, List.set_cons_zero, List.set_cons_succ])
        refine wpE_one (k := 7) (o := ⟨none, _, _, _, _, _⟩) rfl (by kernel_rfl) (fun K hK => ?_)
        go_simp
        refine hK.out _ _ ((Kept.setCell _ _ _).cell hS (by dsimp only; omega)) (fun hS => ?_)
        clear hK K
        try simp only [Act.put, List.setIfInBounds_toArray, List.set_cons_zero, List.set_cons_succ]
        refine wpE_take (k := 8) (o := ⟨some 46, _, _, _, _, _⟩) (v := ?_) rfl (by kernel_rfl) (by kernel_rfl) (by kernel_rfl) (by kernel_rfl) (fun _ _ _ h => absurd h.1 (by simp)) (Or.inl ⟨by rfl, ?_⟩) (by assumption) ?_
        rotate_left
        · (intro w hSw; (try dsimp only at hSw); go_simp; (try with_reducible rfl))
        (try simp only [Act.put, List.setIfInBounds_toArray, List.set_cons_zero, List.set_cons_succ])
        refine wpE_last (k := 9) (o := ⟨none, _, _, _, _, _⟩) rfl (by kernel_rfl) (by kernel_rfl) rfl (fun K hK => ?_)
        go_simp
        refine hK.out _ _ ?_
        clear hK K
        refine ⟨rfl, ?_⟩
        clear hS
        gi_wp2_with (refine Aside.out (p := Go.wpListIn _ _ _ _ _ (⟨some 54, _, _, _, _, _⟩ :: _) _ _) ?_)
        refine Aside.mk ?_
        try rw [HEQ8]
        clear c0 c1 c2 c3 c4 c5 c6 c7 q0 q1 q2 z0 z1 z2 z3 z4 z5 z6 z7 z8 z9 zf zl o0 o1 o2 o3 o4 o5 o6 o7 o8 o9 of_ ol
        obtain ⟨z0, z1, z2, z3, z4, z5, z6, z7, z8, z9⟩ := box10 HZR8.out.hz
        obtain ⟨o0, o1, o2, o3, o4, o5, o6, o7, o8, o9⟩ := box10 HONE8.out
        gi_wp2_with (refine ⟨trivial, ?_⟩; gi_at_call 101; refine (CallsIn.inRound l (callsIn_wide.2 HJ.out)).mono ?_; rintro e W9 ⟨F', L', rfl, hF', hL', hb9⟩; have HB9 := Aside.mk hb9; have HFJ := Aside.mk (And.intro hF' hL'); have HZ9 := Aside.mk ((hb9.block _ (lt_of_blk HZR8.out.hz)).trans HZR8.out.hz); clear hb9 hF' hL' z0 z1 z2 z3 z4 z5 z6 z7 z8 z9 o0 o1 o2 o3 o4 o5 o6 o7 o8 o9; obtain ⟨z0, z1, z2, z3, z4, z5, z6, z7, z8, z9⟩ := box10 HZ9.out; have zf := fun k => frozen_blk (k := k) HZ9.out; have zl := lt_of_blk HZ9.out)
        have K10 := kept10 W9 w3.heap.size (.int .i64 c.k) (.int .i64 c.s) (.int .i64 (z'.n : Int)) (.int .i64 (z'.nulls : Int)) (.int .i64 (z'.odd : Int)) (.bool z'.has) (.int .u64 (z'.least : Int)) (.int .u64 (z'.most : Int)) (.slice F'.a z'.first.length F'.c) (.slice L'.a z'.last.length L'.c)
        have KK := kk_chain (zb := w3.heap.size) B7.out HK8.out HB9.out K10
        have hKS := KK.mono (T := fun k => (k = w5.heap.size ∨ k = w5.heap.size + 1) ∨ k = w3.heap.size ∨ W₂.heap.size ≤ k) (fun k e _ => .inr e)
        have hs1 := HLT5.out
        have hs2 := HS2.out
        have hs3 := HZW.out
        have hs4 := HS45.out
        refine ⟨fun k hk => KK.block k (by omega) (by omega), HI2.out.next (by omega) (by omega) KK HZ'.out (set10 HZ9.out (.int .i64 c.k) (.int .i64 c.s) (.int .i64 (z'.n : Int)) (.int .i64 (z'.nulls : Int)) (.int .i64 (z'.odd : Int)) (.bool z'.has) (.int .u64 (z'.least : Int)) (.int .u64 (z'.most : Int)) (.slice F'.a z'.first.length F'.c) (.slice L'.a z'.last.length L'.c)) (fun W' hk => HFJ.out.1 W' ((HFL.out.1.step hKS) W' hk) ((HTV.out.step hKS) W' hk)) (fun W' hk => HFJ.out.2 W' ((HFL.out.2.step hKS) W' hk) ((HTV.out.step hKS) W' hk))⟩
      | false =>
        have hfit := HVV.out.2.2.2 rfl
        rw [HW.out] at hfit
        simp only [Bool.false_eq_true, if_false] at hfit
        have HVT0 := Aside.mk (show vt = [] from hfit.2)
        have HODD := Aside.mk (fun W => odd_any c.k c.s (vb : Int) (by omega) (by have := HVV.out.2.1; dsimp only at this; omega) (fun e => vok_32 (v := ⟨false, vb, vt⟩) HVV.out rfl e) W)
        have HPL := Aside.mk (fun ho => plain_of (v := ⟨false, vb, vt⟩) HVV.out rfl ho)
        clear hfit
        obtain ⟨ob, eob⟩ : ∃ x, oddB c.k (vb : Int) = x := ⟨_, rfl⟩
        have HOB := Aside.mk eob
        rw [eob] at HODD
        clear eob
        cases ob with
        | true =>
          have HE1 := Aside.mk (show zJoin c.k (zAt c i) (⟨1, 0, 1, false, 0, 0, [], []⟩ : Zn) = z' from (by rw [← show zOne c.k ⟨false, vb, vt⟩ = (⟨1, 0, 1, false, 0, 0, [], []⟩ : Zn) from (by unfold zOne; simp only [Bool.false_eq_true, if_false]; rw [HOB.out]; rfl)]; exact HST.out))
          gi_wp2_with (first
            | (refine ⟨trivial, ?_⟩; gi_at_call 99; refine (CallsIn.inRound l (callsIn_wide.2 (HTX.out _))).mono ?_; rintro e W6 ⟨rfl, hba⟩; clear HTX; replace B7 := Aside.mk (below_chain B7.out hba); replace HZR := Aside.mk (HZR.out.below hba); replace HONE := Aside.mk ((hba.block _ (lt_of_blk HONE.out)).trans HONE.out); clear hba c0 c1 c2 c3 c4 c5 c6 c7 q0 q1 q2 z0 z1 z2 z3 z4 z5 z6 z7 z8 z9 zf zl o0 o1 o2 o3 o4 o5 o6 o7 o8 o9 of_ ol; obtain ⟨c0, c1, c2, c3, c4, c5, c6, c7⟩ := box8 HZR.out.hc; obtain ⟨q0, q1, q2⟩ := box3 HZR.out.hv; obtain ⟨z0, z1, z2, z3, z4, z5, z6, z7, z8, z9⟩ := box10 HZR.out.hz; obtain ⟨o0, o1, o2, o3, o4, o5, o6, o7, o8, o9⟩ := box10 HONE.out; have zf := fun k => frozen_blk (k := k) HZR.out.hz; have of_ := fun k => frozen_blk (k := k) HONE.out; have zl := lt_of_blk HZR.out.hz; have ol := lt_of_blk HONE.out; dsimp only at q0 q1 q2)
            | (refine ⟨trivial, ?_⟩; gi_at_call 100; refine (CallsIn.inRound l (callsIn_wide.2 (HODD.out _))).mono ?_; rintro e W7 ⟨rfl, hba⟩; clear HODD; replace B7 := Aside.mk (below_chain B7.out hba); replace HZR := Aside.mk (HZR.out.below hba); replace HONE := Aside.mk ((hba.block _ (lt_of_blk HONE.out)).trans HONE.out); clear hba c0 c1 c2 c3 c4 c5 c6 c7 q0 q1 q2 z0 z1 z2 z3 z4 z5 z6 z7 z8 z9 zf zl o0 o1 o2 o3 o4 o5 o6 o7 o8 o9 of_ ol; obtain ⟨c0, c1, c2, c3, c4, c5, c6, c7⟩ := box8 HZR.out.hc; obtain ⟨q0, q1, q2⟩ := box3 HZR.out.hv; obtain ⟨z0, z1, z2, z3, z4, z5, z6, z7, z8, z9⟩ := box10 HZR.out.hz; obtain ⟨o0, o1, o2, o3, o4, o5, o6, o7, o8, o9⟩ := box10 HONE.out; have zf := fun k => frozen_blk (k := k) HZR.out.hz; have of_ := fun k => frozen_blk (k := k) HONE.out; have zl := lt_of_blk HZR.out.hz; have ol := lt_of_blk HONE.out; dsimp only at q0 q1 q2; obtain ⟨W8, HEQ8⟩ : ∃ W8, W7.setCell ⟨W₂.heap.size, 4, none⟩ (.int .i64 1) = W8 := ⟨_, rfl⟩; have hk8 : Kept (fun k => k = W₂.heap.size) W7 W8 := (by rw [← HEQ8]; exact Kept.setCell W7 ⟨W₂.heap.size, 4, none⟩ (.int .i64 1)); have hone8 : W8.heap[W₂.heap.size]? = some (.cells #[.int .i64 c.k, .int .i64 c.s, .int .i64 1, .int .i64 0, .int .i64 1, .bool false, .int .u64 0, .int .u64 0, .slice none 0 0, .slice none 0 0] 79 (0, 0)) := (by rw [← HEQ8]; exact set10_4 HONE.out (.int .i64 1)); have HZR8 := Aside.mk (HZR.out.set ⟨HNE.out.1, HNE.out.2.1, HNE.out.2.2⟩ hk8); have HONE8 := Aside.mk hone8; have hj := join_any c.k c.s HOK.out (zAt c i) (⟨1, 0, 1, false, 0, 0, [], []⟩ : Zn) (fun e hw => ⟨((HGD.out.ok e).1.bits hw).1, ((HGD.out.ok e).2.bits hw).1⟩) (fun e => by cases (show false = true from e)) ⟨by have := HGD.out.n; have := HI20.out; dsimp only; omega, by have := HGD.out.nulls; have := HI20.out; dsimp only; omega, by have := HGD.out.odd; have := HI20.out; dsimp only; omega⟩ F L ⟨none, 0⟩ ⟨none, 0⟩ W8 (HFL.out.1.step (kk2 W8 B7.out hk8)).now (HFL.out.2.step (kk2 W8 B7.out hk8)).now (Rd.nil _ _) (Rd.nil _ _); rw [HE1.out] at hj; dsimp only [zV] at hj; simp only [HN0.out, HN1.out, List.length_nil] at hj; have HJ := Aside.mk hj; have HK8 := Aside.mk hk8; clear hk8 hone8 hj)
            | (refine Aside.out (p := Go.wpListIn _ _ _ _ _ (⟨some 54, _, _, _, _, _⟩ :: _) _ _) ?_))
          refine Aside.mk ?_
          try rw [HEQ8]
          clear c0 c1 c2 c3 c4 c5 c6 c7 q0 q1 q2 z0 z1 z2 z3 z4 z5 z6 z7 z8 z9 zf zl o0 o1 o2 o3 o4 o5 o6 o7 o8 o9 of_ ol
          obtain ⟨z0, z1, z2, z3, z4, z5, z6, z7, z8, z9⟩ := box10 HZR8.out.hz
          obtain ⟨o0, o1, o2, o3, o4, o5, o6, o7, o8, o9⟩ := box10 HONE8.out
          gi_wp2_with (refine ⟨trivial, ?_⟩; gi_at_call 101; refine (CallsIn.inRound l (callsIn_wide.2 HJ.out)).mono ?_; rintro e W9 ⟨F', L', rfl, hF', hL', hb9⟩; have HB9 := Aside.mk hb9; have HFJ := Aside.mk (And.intro hF' hL'); have HZ9 := Aside.mk ((hb9.block _ (lt_of_blk HZR8.out.hz)).trans HZR8.out.hz); clear hb9 hF' hL' z0 z1 z2 z3 z4 z5 z6 z7 z8 z9 o0 o1 o2 o3 o4 o5 o6 o7 o8 o9; obtain ⟨z0, z1, z2, z3, z4, z5, z6, z7, z8, z9⟩ := box10 HZ9.out; have zf := fun k => frozen_blk (k := k) HZ9.out; have zl := lt_of_blk HZ9.out)
          have K10 := kept10 W9 w3.heap.size (.int .i64 c.k) (.int .i64 c.s) (.int .i64 (z'.n : Int)) (.int .i64 (z'.nulls : Int)) (.int .i64 (z'.odd : Int)) (.bool z'.has) (.int .u64 (z'.least : Int)) (.int .u64 (z'.most : Int)) (.slice F'.a z'.first.length F'.c) (.slice L'.a z'.last.length L'.c)
          have KK := kk_chain (zb := w3.heap.size) B7.out HK8.out HB9.out K10
          have hKS := KK.mono (T := fun k => (k = w5.heap.size ∨ k = w5.heap.size + 1) ∨ k = w3.heap.size ∨ W₂.heap.size ≤ k) (fun k e _ => .inr e)
          have hs1 := HLT5.out
          have hs2 := HS2.out
          have hs3 := HZW.out
          have hs4 := HS45.out
          refine ⟨fun k hk => KK.block k (by omega) (by omega), HI2.out.next (by omega) (by omega) KK HZ'.out (set10 HZ9.out (.int .i64 c.k) (.int .i64 c.s) (.int .i64 (z'.n : Int)) (.int .i64 (z'.nulls : Int)) (.int .i64 (z'.odd : Int)) (.bool z'.has) (.int .u64 (z'.least : Int)) (.int .u64 (z'.most : Int)) (.slice F'.a z'.first.length F'.c) (.slice L'.a z'.last.length L'.c)) (fun W' hk => HFJ.out.1 W' ((HFL.out.1.step hKS) W' hk) ((StayM.nil _ _ _) W' hk)) (fun W' hk => HFJ.out.2 W' ((HFL.out.2.step hKS) W' hk) ((StayM.nil _ _ _) W' hk))⟩
        | false =>
          have HPI := Aside.mk (((HPL.out HOB.out).bits HW.out).1)
          clear HPL
          have HE1 := Aside.mk (show zJoin c.k (zAt c i) (⟨1, 0, 0, true, vb, vb, [], []⟩ : Zn) = z' from (by rw [← show zOne c.k ⟨false, vb, vt⟩ = (⟨1, 0, 0, true, vb, vb, [], []⟩ : Zn) from (by unfold zOne; simp only [Bool.false_eq_true, if_false]; rw [HOB.out]; simp only [Bool.false_eq_true, if_false]; rw [HVT0.out])]; exact HST.out))
          gi_wp2_with (first
            | (refine ⟨trivial, ?_⟩; gi_at_call 99; refine (CallsIn.inRound l (callsIn_wide.2 (HTX.out _))).mono ?_; rintro e W6 ⟨rfl, hba⟩; clear HTX; replace B7 := Aside.mk (below_chain B7.out hba); replace HZR := Aside.mk (HZR.out.below hba); replace HONE := Aside.mk ((hba.block _ (lt_of_blk HONE.out)).trans HONE.out); clear hba c0 c1 c2 c3 c4 c5 c6 c7 q0 q1 q2 z0 z1 z2 z3 z4 z5 z6 z7 z8 z9 zf zl o0 o1 o2 o3 o4 o5 o6 o7 o8 o9 of_ ol; obtain ⟨c0, c1, c2, c3, c4, c5, c6, c7⟩ := box8 HZR.out.hc; obtain ⟨q0, q1, q2⟩ := box3 HZR.out.hv; obtain ⟨z0, z1, z2, z3, z4, z5, z6, z7, z8, z9⟩ := box10 HZR.out.hz; obtain ⟨o0, o1, o2, o3, o4, o5, o6, o7, o8, o9⟩ := box10 HONE.out; have zf := fun k => frozen_blk (k := k) HZR.out.hz; have of_ := fun k => frozen_blk (k := k) HONE.out; have zl := lt_of_blk HZR.out.hz; have ol := lt_of_blk HONE.out; dsimp only at q0 q1 q2)
            | (refine ⟨trivial, ?_⟩; gi_at_call 100; refine (CallsIn.inRound l (callsIn_wide.2 (HODD.out _))).mono ?_; rintro e W7 ⟨rfl, hba⟩; clear HODD; replace B7 := Aside.mk (below_chain B7.out hba); replace HZR := Aside.mk (HZR.out.below hba); replace HONE := Aside.mk ((hba.block _ (lt_of_blk HONE.out)).trans HONE.out); clear hba c0 c1 c2 c3 c4 c5 c6 c7 q0 q1 q2 z0 z1 z2 z3 z4 z5 z6 z7 z8 z9 zf zl o0 o1 o2 o3 o4 o5 o6 o7 o8 o9 of_ ol; obtain ⟨c0, c1, c2, c3, c4, c5, c6, c7⟩ := box8 HZR.out.hc; obtain ⟨q0, q1, q2⟩ := box3 HZR.out.hv; obtain ⟨z0, z1, z2, z3, z4, z5, z6, z7, z8, z9⟩ := box10 HZR.out.hz; obtain ⟨o0, o1, o2, o3, o4, o5, o6, o7, o8, o9⟩ := box10 HONE.out; have zf := fun k => frozen_blk (k := k) HZR.out.hz; have of_ := fun k => frozen_blk (k := k) HONE.out; have zl := lt_of_blk HZR.out.hz; have ol := lt_of_blk HONE.out; dsimp only at q0 q1 q2; obtain ⟨W8, HEQ8⟩ : ∃ W8, (((W7.setCell ⟨W₂.heap.size, 5, none⟩ (.bool true)).setCell ⟨W₂.heap.size, 6, none⟩ (.int .u64 (vb : Int))).setCell ⟨W₂.heap.size, 7, none⟩ (.int .u64 (vb : Int))).drew = W8 := ⟨_, rfl⟩; have hk8 : Kept (fun k => k = W₂.heap.size) W7 W8 := (by rw [← HEQ8]; exact (kept567 W7 W₂.heap.size (.bool true) (.int .u64 (vb : Int)) (.int .u64 (vb : Int))).trans (Kept.of_below (S := fun _ => False) (below_drewN _ _ 1)) (fun _ e _ => e.elim)); have hone8 : W8.heap[W₂.heap.size]? = some (.cells #[.int .i64 c.k, .int .i64 c.s, .int .i64 1, .int .i64 0, .int .i64 0, .bool true, .int .u64 (vb : Int), .int .u64 (vb : Int), .slice none 0 0, .slice none 0 0] 79 (0, 0)) := (by rw [← HEQ8]; exact set10_567 HONE.out (.bool true) (.int .u64 (vb : Int)) (.int .u64 (vb : Int))); have HZR8 := Aside.mk (HZR.out.set ⟨HNE.out.1, HNE.out.2.1, HNE.out.2.2⟩ hk8); have HONE8 := Aside.mk hone8; have hj := join_any c.k c.s HOK.out (zAt c i) (⟨1, 0, 0, true, vb, vb, [], []⟩ : Zn) (fun e hw => ⟨((HGD.out.ok e).1.bits hw).1, ((HGD.out.ok e).2.bits hw).1⟩) (fun _ _ => ⟨HPI.out, HPI.out⟩) ⟨by have := HGD.out.n; have := HI20.out; dsimp only; omega, by have := HGD.out.nulls; have := HI20.out; dsimp only; omega, by have := HGD.out.odd; have := HI20.out; dsimp only; omega⟩ F L ⟨none, 0⟩ ⟨none, 0⟩ W8 (HFL.out.1.step (kk2 W8 B7.out hk8)).now (HFL.out.2.step (kk2 W8 B7.out hk8)).now (Rd.nil _ _) (Rd.nil _ _); rw [HE1.out] at hj; dsimp only [zV] at hj; simp only [HN0.out, HN1.out, List.length_nil] at hj; have HJ := Aside.mk hj; have HK8 := Aside.mk hk8; clear hk8 hone8 hj)
            | (refine Aside.out (p := Go.wpListIn _ _ _ _ _ (⟨some 54, _, _, _, _, _⟩ :: _) _ _) ?_))
          refine wpIn_regionE (fun U : World => U.cell? ⟨W.heap.size, 0, none⟩ = some (.int .u64 (vb : Int))) 9 10 (by kernel_rfl) rfl (by kernel_rfl) ?_
          have hS : (fun U : World => U.cell? ⟨W.heap.size, 0, none⟩ = some (.int .u64 (vb : Int))) W7.drew := q0
          refine wpE_take (k := 0) (o := ⟨some 25, _, _, _, _, _⟩) (v := ?_) rfl (by kernel_rfl) (by kernel_rfl) (by kernel_rfl) (by kernel_rfl) (fun _ _ _ h => absurd h.1 (by simp)) (Or.inl ⟨by rfl, ?_⟩) (by assumption) ?_
          rotate_left
          · (intro w hSw; (try dsimp only at hSw); go_simp; (try with_reducible rfl))
          (try simp only [Act.put, List.setIfInBounds_toArray, List.set_cons_zero, List.set_cons_succ])
          refine wpE_take (k := 1) (o := ⟨some 26, _, _, _, _, _⟩) (v := ?_) rfl (by kernel_rfl) (by kernel_rfl) (by kernel_rfl) (by kernel_rfl) (fun _ _ _ h => absurd h.1 (by simp)) (Or.inl ⟨by rfl, ?_⟩) (by assumption) ?_
          rotate_left
          · (intro w hSw; (try dsimp only at hSw); go_simp; (try with_reducible rfl))
          (try simp only [Act.put, List.setIfInBounds_toArray, List.set_cons_zero, List.set_cons_succ])
          refine wpE_take (k := 2) (o := ⟨some 27, _, _, _, _, _⟩) (v := ?_) rfl (by kernel_rfl) (by kernel_rfl) (by kernel_rfl) (by kernel_rfl) (fun _ _ _ h => absurd h.1 (by simp)) (Or.inl ⟨by rfl, ?_⟩) (by assumption) ?_
          rotate_left
          · (intro w hSw; (try dsimp only at hSw); go_simp; (try with_reducible rfl))
          (try simp only [Act.put, List.setIfInBounds_toArray, List.set_cons_zero, List.set_cons_succ])
          refine wpE_take (k := 3) (o := ⟨some 28, _, _, _, _, _⟩) (v := ?_) rfl (by kernel_rfl) (by kernel_rfl) (by kernel_rfl) (by kernel_rfl) (fun _ _ _ h => absurd h.1 (by simp)) (Or.inl ⟨by rfl, ?_⟩) (by assumption) ?_
          rotate_left
          · (intro w hSw; (try dsimp only at hSw); go_simp; (try with_reducible rfl))
          (try simp only [Act.put, List.setIfInBounds_toArray, List.set_cons_zero, List.set_cons_succ])
          refine wpE_take (k := 4) (o := ⟨some 29, _, _, _, _, _⟩) (v := ?_) rfl (by kernel_rfl) (by kernel_rfl) (by kernel_rfl) (by kernel_rfl) (fun _ _ _ h => absurd h.1 (by simp)) (Or.inl ⟨by rfl, ?_⟩) (by assumption) ?_
          rotate_left
          · (intro w hSw; (try dsimp only at hSw); go_simp; (try with_reducible rfl))
          (try simp only [Act.put, List.setIfInBounds_toArray, List.set_cons_zero, List.set_cons_succ])
          refine wpE_one (k := 5) (o := ⟨none, _, _, _, _, _⟩) rfl (by kernel_rfl) (fun K hK => ?_)
          go_simp
          refine hK.out _ _ ((Kept.setCell _ _ _).cell hS (by dsimp only; omega)) (fun hS => ?_)
          clear hK K
          try simp only [Act.put, List.setIfInBounds_toArray, List.set_cons_zero, List.set_cons_succ]
          refine wpE_take (k := 6) (o := ⟨some 30, _, _, _, _, _⟩) (v := ?_) rfl (by kernel_rfl) (by kernel_rfl) (by kernel_rfl) (by kernel_rfl) (fun _ _ _ h => absurd h.1 (by simp)) (Or.inl ⟨by rfl, ?_⟩) (by assumption) ?_
          rotate_left
          · (intro w hSw; (try dsimp only at hSw); go_simp; (try with_reducible rfl))
          (try simp only [Act.put, List.setIfInBounds_toArray, List.set_cons_zero, List.set_cons_succ])
          refine wpE_one (k := 7) (o := ⟨none, _, _, _, _, _⟩) rfl (by kernel_rfl) (fun K hK => ?_)
          go_simp
          refine hK.out _ _ ((Kept.setCell _ _ _).cell hS (by dsimp only; omega)) (fun hS => ?_)
          clear hK K
          try simp only [Act.put, List.setIfInBounds_toArray, List.set_cons_zero, List.set_cons_succ]
          refine wpE_take (k := 8) (o := ⟨some 31, _, _, _, _, _⟩) (v := ?_) rfl (by kernel_rfl) (by kernel_rfl) (by kernel_rfl) (by kernel_rfl) (fun _ _ _ h => absurd h.1 (by simp)) (Or.inl ⟨by rfl, ?_⟩) (by assumption) ?_
          rotate_left
          · (intro w hSw; (try dsimp only at hSw); go_simp; (try with_reducible rfl))
          (try simp only [Act.put, List.setIfInBounds_toArray, List.set_cons_zero, List.set_cons_succ])
          refine wpE_last (k := 9) (o := ⟨none, _, _, _, _, _⟩) rfl (by kernel_rfl) (by kernel_rfl) rfl (fun K hK => ?_)
          go_simp
          refine hK.out _ _ ?_
          clear hK K
          refine ⟨rfl, ?_⟩
          clear hS
          gi_wp2_with (refine Aside.out (p := Go.wpListIn _ _ _ _ _ (⟨some 54, _, _, _, _, _⟩ :: _) _ _) ?_)
          refine Aside.mk ?_
          try rw [HEQ8]
          clear c0 c1 c2 c3 c4 c5 c6 c7 q0 q1 q2 z0 z1 z2 z3 z4 z5 z6 z7 z8 z9 zf zl o0 o1 o2 o3 o4 o5 o6 o7 o8 o9 of_ ol
          obtain ⟨z0, z1, z2, z3, z4, z5, z6, z7, z8, z9⟩ := box10 HZR8.out.hz
          obtain ⟨o0, o1, o2, o3, o4, o5, o6, o7, o8, o9⟩ := box10 HONE8.out
          gi_wp2_with (refine ⟨trivial, ?_⟩; gi_at_call 101; refine (CallsIn.inRound l (callsIn_wide.2 HJ.out)).mono ?_; rintro e W9 ⟨F', L', rfl, hF', hL', hb9⟩; have HB9 := Aside.mk hb9; have HFJ := Aside.mk (And.intro hF' hL'); have HZ9 := Aside.mk ((hb9.block _ (lt_of_blk HZR8.out.hz)).trans HZR8.out.hz); clear hb9 hF' hL' z0 z1 z2 z3 z4 z5 z6 z7 z8 z9 o0 o1 o2 o3 o4 o5 o6 o7 o8 o9; obtain ⟨z0, z1, z2, z3, z4, z5, z6, z7, z8, z9⟩ := box10 HZ9.out; have zf := fun k => frozen_blk (k := k) HZ9.out; have zl := lt_of_blk HZ9.out)
          have K10 := kept10 W9 w3.heap.size (.int .i64 c.k) (.int .i64 c.s) (.int .i64 (z'.n : Int)) (.int .i64 (z'.nulls : Int)) (.int .i64 (z'.odd : Int)) (.bool z'.has) (.int .u64 (z'.least : Int)) (.int .u64 (z'.most : Int)) (.slice F'.a z'.first.length F'.c) (.slice L'.a z'.last.length L'.c)
          have KK := kk_chain (zb := w3.heap.size) B7.out HK8.out HB9.out K10
          have hKS := KK.mono (T := fun k => (k = w5.heap.size ∨ k = w5.heap.size + 1) ∨ k = w3.heap.size ∨ W₂.heap.size ≤ k) (fun k e _ => .inr e)
          have hs1 := HLT5.out
          have hs2 := HS2.out
          have hs3 := HZW.out
          have hs4 := HS45.out
          refine ⟨fun k hk => KK.block k (by omega) (by omega), HI2.out.next (by omega) (by omega) KK HZ'.out (set10 HZ9.out (.int .i64 c.k) (.int .i64 c.s) (.int .i64 (z'.n : Int)) (.int .i64 (z'.nulls : Int)) (.int .i64 (z'.odd : Int)) (.bool z'.has) (.int .u64 (z'.least : Int)) (.int .u64 (z'.most : Int)) (.slice F'.a z'.first.length F'.c) (.slice L'.a z'.last.length L'.c)) (fun W' hk => HFJ.out.1 W' ((HFL.out.1.step hKS) W' hk) ((StayM.nil _ _ _) W' hk)) (fun W' hk => HFJ.out.2 W' ((HFL.out.2.step hKS) W' hk) ((StayM.nil _ _ _) W' hk))⟩
  case done =>
    rintro W hI hK
    have HK := Aside.mk hK
    have HI := Aside.mk hI
    obtain ⟨F, L, hzb, hF, hL⟩ := hI.zb
    have hfw := (HGD.out N (Nat.le_refl _)).few
    rw [← HZC.out] at hzb hF hL hfw
    obtain ⟨z, hz⟩ : ∃ z, zoneC c = z := ⟨_, rfl⟩
    rw [hz] at hzb hF hL hfw
    have HZE := Aside.mk hz
    have HFW := Aside.mk hfw
    have HZB := Aside.mk hzb
    have HFL := Aside.mk (And.intro hF.now hL.now)
    have HRB := Aside.mk hI.rb
    clear hI hK hzb hF hL hfw hz HST HGD HV HE hea HCOL HZC
    obtain ⟨z0, z1, z2, z3, z4, z5, z6, z7, z8, z9⟩ := box10 HZB.out
    have zf := fun k => frozen_blk (k := k) HZB.out
    have zl := lt_of_blk HZB.out
    go_upto_region 16 with fail
    refine wp_regionO (fun U : World => U.cell? ⟨w3.heap.size, 9, none⟩ = some (.slice L.a z.last.length L.c)) 9 10 (by kernel_rfl) rfl ?_
    have hS : (fun U : World => U.cell? ⟨w3.heap.size, 9, none⟩ = some (.slice L.a z.last.length L.c)) W.drew := z9
    refine wpE_take (k := 0) (o := ⟨some 57, _, _, _, _, _⟩) (v := ?_) rfl (by kernel_rfl) (by kernel_rfl) (by kernel_rfl) (by kernel_rfl) (fun _ _ _ h => absurd h.1 (by simp)) (Or.inl ⟨by rfl, ?_⟩) (by assumption) ?_
    rotate_left
    · (intro w hSw; (try dsimp only at hSw); go_simp; (try with_reducible rfl))
    (try simp only [Act.put, List.setIfInBounds_toArray, List.set_cons_zero, List.set_cons_succ])
    refine wpE_take (k := 3) (o := ⟨some 60, _, _, _, _, _⟩) (v := ?_) rfl (by kernel_rfl) (by kernel_rfl) (by kernel_rfl) (by kernel_rfl) (fun _ _ _ h => absurd h.1 (by simp)) (Or.inl ⟨by rfl, ?_⟩) (by assumption) ?_
    rotate_left
    · (intro w hSw; (try dsimp only at hSw); go_simp; (try with_reducible rfl))
    (try simp only [Act.put, List.setIfInBounds_toArray, List.set_cons_zero, List.set_cons_succ])
    refine wpE_take (k := 4) (o := ⟨some 61, _, _, _, _, _⟩) (v := ?_) rfl (by kernel_rfl) (by kernel_rfl) (by kernel_rfl) (by kernel_rfl) (fun _ _ _ h => absurd h.1 (by simp)) (Or.inl ⟨by rfl, ?_⟩) (by assumption) ?_
    rotate_left
    · (intro w hSw; (try dsimp only at hSw); go_simp; (try with_reducible rfl))
    (try simp only [Act.put, List.setIfInBounds_toArray, List.set_cons_zero, List.set_cons_succ])
    refine wpE_one (k := 1) (o := ⟨some 58, _, _, _, _, _⟩) rfl (by kernel_rfl) (fun K hK => ?_)
    go_simp
    refine hK.out _ _ (hS) (fun hS => ?_)
    clear hK K
    try simp only [Act.put, List.setIfInBounds_toArray, List.set_cons_zero, List.set_cons_succ]
    refine wpE_one (k := 2) (o := ⟨some 59, _, _, _, _, _⟩) rfl (by kernel_rfl) (fun K hK => ?_)
    refine step_call (P := Tryz.prog) W.drew (by rfl) 102 [.tmp 58] _ (by rfl) [.slice F.a z.first.length F.c] (by rfl) (fun _ _ => rfl) (bclone_any z.first F HFW.out.1 W.drew (HFL.out.1.below (below_drewN W _ 1))) ?_
    rintro e wd ⟨A1, k1, rfl, ho1, hb1⟩
    refine ⟨_, rfl, ?_⟩
    have B1 := Aside.mk (undrew hb1)
    have HT1 := Aside.mk (show Own wd W.heap.size 5 1 (.slice A1 z.first.length k1) z.first.length (z.first.map (.int .u8)) from ho1)
    have HZd := Aside.mk ((B1.out.block _ (lt_of_blk HZB.out)).trans HZB.out)
    clear hb1 ho1 z0 z1 z2 z3 z4 z5 z6 z7 z8 z9 zf zl
    obtain ⟨z0, z1, z2, z3, z4, z5, z6, z7, z8, z9⟩ := box10 HZd.out
    refine hK.out _ _ (z9) (fun hS => ?_)
    clear hK K
    try simp only [Act.put, List.setIfInBounds_toArray, List.set_cons_zero, List.set_cons_succ]
    refine wpE_take (k := 6) (o := ⟨some 63, _, _, _, _, _⟩) (v := ?_) rfl (by kernel_rfl) (by kernel_rfl) (by kernel_rfl) (by kernel_rfl) (fun _ _ _ h => absurd h.1 (by simp)) (Or.inl ⟨by rfl, ?_⟩) (by assumption) ?_
    rotate_left
    · (intro w hSw; (try dsimp only at hSw); go_simp; (try with_reducible rfl))
    (try simp only [Act.put, List.setIfInBounds_toArray, List.set_cons_zero, List.set_cons_succ])
    refine wpE_one (k := 5) (o := ⟨some 62, _, _, _, _, _⟩) rfl (by kernel_rfl) (fun K hK => ?_)
    refine step_call (P := Tryz.prog) wd (by rfl) 102 [.tmp 61] _ (by rfl) [.slice L.a z.last.length L.c] (by rfl) (fun _ _ => rfl) (bclone_any z.last L HFW.out.2 wd (HFL.out.2.below B1.out)) ?_
    rintro e we ⟨A2, k2, rfl, ho2, hb2⟩
    refine ⟨_, rfl, ?_⟩
    have B2 := Aside.mk (below_chain B1.out hb2)
    have HT2 := Aside.mk (show ZOwn z ⟨A1, k1⟩ ⟨A2, k2⟩ W.heap.size we from ⟨HT1.out.below hb2, ho2.mono B1.out.size, fun k e1 e2 => by have := (HT1.out.lt k e1).2; have := (ho2.lt k e2).1; omega⟩)
    clear HT1
    have HZe := Aside.mk ((hb2.block _ (lt_of_blk HZd.out)).trans HZd.out)
    clear hb2 ho2 z0 z1 z2 z3 z4 z5 z6 z7 z8 z9
    obtain ⟨z0, z1, z2, z3, z4, z5, z6, z7, z8, z9⟩ := box10 HZe.out
    have zf := fun k => frozen_blk (k := k) HZe.out
    have zl := lt_of_blk HZe.out
    refine hK.out _ _ (z9) (fun hS => ?_)
    clear hK K
    try simp only [Act.put, List.setIfInBounds_toArray, List.set_cons_zero, List.set_cons_succ]
    refine wpE_one (k := 7) (o := ⟨none, _, _, _, _, _⟩) rfl (by kernel_rfl) (fun K hK => ?_)
    go_simp
    refine hK.out _ _ ((by obtain ⟨x0, x1, x2, x3, x4, x5, x6, x7, x8, x9⟩ := box10 (set10_8 HZe.out (.slice A1 z.first.length k1)); exact x9)) (fun hS => ?_)
    clear hK K
    try simp only [Act.put, List.setIfInBounds_toArray, List.set_cons_zero, List.set_cons_succ]
    refine wpE_take (k := 8) (o := ⟨some 64, _, _, _, _, _⟩) (v := ?_) rfl (by kernel_rfl) (by kernel_rfl) (by kernel_rfl) (by kernel_rfl) (fun _ _ _ h => absurd h.1 (by simp)) (Or.inl ⟨by rfl, ?_⟩) (by assumption) ?_
    rotate_left
    · (intro w hSw; (try dsimp only at hSw); go_simp; (try with_reducible rfl))
    (try simp only [Act.put, List.setIfInBounds_toArray, List.set_cons_zero, List.set_cons_succ])
    refine wpE_last (k := 9) (o := ⟨none, _, _, _, _, _⟩) rfl (by kernel_rfl) (by kernel_rfl) rfl (fun K hK => ?_)
    go_simp
    refine hK.out _ _ ?_
    clear hK K
    refine ⟨rfl, ?_⟩
    clear hS z0 z1 z2 z3 z4 z5 z6 z7 z8 z9 zf zl
    have hre := (B2.out.block _ (lt_of_blk HRB.out)).trans HRB.out
    have hne : w.heap.size + 1 ≠ w3.heap.size := by have := HZW.out; omega
    have hK2 := kept89 we w3.heap.size (.slice A1 z.first.length k1) (.slice A2 z.last.length k2)
    have hzf := set10_89 HZe.out (.slice A1 z.first.length k1) (.slice A2 z.last.length k2)
    have hrf := (hK2.block _ (lt_of_blk hre) hne).trans hre
    have hs5 := HS45.out
    have hsw := HZW.out
    have hzW := lt_of_blk HZB.out
    have hrW := lt_of_blk HRB.out
    have ht2 := HT2.out.kept hK2 (fun k e => by omega)
    have hDW := (Array.getElem?_eq_some_iff.1 HK.out).1
    have hDe := (B2.out.block _ hDW).trans HK.out
    have hDf := (hK2.block _ (Nat.lt_of_lt_of_le hDW B2.out.size) (by omega)).trans hDe
    have hbw := HI.out.bel
    have hbf := (below_chain hbw B2.out).trans (hK2.to_below (below_chain hbw B2.out).size (fun k e => by omega))
    generalize (we.setCell ⟨w3.heap.size, 8, none⟩ (.slice A1 z.first.length k1)).setCell ⟨w3.heap.size, 9, none⟩ (.slice A2 z.last.length k2) = wf at *
    have HT := Aside.mk ht2
    have HDW := Aside.mk (And.intro hzW (And.intro hrW hDW))
    have HRF := Aside.mk hrf
    have HD := Aside.mk hDf
    have HBF := Aside.mk hbf
    clear hK2 ht2 hzW hrW hDe hDf hbf hre hDW hbw
    obtain ⟨z0, z1, z2, z3, z4, z5, z6, z7, z8, z9⟩ := box10 hzf
    obtain ⟨r0, r1, r2, r3, r4, r5, r6, r7, r8, r9⟩ := box10 hrf
    have rf := fun k => frozen_blk (k := k) hrf
    have rl := lt_of_blk hrf
    clear hzf hrf
    go_wp2_with fail
    have K10 := kept10 wf (w.heap.size + 1) (.int .i64 c.k) (.int .i64 c.s) (.int .i64 (z.n : Int)) (.int .i64 (z.nulls : Int)) (.int .i64 (z.odd : Int)) (.bool z.has) (.int .u64 (z.least : Int)) (.int .u64 (z.most : Int)) (.slice A1 z.first.length k1) (.slice A2 z.last.length k2)
    have K11 := K10.mono (T := fun k => k = w.heap.size + 1 ∨ wf.heap.size ≤ k) (fun k e _ => .inl e)
    have hs5' := B5.out.size
    have hDg := (K10.block _ (Array.getElem?_eq_some_iff.1 HD.out).1 (by omega)).trans HD.out
    have hbg := HBF.out.trans (K10.to_below HBF.out.size (fun k e => by omega))
    have hdw := HDW.out
    have ht := HT.out.kept K10 (fun k e => by omega)
    have hrg := set10 HRF.out (.int .i64 c.k) (.int .i64 c.s) (.int .i64 (z.n : Int)) (.int .i64 (z.nulls : Int)) (.int .i64 (z.odd : Int)) (.bool z.has) (.int .u64 (z.least : Int)) (.int .u64 (z.most : Int)) (.slice A1 z.first.length k1) (.slice A2 z.last.length k2)
    generalize (((((((((wf.setCell ⟨w.heap.size + 1, 0, none⟩ (.int .i64 c.k)).setCell ⟨w.heap.size + 1, 1, none⟩ (.int .i64 c.s)).setCell ⟨w.heap.size + 1, 2, none⟩ (.int .i64 (z.n : Int))).setCell ⟨w.heap.size + 1, 3, none⟩ (.int .i64 (z.nulls : Int))).setCell ⟨w.heap.size + 1, 4, none⟩ (.int .i64 (z.odd : Int))).setCell ⟨w.heap.size + 1, 5, none⟩ (.bool z.has)).setCell ⟨w.heap.size + 1, 6, none⟩ (.int .u64 (z.least : Int))).setCell ⟨w.heap.size + 1, 7, none⟩ (.int .u64 (z.most : Int))).setCell ⟨w.heap.size + 1, 8, none⟩ (.slice A1 z.first.length k1)).setCell ⟨w.heap.size + 1, 9, none⟩ (.slice A2 z.last.length k2) = wg at *
    have hfin := (World.putObj_heap_other (w := wg) (o := .deferred none) (show w.heap.size + 1 ≠ w5.heap.size by omega)).trans hrg
    clear r0 r1 r2 r3 r4 r5 r6 r7 r8 r9 z0 z1 z2 z3 z4 z5 z6 z7 z8 z9 rf rl K10 K11
    obtain ⟨p0, p1, p2, p3, p4, p5, p6, p7, p8, p9⟩ := box10 hfin
    refine left_marks hDg (v := .tuple #[.agg #[.int .i64 c.k, .int .i64 c.s, .int .i64 (z.n : Int), .int .i64 (z.nulls : Int), .int .i64 (z.odd : Int), .bool z.has, .int .u64 (z.least : Int), .int .u64 (z.most : Int), .slice A1 z.first.length k1, .slice A2 z.last.length k2], .int .i64 0]) ?_ ?_
    · simp [results, Tryz.results38, go_sem, p0, p1, p2, p3, p4, p5, p6, p7, p8, p9]
    · rw [HZE.out]
      exact ⟨⟨A1, k1⟩, ⟨A2, k2⟩, rfl, (ht.kept kept_putD (fun k e => by omega)).mono HI.out.bel.size, hbg.trans (Kept.to_below (S := fun k => k = w5.heap.size ∨ k = w5.heap.size + 1) (kept_putObj (.inl rfl)) hbg.size (fun k e => by omega))⟩
end Go.Proofs.YtmhjjhaipcgbiaaGreat
