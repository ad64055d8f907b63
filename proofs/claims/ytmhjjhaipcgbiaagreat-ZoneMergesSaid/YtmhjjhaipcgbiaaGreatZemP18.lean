/- Texts of this claim, one behind the other: GetA, Range, Seq. -/
import Derived.Test.YtmhjjhaipcgbiaaGreatZemP17
import Derived.Test.YtmhjjhaipcgbiaaGreatZemP9
import Derived.Test.YtmhjjhaipcgbiaaGreatZemP12
import Derived.Test.YtmhjjhaipcgbiaaGreatZemP1
import Derived.RangeFuncBox
import Derived.RangeFuncLeaves
import Derived.RangeFuncNested
import Derived.Shelf.Abstract
import Derived.OwnWalkIn
import Derived.TacticsInMore
import Derived.LoopNIn
import Derived.LoopIn

namespace Go.Proofs.YtmhjjhaipcgbiaaGreat
open Go.RowKit
set_option linter.unusedVariables false
set_option linter.unusedSimpArgs false
set_option maxRecDepth 100000
set_option maxHeartbeats 1000000
theorem own_addr {w : World} {base : Nat} {E : TypeId} {sz n c : Nat} {a : Option Addr} {xs : List Value} (h : Own w base E sz (.slice a n c) n xs) : a = none ∨ ∃ g off, a = some ⟨g, off, none⟩ := by
  rcases h.2 with ⟨e, _⟩ | ⟨g, off, cap, cur, e, _⟩
  · simp only [Value.slice.injEq] at e; exact .inl e.1
  · simp only [Value.slice.injEq] at e; exact .inr ⟨g, off, e.1⟩
theorem get_value (c : Col) (hc : COK c) (B D E X : SL) (vals : List Value) (i : Nat) (hr : checkC c = 0) (hi : (i : Int) < c.n) (hnl : nullB c.bits i = false) (hDa : D.a = none ∨ ∃ g off, D.a = some ⟨g, off, none⟩) (w : World) (h : RdC w c B D E X vals) :
    Calls Tryz.prog 61 #[colV c B D E X, .int .i64 (i : Int)] w (GetP (valueC c i).1 (valueC c i).2 w) := by
  obtain ⟨ho, _, _, _⟩ := check_zero hr
  by_cases h15 : c.k = 15
  · obtain ⟨hn, _⟩ := running_facts hr h15
    have hie : i < c.ends.length := by omega
    obtain ⟨f, t, e1, e2, hft, htd⟩ := check_ends hr h15 i hie
    have ev : valueC c i = (0, (c.data.drop f).take (t - f)) := by
      unfold valueC
      rw [if_pos h15, e1, e2, Int.toNat_natCast]
      congr 2
      omega
    rw [ev]
    refine get_r c h15 hc B D E X vals i hr hi hnl 0 _ w h (fun w2 hb => ?_)
    rcases hDa with hD | ⟨g, off, hD⟩
    · obtain ⟨_, a, cap, e, _, _, h0, _⟩ := h.data
      simp only [Value.slice.injEq, true_and] at e
      have hd0 := (h0 (by rw [← e.1, hD])).1
      obtain rfl : t = 0 := by omega
      obtain rfl : f = 0 := by omega
      have := value_r0 c hc B D E X vals i hie (by simpa using e1) (by simpa using e2) hD w2 (h.below hb)
      simpa using this
    · exact value_r c hc B D E X vals i f t hie e1 e2 hft htd g off hD w2 (h.below hb)
  by_cases h16 : c.k = 16
  · have hx := check_code hr h16 hi hnl
    have hs := (coded_facts hr h16).1
    have ev : valueC c i = (0, c.words.getD (wordAt c.data (i * 4) 4) []) := by
      unfold valueC
      rw [if_neg h15, if_pos h16]
    rw [ev]
    exact get_c c h16 hc B D E X vals i hr hi hnl 0 _ w h (fun w2 hb => value_c c hc B D E X vals i (sized_room hs i (by omega)) hx w2 (h.below hb))
  · obtain ⟨W, hW, hW8⟩ := width_eight ho h15
    have ev : valueC c i = (wordAt c.data (i * W) W, []) := by
      unfold valueC
      rw [if_neg h15, if_neg h16, hW, Int.toNat_natCast]
    rw [ev]
    exact get_f c h15 h16 hW hc B D E X vals i hr hi hnl _ _ w h (fun w2 hb => value_f W hW8 c hc B D E X vals i (check_room hr h15 h16 hW hi) w2 (h.below hb))
theorem same_bytes (xs ys : List Int) (A B : SL) (hx : IsBytes xs) (hy : IsBytes ys) (w : World) (ha : Rd w 1 (.slice A.a xs.length A.c) xs.length (xs.map (.int .u8))) (hb : Rd w 1 (.slice B.a ys.length B.c) ys.length (ys.map (.int .u8))) :
    Calls Tryz.prog 47 #[.slice A.a xs.length A.c, .slice B.a ys.length B.c] w fun e w' => e = .returned (.bool (decide (xs = ys))) ∧ w = w' := by
  have h1 := conv_any A.a _ A.c xs rfl w ha
  have h2 := conv_any B.a _ B.c ys rfl w hb
  have HD := Aside.mk (show ((strOfNums xs).toList == (strOfNums ys).toList) = decide (xs = ys) by
    rw [Bool.eq_iff_iff, beq_iff_eq, decide_eq_true_eq, ByteArray.toList_eq, ByteArray.toList_eq, strOfNums_data, strOfNums_data]
    exact ⟨map_byte_inj xs ys hx hy, fun h => by rw [h]⟩)
  clear ha hb
  generalize strOfNums xs = sx at *
  generalize strOfNums ys = sy at *
  generalize xs.length = n at *
  generalize ys.length = m at *
  go_enter Tryz.func47, Tryz.ntmps47
  go_wp2
  go_ret
  exact ⟨ret_bool HD.out, rfl⟩
end Go.Proofs.YtmhjjhaipcgbiaaGreat


namespace Go.Proofs.YtmhjjhaipcgbiaaGreat
open Go.RowKit Go.Shelf
set_option linter.unusedVariables false
theorem calls_of_marks {P : Program} {f : FuncId} {fn : Func} {c : Code} {args : Array Value} {w : World} {R : Ending → World → Prop} (hf : P.funcs[f]? = some fn) (hb : fn.body = some c)
    (h : c.wp P (bodyPostM Fence.wide 9 P fn R) { tmps := args ++ Array.replicate (fn.ntmps - args.size) undef, defers := [] } w) : Calls P f args w R :=
  callsIn_wide.1 (callsIn_of_wp_marks hf hb trivial (wpIn_wide.2 h) rfl)
theorem left_marks {P : Program} {fn : Func} {tmps : Array Value} {R : Ending → World → Prop} {W : World} {D : Nat} (hK : W.heap[D]? = some (.deferred (some [])))
    {v : Value} (hr : (results fn tmps).run P (W.putObj D (.deferred none)) = .ok v (W.putObj D (.deferred none))) (h : R (.returned v) (W.putObj D (.deferred none))) :
    LeavesInM Fence.wide 9 P fn tmps R [{ target := .collected D, args := #[] }] .returning W :=
  ⟨by simp, .inl ⟨_, _, rfl, run_takeDeferred hK, ⟨v, hr, h⟩⟩⟩
end Go.Proofs.YtmhjjhaipcgbiaaGreat


namespace Go.Proofs.YtmhjjhaipcgbiaaGreat
open Go.RowKit Go.Shelf
set_option linter.unusedVariables false
def SeqV (P : Program) (gf : Nat) (lb : Array Value) (encs : Nat → Value → Array Value) (D : Nat → Value → World → Prop) (Good : World → Prop) (N : Nat) : Prop :=
  ∀ (l : Nat) (J : Nat → World → Prop) (Jx : World → Prop) (W : World),
    (∀ k A B, J k A → Below A.heap.size A B → J k B) → (∀ k A, J k A → Good A) →
    (∀ k v W1, k < N → J k W1 → D k v W1 → YieldAt Fence.wide 7 P l (encs k v) W1 fun e W' => (e = .returned (.bool true) ∧ J (k + 1) W') ∨ (e = .returned (.bool false) ∧ Jx W')) →
    J 0 W → CallsIn Fence.wide 8 P gf (#[.func (.yield l) #[] #[]] ++ lb) W fun e W' => (∃ v, e = .returned v) ∧ (J N W' ∨ Jx W')
def Bk (b : Nat) (A B : World) : Prop := ∀ k, k = b ∨ k = b + 1 → B.heap[k]? = A.heap[k]?
def roundV (b : Nat) (I : World → Prop) (Ix : Code → World → Prop) (A : World) : Exit → Act → World → Prop
  | .normal, _, W' => Bk b A W' ∧ I W'
  | .ret, _, W' => Bk b A W' ∧ Ix .ret W'
  | .exit id, _, W' => Bk b A W' ∧ Ix (.exit id) W'
  | .goto t, _, W' => Bk b A W' ∧ Ix (.goto t) W'
  | .panic _, _, _ => False
  | .outgrown, _, _ => False
def Marks (b : Nat) (W : World) : Prop := (∃ o, W.heap[b]? = some (.deferred o)) ∧ ∃ r, W.heap[b + 1]? = some (.loop r)
theorem Rd.marks {W W' : World} {sz n b : Nat} {v : Value} {xs : List Value} (h : Rd W sz v n xs) (hm : Marks b W) (hk : Kept (fun k => k = b ∨ k = b + 1) W W') : Rd W' sz v n xs := by
  obtain ⟨hl, a, cap, rfl, h1, h2, h3, h4⟩ := h
  refine ⟨hl, a, cap, rfl, h1, h2, h3, fun j u hu => ?_⟩
  obtain ⟨g, off, rfl, hc⟩ := h4 j u hu
  refine ⟨g, off, rfl, hk.cell hc ?_⟩
  obtain ⟨⟨o, ho⟩, r, hr⟩ := hm
  rintro (e | e)
  · simp only at e
    rw [e] at hc
    simp [World.cell?, ho] at hc
  · simp only at e
    rw [e] at hc
    simp [World.cell?, hr] at hc
theorem kept_putObj {W : World} {l b : Nat} {o : Obj} (h : l = b ∨ l = b + 1) : Kept (fun k => k = b ∨ k = b + 1) W (W.putObj l o) :=
  ⟨rfl, rfl, rfl, by simp, fun k hk hn => World.putObj_heap_other (fun e => hn (e ▸ h))⟩
theorem below_two (w : World) (o1 o2 : Obj) : Below w.heap.size w ((w.alloc o1).alloc o2) ∧ ((w.alloc o1).alloc o2).heap.size = w.heap.size + 2 ∧
    ((w.alloc o1).alloc o2).heap[w.heap.size]? = some o1 ∧ ((w.alloc o1).alloc o2).heap[w.heap.size + 1]? = some o2 := by
  refine ⟨((Below.refl _ w).alloc (Nat.le_refl _) _).alloc (by simp) _, by simp, ?_, ?_⟩
  · exact (Below.heap_alloc _ _ _ (by simp)).trans (World.alloc_heap_new w _)
  · have := World.alloc_heap_new (w.alloc o1) o2
    rwa [World.size_alloc] at this
theorem wp_seq {P : Program} {g : Operand} {ps : Array Tmp} {assign body : Code} {Q : Exit → Act → World → Prop} {a : Act} {w : World}
    {gf : Nat} {lb : Array Value} (hg : a.eval g = .func (.func gf) #[] lb) (eg : ∀ args w, (callFunc gf args).run P w = .ok (.enter gf args) w)
    {encs : Nat → Value → Array Value} {D : Nat → Value → World → Prop} {Good : World → Prop} {N : Nat} (hseq : SeqV P gf lb encs D Good N) (hps : ∀ k v, (encs k v).size = ps.size)
    (I : Nat → World → Prop) (Ix : Code → World → Prop) (hIG : ∀ k A, I k A → Good A)
    (hI : ∀ k A B, Kept (fun k => k = w.heap.size ∨ k = w.heap.size + 1) A B → I k A → I k B) (hIx : ∀ c A B, Kept (fun k => k = w.heap.size ∨ k = w.heap.size + 1) A B → Ix c A → Ix c B)
    (h0 : ∀ W, Below w.heap.size w W → W.heap.size = w.heap.size + 2 → I 0 W)
    (hround : ∀ l k v W, k < N → I k W → D k v W → w.heap.size + 1 < W.heap.size → Marks w.heap.size W → assign.wpIn (Fence.wide.inRound l) 7 P (Exit.then (fun a₁ W₁ => Bk w.heap.size W W₁ ∧
        ∀ W₂, Kept (fun k => k = w.heap.size ∨ k = w.heap.size + 1) W₁ W₂ → W₂.heap.size = W₁.heap.size →
          body.wpIn (Fence.wide.inRound l) 7 P (roundV w.heap.size (I (k + 1)) Ix W₂) a₁ W₂) (fun _ _ _ => False))
      { tmps := (ps.zip (encs k v)).foldl (fun t (p, v) => t.setIfInBounds p v) a.tmps, defers := [] } W)
    (hdone : ∀ W, I N W → W.heap[w.heap.size]? = some (.deferred (some [])) → Q .normal { a with defers := { target := .collected w.heap.size, args := #[] } :: a.defers } W)
    (hstop : ∀ c W, Ix c W → W.heap[w.heap.size]? = some (.deferred (some [])) → c.wp P Q { a with defers := { target := .collected w.heap.size, args := #[] } :: a.defers } W) :
    (Code.rangeFunc g ps assign body).wp P Q a w := by
  refine wpIn_wide.1 (wpIn_rangeFunc (F := Fence.wide) (n := 9) fun fn hfn => ?_)
  let rec_ : LoopState → Option Code → Loop := fun st pe => { state := st, pending := pe, fn, tmps := a.tmps, params := ps, assign, body, defers := w.heap.size }
  obtain ⟨t1, t2, t3, t4⟩ := below_two w (.deferred (some [])) (.loop (rec_ .ready none))
  generalize hW1 : (w.alloc (.deferred (some []))).alloc (.loop (rec_ .ready none)) = W1 at t1 t2 t3 t4
  refine ⟨w.heap.size + 1, [{ target := .collected w.heap.size, args := #[] }], W1, { target := .fn (.func gf) lb, args := #[.func (.yield (w.heap.size + 1)) #[] #[]] }, W1, gf,
    #[.func (.yield (w.heap.size + 1)) #[] #[]] ++ lb, W1, ?_, ?_, ?_, ?_, fun _ => by decide, ?_⟩
  · rw [← hW1]; exact run_enterLoop_outer _ _ _ _ _
  · simp only [resolve, hg]
    simp [go_sem]
  · intro f' hf'; trivial
  · simp [invoke, go_sem, eg]
  refine (hseq (w.heap.size + 1) (fun k A => I k A ∧ A.heap[w.heap.size + 1]? = some (.loop (rec_ .ready none)) ∧ A.heap[w.heap.size]? = some (.deferred (some [])))
    (fun A => ∃ c, Ix c A ∧ A.heap[w.heap.size + 1]? = some (.loop (rec_ .done (some c))) ∧ A.heap[w.heap.size]? = some (.deferred (some []))) W1 ?_ (fun k A h => hIG k A h.1) ?_ ⟨h0 W1 t1 t2, t4, t3⟩).mono ?_
  · rintro k A B ⟨h1, h2, h3⟩ hb
    exact ⟨hI k A B (Kept.of_below hb) h1, (hb.block _ (lt_of_blk h2)).trans h2, (hb.block _ (lt_of_blk h3)).trans h3⟩
  · rintro k v A hk ⟨h1, h2, h3⟩ hd
    have hlt := lt_of_blk h2
    refine ⟨fn, _, assign, body, run_yield (P := P) (args := encs k v) h2 (hps k v), roundIn_of_wpIn hfn (wpIn_mono (hround _ k v A hk h1 hd hlt ⟨⟨_, h3⟩, ⟨_, h2⟩⟩) ?_)⟩
    rintro e a1 W₁ hp
    cases e with
    | normal =>
      obtain ⟨hb1, hbody⟩ := hp
      have h2' := (hb1 _ (.inr rfl)).trans h2
      have h3' := (hb1 _ (.inl rfl)).trans h3
      refine ⟨_, run_beginRound h2' rfl, wpIn_mono (hbody _ (kept_putObj (.inr rfl)) (by simp)) ?_⟩
      have hl2 : (W₁.putObj (w.heap.size + 1) (.loop { rec_ .ready none with state := .busy })).heap[w.heap.size + 1]? = some (.loop { rec_ .ready none with state := .busy }) := World.putObj_heap_same (lt_of_blk h2')
      have hk2 : (W₁.putObj (w.heap.size + 1) (.loop { rec_ .ready none with state := .busy })).heap[w.heap.size]? = some (.deferred (some [])) := (World.putObj_heap_other (by omega)).trans h3'
      have fin : ∀ (j : Option Code) (W3 : World), Bk w.heap.size (W₁.putObj (w.heap.size + 1) (.loop { rec_ .ready none with state := .busy })) W3 →
          (Instr.endRound (w.heap.size + 1) j).run P W3 = .ok (.bool j.isNone) (W3.putObj (w.heap.size + 1) (.loop (rec_ (if j.isNone then .ready else .done) j))) ∧
          (W3.putObj (w.heap.size + 1) (.loop (rec_ (if j.isNone then .ready else .done) j))).heap[w.heap.size + 1]? = some (.loop (rec_ (if j.isNone then .ready else .done) j)) ∧
          (W3.putObj (w.heap.size + 1) (.loop (rec_ (if j.isNone then .ready else .done) j))).heap[w.heap.size]? = some (.deferred (some [])) := fun j W3 hb3 => by
        have hl3 := (hb3 _ (.inr rfl)).trans hl2
        exact ⟨run_endRound (P := P) j hl3, World.putObj_heap_same (lt_of_blk hl3), (World.putObj_heap_other (by omega)).trans ((hb3 _ (.inl rfl)).trans hk2)⟩
      rintro e a3 W3 hp3
      cases e with
      | normal => obtain ⟨hb3, hi3⟩ := hp3; obtain ⟨hr, q1, q2⟩ := fin none W3 hb3; exact ⟨_, _, hr, .inl ⟨rfl, hI _ _ _ (kept_putObj (.inr rfl)) hi3, q1, q2⟩⟩
      | ret => obtain ⟨hb3, hi3⟩ := hp3; obtain ⟨hr, q1, q2⟩ := fin (some .ret) W3 hb3; exact ⟨_, _, hr, .inr ⟨rfl, _, hIx _ _ _ (kept_putObj (.inr rfl)) hi3, q1, q2⟩⟩
      | exit id => obtain ⟨hb3, hi3⟩ := hp3; obtain ⟨hr, q1, q2⟩ := fin (some (.exit id)) W3 hb3; exact ⟨_, _, hr, .inr ⟨rfl, _, hIx _ _ _ (kept_putObj (.inr rfl)) hi3, q1, q2⟩⟩
      | goto t => obtain ⟨hb3, hi3⟩ := hp3; obtain ⟨hr, q1, q2⟩ := fin (some (.goto t)) W3 hb3; exact ⟨_, _, hr, .inr ⟨rfl, _, hIx _ _ _ (kept_putObj (.inr rfl)) hi3, q1, q2⟩⟩
      | panic ch => exact hp3.elim
      | outgrown => exact hp3.elim
    | ret => exact hp.elim
    | exit id => exact hp.elim
    | goto t => exact hp.elim
    | panic ch => exact hp.elim
    | outgrown => exact hp.elim
  · rintro e W2 ⟨⟨v, rfl⟩, ⟨h1, h2, h3⟩ | ⟨c, h1, h2, h3⟩⟩
    · have := run_endLoop (P := P) h2 (by simp [rec_])
      refine ⟨none, _, this, ?_⟩
      refine hdone _ (hI _ _ _ (kept_putObj (.inr rfl)) h1) ((World.putObj_heap_other (by omega)).trans h3)
    · have := run_endLoop (P := P) h2 (by simp [rec_])
      refine ⟨some c, _, this, ?_⟩
      exact wpIn_wide.2 (hstop c _ (hIx _ _ _ (kept_putObj (.inr rfl)) h1) ((World.putObj_heap_other (by omega)).trans h3))
end Go.Proofs.YtmhjjhaipcgbiaaGreat
