/- Texts of this claim, one behind the other: Small, AskP, Inv, Kind2. -/
import Derived.Test.YtmhjjhaipcgbiaaGreatAsqP6
import Derived.Test.YtmhjjhaipcgbiaaGreatAsqP10
import Derived.Test.YtmhjjhaipcgbiaaGreatAsqP9

namespace Go.Proofs.YtmhjjhaipcgbiaaGreat
open Go.RowKit
set_option linter.unusedVariables false
set_option linter.unusedSimpArgs false
set_option maxRecDepth 100000
set_option maxHeartbeats 1000000
theorem data_max (k : Int) (l : List V) (m : Nat) (hm : 8 ≤ m) (hl : ∀ v ∈ l, v.text.length ≤ m) : (CS.of k l).data.length ≤ l.length * m ∧ ∀ t ∈ (CS.of k l).words, t.length ≤ m := by
  induction l using snoc_ind with
  | h0 => exact ⟨Nat.zero_le _, fun t ht => (by cases ht)⟩
  | h1 l v ih =>
    obtain ⟨h1, h2⟩ := ih (fun v hv => hl v (List.mem_append_left _ hv))
    have hv := hl v (by simp)
    obtain ⟨W, hW, hW8⟩ := width_nat k
    have hw8 : (widthOf k).toNat ≤ 8 := by rw [hW]; exact hW8
    have hs : (l ++ [v]).length * m = l.length * m + m := by rw [List.length_append, List.length_singleton, Nat.add_mul, Nat.one_mul]
    rw [CS.of_snoc, hs]
    unfold CS.add
    split
    · refine ⟨?_, h2⟩
      simp only [List.length_append]; omega
    split
    · refine ⟨by simp only [List.length_append, lows_len]; omega, ?_⟩
      dsimp only
      split
      · exact h2
      · unfold addWord
        split
        · exact h2
        · intro t ht
          rcases List.mem_append.1 ht with h | h
          · exact h2 t h
          · simp at h; subst h; exact hv
    · exact ⟨by simp only [List.length_append, lows_len]; omega, h2⟩
theorem small_col {k s : Int} {l : List V} (h : l.length ≤ 120 ∧ ∀ v ∈ l, vOK k s v ∧ v.text.length ≤ 40) : Small18 (colOf k s l) := by
  obtain ⟨h1, h2⟩ := data_max k l 40 (by decide) (fun v hv => (h.2 v hv).2)
  have h3 := h.1
  have h4 : l.length * 40 ≤ 120 * 40 := Nat.mul_le_mul_right _ h3
  refine ⟨fun _ => ?_, ?_, fun t ht => ?_⟩
  · show ((CS.of k l).nulls.length : Int) ≤ 20000
    rw [nulls_of, List.length_map]; omega
  · show (CS.of k l).data.length ≤ 4900
    omega
  · have := h2 t ht; omega
end Go.Proofs.YtmhjjhaipcgbiaaGreat


namespace Go.Proofs.YtmhjjhaipcgbiaaGreat
open Go.RowKit
set_option linter.unusedVariables false
set_option linter.unusedSimpArgs false
set_option maxRecDepth 100000
set_option maxHeartbeats 1000000
theorem byteI_ok (x : Int) : 0 ≤ byteI x ∧ byteI x < 256 := by unfold byteI; omega
theorem xorI_ok {x y : Int} (h0 : 0 ≤ x ∧ x < 256) (h1 : 0 ≤ y ∧ y < 256) : 0 ≤ xorI x y ∧ xorI x y < 256 := by
  have := Nat.xor_lt_two_pow (n := 8) (x := x.toNat) (y := y.toNat) (by omega) (by omega)
  unfold xorI
  omega
theorem wrap64_ok (x : Int) : IsI64 (wrap64 x) := by unfold IsI64 wrap64; omega
theorem setL_len (l : List Int) (a : Int) (f : Int → Int) : (setL l a f).length = l.length := by unfold setL; split <;> simp
theorem setL_mem {l : List Int} {a : Int} {f : Int → Int} {p : Int → Prop} (h : ∀ x ∈ l, p x) (hf : ∀ x, x ∈ l → p (f x)) : ∀ x ∈ setL l a f, p x := by
  unfold setL
  split
  · exact h
  · rename_i hl
    intro x hx
    rcases List.mem_or_eq_of_mem_set hx with hx | rfl
    · exact h x hx
    · refine hf _ ?_
      have hi : (withinI a 0 ((l.length : Int) - 1)).toNat < l.length := by have := withinI_le a (m := (l.length : Int)) (by omega); omega
      rw [List.getD_eq_getElem?_getD, List.getElem?_eq_getElem hi]
      exact List.getElem_mem hi
theorem spoil_ok {c : Col} (hc : COK c) (hm : c.m = c.n) (hn : c.n ≤ 120) (hd : c.data.length ≤ 4800) (hw : ∀ t ∈ c.words, t.length ≤ 40) (hlw : c.words.length ≤ 1000) {wh wat wby : Int} (h3 : IsI64 wby) :
    COK (spoilC c wh wat wby) ∧ Small18 (spoilC c wh wat wby) ∧ ((spoilC c wh wat wby).m = (spoilC c wh wat wby).n → (spoilC c wh wat wby).n ≤ 120) := by
  obtain ⟨a1, a2, a3, a4, a5, a6, a7, a8, a9, a10, a11, a12⟩ := hc
  have hb := byteI_ok wby
  have hw9 : ∀ t ∈ c.words, t.length ≤ 4900 := fun t ht => Nat.le_trans (hw t ht) (by decide)
  unfold spoilC
  split
  · exact ⟨⟨a1, a2, a3, a4, a5, a6, a7, a8, a9, a10, wrap64_ok _, a12⟩, ⟨fun e => by dsimp only at e ⊢; omega, by dsimp only; omega, hw9⟩, fun e => by dsimp only at e ⊢; omega⟩
  split
  · exact ⟨⟨a1, a2, a3, a4, a5, a6, a7, a8, a9, a10, a11, wrap64_ok _⟩, ⟨fun e => by dsimp only at e ⊢; omega, by dsimp only; omega, hw9⟩, fun e => by dsimp only at e ⊢; omega⟩
  split
  · exact ⟨⟨setL_mem a1 fun x hx => xorI_ok (a1 x hx) hb, a2, a3, a4, by dsimp only; rw [setL_len]; exact a5, a6, a7, a8, a9, a10, a11, a12⟩, ⟨fun e => by dsimp only at e ⊢; omega, by dsimp only; omega, hw9⟩, fun e => by dsimp only at e ⊢; omega⟩
  split
  · exact ⟨⟨a1, setL_mem a2 fun x hx => xorI_ok (a2 x hx) hb, a3, a4, a5, by dsimp only; rw [setL_len]; exact a6, a7, a8, a9, a10, a11, a12⟩, ⟨fun e => by dsimp only at e ⊢; omega, by dsimp only; rw [setL_len]; omega, hw9⟩, fun e => by dsimp only at e ⊢; omega⟩
  split
  · exact ⟨⟨a1, isBytes_append a2 (fun x hx => by simp at hx; subst hx; exact hb), a3, a4, a5, by dsimp only; rw [List.length_append, List.length_singleton]; omega, a7, a8, a9, a10, a11, a12⟩, ⟨fun e => by dsimp only at e ⊢; omega, by dsimp only; rw [List.length_append, List.length_singleton]; omega, hw9⟩, fun e => by dsimp only at e ⊢; omega⟩
  split
  · exact ⟨⟨a1, a2, setL_mem a3 fun x hx => wrap64_ok _, a4, a5, a6, by dsimp only; rw [setL_len]; exact a7, a8, a9, a10, a11, a12⟩, ⟨fun e => by dsimp only at e ⊢; omega, by dsimp only; omega, hw9⟩, fun e => by dsimp only at e ⊢; omega⟩
  split
  · refine ⟨⟨a1, a2, a3, fun t ht => ?_, a5, a6, a7, by dsimp only; rw [List.length_append, List.length_singleton]; omega, a9, a10, a11, a12⟩, ⟨fun e => by dsimp only at e ⊢; omega, by dsimp only; omega, fun t ht => ?_⟩, fun e => by dsimp only at e ⊢; omega⟩
    · rcases List.mem_append.1 ht with ht | ht
      · exact a4 t ht
      · simp at ht; subst ht; exact ⟨fun x hx => by simp at hx; subst hx; exact hb, by simp⟩
    · rcases List.mem_append.1 ht with ht | ht
      · exact hw9 t ht
      · simp at ht; subst ht; simp
  split
  · exact ⟨⟨a1, a2, a3, a4, a5, a6, a7, a8, a9, h3, a11, a12⟩, ⟨fun e => by dsimp only at e ⊢; omega, by dsimp only; omega, hw9⟩, fun e => by dsimp only at e ⊢; omega⟩
  split
  · exact ⟨⟨a1, a2, a3, a4, a5, a6, a7, a8, h3, a10, a11, a12⟩, ⟨fun e => by dsimp only at e ⊢; omega, by dsimp only; omega, hw9⟩, fun e => by dsimp only at e ⊢; omega⟩
  · exact ⟨⟨a1, a2, a3, a4, a5, a6, a7, a8, a9, a10, a11, a12⟩, ⟨fun e => by omega, by omega, hw9⟩, fun e => by omega⟩
theorem spoil_col {k s : Int} (ho : okType k s = true) {l : List V} (h : l.length ≤ 120 ∧ ∀ v ∈ l, vOK k s v ∧ v.text.length ≤ 40) {wh wat wby : Int} (h3 : IsI64 wby) :
    COK (colOf k s l) ∧ COK (spoilC (colOf k s l) wh wat wby) ∧ Small18 (spoilC (colOf k s l) wh wat wby) ∧ ((spoilC (colOf k s l) wh wat wby).m = (spoilC (colOf k s l) wh wat wby).n → (spoilC (colOf k s l) wh wat wby).n ≤ 120) := by
  have hf : Few l := ⟨by have := h.1; omega, fun v hv => Nat.le_trans (h.2 v hv).2 (by decide)⟩
  have hc : COK (colOf k s l) := (built_facts ho hf (fun v hv => (h.2 v hv).1)).cok
  obtain ⟨h1, h2⟩ := data_max k l 40 (by decide) (fun v hv => (h.2 v hv).2)
  have h5 := h.1
  have h4 : l.length * 40 ≤ 120 * 40 := Nat.mul_le_mul_right _ h5
  refine ⟨hc, spoil_ok hc rfl ?_ (show (CS.of k l).data.length ≤ 4800 by omega) h2 ?_ h3⟩
  · show ((CS.of k l).nulls.length : Int) ≤ 120
    rw [nulls_of, List.length_map]; omega
  · have := (of_sizes k l hf.2).2.2.2
    show (CS.of k l).words.length ≤ 1000
    omega
end Go.Proofs.YtmhjjhaipcgbiaaGreat


namespace Go.Proofs.YtmhjjhaipcgbiaaGreat
open Go.RowKit
set_option linter.unusedVariables false
section
variable {P : Program} {ops : Array Oper} {Q : Exit → Act → World → Prop} {md : Region.Mode}
def open_ (l : Array Bool) : Nat := l.toList.count false
theorem ready_open {l : Array Bool} {k : Nat} (h : k ∈ Region.ready md ops l) : l[k]? = some false := by
  have h1 := (mem_ready.1 h).1
  rcases Nat.lt_or_ge k l.size with hl | hl
  · rw [Array.getElem?_eq_getElem hl]; simpa [hl] using h1
  · simp [Array.getElem?_eq_none hl] at h1
theorem open_set {l : Array Bool} {k : Nat} (h : l[k]? = some false) : open_ (l.setIfInBounds k true) + 1 = open_ l := by
  have hk : k < l.size := (Array.getElem?_eq_some_iff.1 h).1
  have hv : l.toList[k]'(by simpa using hk) = false := by simpa using (Array.getElem?_eq_some_iff.1 h).2
  unfold open_
  have hc := List.count_set (a := true) (b := false) (l := l.toList) (i := k) (by simpa using hk)
  rw [hv, show (if (false == false) = true then 1 else 0) = 1 from rfl, show (if (true == false) = true then 1 else 0) = 0 from rfl] at hc
  have : 0 < l.toList.count false := List.count_pos_iff.2 (hv ▸ List.getElem_mem _)
  rw [Array.toList_setIfInBounds, hc]
  omega
theorem open_zero {l : Array Bool} (h : open_ l = 0) : Region.ready md ops l = [] := by
  rw [List.eq_nil_iff_forall_not_mem]
  intro k hk
  have h1 := open_set (ready_open hk)
  omega
theorem wpAny_inv {Inv : Array Bool → Act → World → Prop} (hstep : ∀ l a w, Inv l a w → ∀ k ∈ Region.ready md ops l, wpOp P ops Q k (Inv (l.setIfInBounds k true)) a w)
    (hend : ∀ l a w, Inv l a w → Region.ready md ops l = [] → Q .normal a w) : ∀ (n : Nat) (l : Array Bool) (a : Act) (w : World), open_ l ≤ n → Inv l a w → wpAny P md ops Q n l a w
  | 0, l, a, w, hn, h => ⟨open_zero (by omega), hend l a w h (open_zero (by omega))⟩
  | n + 1, l, a, w, hn, h => ⟨hend l a w h, fun k hk => wpOp_mono (fun b u hb => wpAny_inv hstep hend n _ b u (by have := open_set (ready_open hk); omega) hb) (hstep l a w h k hk)⟩
theorem wpE_inv {S : World → Prop} {z : Nat} {Inv : Array Bool → Act → World → Prop} (hIS : ∀ l a w, Inv l a w → S w) (hstep : ∀ l a w, Inv l a w → ∀ k ∈ Region.ready md ops l, wpOp P ops Q k (Inv (l.setIfInBounds k true)) a w)
    (hend : ∀ l a w, Inv l a w → Region.ready md ops l = [] → Q .normal a w) : ∀ (n : Nat) (l : Array Bool) (a : Act) (w : World), open_ l ≤ n → Inv l a w → wpE P md ops Q S z n l a w
  | 0, l, a, w, hn, h => ⟨open_zero (by omega), hend l a w h (open_zero (by omega))⟩
  | n + 1, l, a, w, hn, h => ⟨hend l a w h, fun k hk => wpOp_mono (fun b u hb => ⟨fun _ => hIS _ _ _ hb, wpE_inv hIS hstep hend n _ b u (by have := open_set (ready_open hk); omega) hb⟩) (hstep l a w h k hk)⟩
theorem wpE_until {S : World → Prop} {z q : Nat} {Inv : Array Bool → Act → World → Prop} (hstep : ∀ l a w, Inv l a w → ∀ k ∈ Region.ready md ops l, k ≠ q → wpOp P ops Q k (fun b u => S u ∧ Inv (l.setIfInBounds k true) b u) a w)
    (hne : ∀ l a w, Inv l a w → Region.ready md ops l ≠ []) (hq : ∀ n l a w, Inv l a w → q ∈ Region.ready md ops l → open_ l ≤ n → wpE P md ops Q S z n l a w) : ∀ (n : Nat) (l : Array Bool) (a : Act) (w : World), open_ l ≤ n → Inv l a w → wpE P md ops Q S z n l a w
  | 0, l, a, w, hn, h => absurd (open_zero (by omega)) (hne l a w h)
  | n + 1, l, a, w, hn, h => by
    by_cases hm : q ∈ Region.ready md ops l
    · exact hq (n + 1) l a w h hm hn
    · refine ⟨fun e => absurd e (hne l a w h), fun k hk => ?_⟩
      refine wpOp_mono (fun b u hb => ⟨fun _ => hb.1, wpE_until hstep hne hq n _ b u (by have := open_set (ready_open hk); omega) hb.2⟩) (hstep l a w h k hk (fun e => hm (e ▸ hk)))
def upd (f : Nat → Value) (k : Nat) (v : Value) : Nat → Value := fun j => if j = k then v else f j
theorem upd_same (f : Nat → Value) (k : Nat) (v : Value) : upd f k v k = v := by simp [upd]
theorem facts_set {F : Nat → Value → World → Prop} (hF : ∀ j v (w w' : World), F j v w → Below w.heap.size w w' → F j v w') {l : Array Bool} {k : Nat} {vals : Nat → Value} {v : Value} {w w' : World} (h : ∀ j, l.getD j false = true → F j (vals j) w) (hb : Below w.heap.size w w') (hv : F k v w') :
    ∀ j, (l.setIfInBounds k true).getD j false = true → F j (upd vals k v j) w' := fun j hj => by
  by_cases e : j = k
  · subst e; rw [upd_same]; exact hv
  · have : l.getD j false = true := by rwa [getD_set_ne false (Ne.symm e)] at hj
    simp only [upd, if_neg e]
    exact hF j _ _ _ (h j this) hb
def Taken (n : Nat) (ks : List Nat) (l : Array Bool) : Prop := l.size = n ∧ ∀ k ∈ ks, l.getD k false = true
theorem Taken.set {n : Nat} {ks : List Nat} {l : Array Bool} (h : Taken n ks l) (k : Nat) : Taken n ks (l.setIfInBounds k true) := ⟨by simpa using h.1, fun j hj => getD_set_true (h.2 j hj)⟩
theorem Taken.no {n : Nat} {ks : List Nat} {l : Array Bool} (h : Taken n ks l) {k : Nat} (hk : k ∈ Region.ready md ops l) (hm : k ∈ ks) : False := by
  have h1 := h.2 k hm
  have h2 := (Array.getElem?_eq_some_iff.1 (ready_open hk))
  obtain ⟨h3, h4⟩ := h2
  simp [h3, h4] at h1
theorem Taken.lt {n : Nat} {ks : List Nat} {l : Array Bool} (h : Taken n ks l) {k : Nat} (hk : k ∈ Region.ready md ops l) : k < n := by
  rw [← h.1]; exact (Array.getElem?_eq_some_iff.1 (ready_open hk)).1
theorem array_at {l m : Array Bool} (hs : l.size = m.size) (h : ∀ j, j < m.size → l.getD j false = m.getD j false) : l = m := by
  refine Array.ext hs (fun j h1 h2 => ?_)
  have := h j h2
  simpa [h1, h2] using this
theorem ready_some {l : Array Bool} (n : Nat) (hf : (List.range n).all (fun k => ((ops[k]?).map fun o => o.after.all fun e => decide (e.on < k)).getD false) = true) (k : Nat) (hk : k < n) (ho : l[k]? = some false) : Region.ready md ops l ≠ [] := by
  induction k using Nat.strongRecOn with
  | ind k ih =>
    intro he
    have hk2 := List.all_eq_true.1 hf k (List.mem_range.2 hk)
    cases hok : ops[k]? with
    | none => rw [hok] at hk2; simp at hk2
    | some o =>
      rw [hok] at hk2
      simp only [Option.map_some, Option.getD_some] at hk2
      have hmem : k ∈ Region.ready md ops l := by
        refine mem_ready.2 ⟨?_, o, hok, fun e hm hb => ?_⟩
        · obtain ⟨h1, h2⟩ := Array.getElem?_eq_some_iff.1 ho
          simp [h1, h2]
        · have hlt : e.on < k := by
            obtain ⟨i, hi, rfl⟩ := Array.mem_iff_getElem.1 hm
            simpa using Array.all_eq_true.1 hk2 i hi
          cases hg : l.getD e.on false with
          | true => rfl
          | false =>
            exfalso
            have hsz : k < l.size := (Array.getElem?_eq_some_iff.1 ho).1
            refine ih e.on hlt (by omega) ?_ he
            have h3 : e.on < l.size := by omega
            rw [Array.getElem?_eq_getElem h3]
            simpa [h3] using hg
      rw [he] at hmem
      cases hmem
theorem ready_after {l : Array Bool} {k : Nat} {o : Oper} (ho : ops[k]? = some o) (h : k ∈ Region.ready md ops l) : ∀ e ∈ o.after, Region.binds md e = true → l.getD e.on false = true := by
  obtain ⟨_, p, hp, hall⟩ := mem_ready.1 h
  rw [ho] at hp
  cases hp
  exact hall
def waitsB (md : Region.Mode) (ops : Array Oper) (k j : Nat) : Bool := ((ops[k]?).map fun o => o.after.any fun e => Region.binds md e && e.on == j).getD false
theorem waits_spec {l : Array Bool} {k j : Nat} (h : k ∈ Region.ready md ops l) (hw : waitsB md ops k j = true) : l.getD j false = true := by
  unfold waitsB at hw
  obtain ⟨_, o, ho, _⟩ := mem_ready.1 h
  rw [ho] at hw
  simp only [Option.map_some, Option.getD_some] at hw
  obtain ⟨i, hi, he⟩ := Array.any_eq_true.1 hw
  simp only [Bool.and_eq_true, beq_iff_eq] at he
  rw [← he.2]
  exact ready_after ho h _ (Array.getElem_mem hi) he.1
end
end Go.Proofs.YtmhjjhaipcgbiaaGreat


namespace Go.Proofs.YtmhjjhaipcgbiaaGreat
open Go.RowKit
set_option linter.unusedVariables false
set_option linter.unusedSimpArgs false
set_option maxRecDepth 100000
set_option maxHeartbeats 200000
theorem within_1 (n : Int) (w : World) : Calls Tryz.prog 15 #[.int .i64 n, .int .i64 1, .int .i64 16] w fun e w' => e = .returned (.int .i64 (withinI n 1 16)) ∧ w = w' := within_any n 1 16 (by omega) (by omega) (by omega) w
theorem within_0 (n : Int) (w : World) : Calls Tryz.prog 15 #[.int .i64 n, .int .i64 0, .int .i64 18] w fun e w' => e = .returned (.int .i64 (withinI n 0 18)) ∧ w = w' := within_any n 0 18 (by omega) (by omega) (by omega) w
def kindI (n : Int) : Int := withinI n 1 16
def scaleI (n : Int) : Int := if kindI n = 12 then withinI (n / 16) 0 18 else 0
theorem kind_any (n : Int) (w : World) : Calls Tryz.prog 24 #[.int .i64 n] w fun e w' => e = .returned (.agg #[.int .i64 (kindI n), .int .i64 (scaleI n)]) ∧ Below w.heap.size w w' := by
  by_cases h : kindI n = 12
  · have hk : withinI n 1 16 = 12 := h
    have hs : Aside (scaleI n = withinI (n / 16) 0 18) := ⟨by unfold scaleI; rw [if_pos h]⟩
    have hk := Aside.mk hk
    clear h
    go_enter Tryz.func24, Tryz.ntmps24
    go_wp2_with (fail)
    refine (within_1 _ _).mono ?_
    rintro e w1 ⟨rfl, rfl⟩
    rw [hk.out]
    go_wp2_with (fail)
    refine (within_0 _ _).mono ?_
    rintro e w1 ⟨rfl, rfl⟩
    go_wp2_with (fail)
    refine bodyPost_ret (v := .agg #[.int .i64 12, .int .i64 (withinI (n / 16) 0 18)]) (by simp [results, Tryz.results24, go_sem]) rfl ⟨?_, (by repeat (first | exact Below.refl _ _ | assumption | (refine Below.drew ?_) | (refine Below.trans ?_ (below_drewN _ _ _)) | (refine Below.alloc ?_ (by first | omega | (simp; done) | (simp; omega)) _) | (refine Below.setCell ?_ (by first | omega | (simp; done) | (simp; omega)) _)))⟩
    rw [hs.out, kindI, hk.out]
  · have hk : (withinI n 1 16 == 12) = false := by simpa [kindI] using h
    have hs : Aside (scaleI n = 0) := ⟨by unfold scaleI; rw [if_neg h]⟩
    have hu : Aside (kindI n = withinI n 1 16) := ⟨rfl⟩
    clear h
    go_enter Tryz.func24, Tryz.ntmps24
    go_wp2_with (fail)
    refine (within_1 _ _).mono ?_
    rintro e w1 ⟨rfl, rfl⟩
    go_wp2_with (fail)
    refine bodyPost_ret (v := .agg #[.int .i64 (withinI n 1 16), .int .i64 0]) (by simp [results, Tryz.results24, go_sem]) rfl ⟨?_, (by repeat (first | exact Below.refl _ _ | assumption | (refine Below.drew ?_) | (refine Below.trans ?_ (below_drewN _ _ _)) | (refine Below.alloc ?_ (by first | omega | (simp; done) | (simp; omega)) _) | (refine Below.setCell ?_ (by first | omega | (simp; done) | (simp; omega)) _)))⟩
    rw [hs.out, hu.out]
theorem kind_ok (n : Int) : okType (kindI n) (scaleI n) = true := by
  unfold okType scaleI kindI withinI
  simp only [decide_eq_true_eq]
  split <;> omega
end Go.Proofs.YtmhjjhaipcgbiaaGreat
