/- Texts of this claim, one behind the other: One, Zz. -/
import Derived.Test.YtmhjjhaipcgbiaaGreatZemP34
import Derived.BigQuiet
import Derived.Deep.QuietTactic
import Derived.Test.YtmhjjhaipcgbiaaGreatZemP7
import Derived.OrdersHeld
import Derived.Deep.RegionHeld3
import Derived.Test.YtmhjjhaipcgbiaaGreatZemP27

namespace Go.Proofs.YtmhjjhaipcgbiaaGreat
open Go.RowKit
set_option linter.unusedVariables false
section
variable {P : Program} {ops : Array Oper} {Q : Exit → Act → World → Prop} {md : Region.Mode} {S : World → Prop} {z : Nat}
def wpE (P : Program) (md : Region.Mode) (ops : Array Oper) (Q : Exit → Act → World → Prop) (S : World → Prop) (z : Nat) : Nat → Array Bool → Act → World → Prop
  | 0, l, a, w => Region.ready md ops l = [] ∧ Q .normal a w
  | n + 1, l, a, w => (Region.ready md ops l = [] → Q .normal a w) ∧ ∀ k ∈ Region.ready md ops l, wpOp P ops Q k (fun b u => (k ≠ z → S u) ∧ wpE P md ops Q S z n (l.setIfInBounds k true) b u) a w
theorem wpE.any : ∀ {n : Nat} {l : Array Bool} {a : Act} {w : World}, wpE P md ops Q S z n l a w → wpAny P md ops Q n l a w
  | 0, _, _, _, h => h
  | _ + 1, _, _, _, h => ⟨h.1, fun k hk => wpOp_mono (fun _ _ g => g.2.any) (h.2 k hk)⟩
def Closed (md : Region.Mode) (ops : Array Oper) (l : Array Bool) : Prop := ∀ (i : Nat) o, ops[i]? = some o → l.getD i false = true → ∀ e ∈ o.after, Region.binds md e = true → l.getD e.on false = true
def closedB (md : Region.Mode) (ops : Array Oper) (l : Array Bool) : Bool := (List.range ops.size).all fun i => !l.getD i false || ((ops[i]?).map (·.after.all fun e => !Region.binds md e || l.getD e.on false)).getD true
theorem closed_spec {l : Array Bool} (h : closedB md ops l = true) : Closed md ops l := fun i o ho hi e he hb => by
  have h1 := List.all_eq_true.1 h i (List.mem_range.2 (Array.getElem?_eq_some_iff.1 ho).1)
  rw [ho, hi] at h1
  simp only [Bool.not_true, Bool.false_or, Option.map_some, Option.getD_some] at h1
  have h2 := Array.all_eq_true'.1 h1 e he
  rw [hb] at h2
  simpa using h2
theorem Closed.more {l : Array Bool} {j : Nat} (h : Closed md ops l) (hj : j ∈ Region.ready md ops l) : Closed md ops (l.setIfInBounds j true) := fun i o ho hi e he hb => by
  obtain ⟨_, p, hp, hall⟩ := mem_ready.1 hj
  by_cases e1 : j = i
  · subst e1
    rw [ho] at hp; cases hp
    exact getD_set_true (hall e he hb)
  · rw [getD_set_ne false e1] at hi
    exact getD_set_true (h i o ho hi e he hb)
def marks (md : Region.Mode) (ops : Array Oper) : Nat → Array Bool → Array Bool
  | 0, m => m
  | i + 1, m => marks md ops i (if m.getD i false = true then ((ops[i]?).map fun o => o.after.toList.foldl (fun m e => if Region.binds md e = true then m.setIfInBounds e.on true else m) m).getD m else m)
def lastB (md : Region.Mode) (ops : Array Oper) (z : Nat) : Bool :=
  let m := marks md ops (z + 1) ((Array.replicate ops.size false).setIfInBounds z true)
  (List.range ops.size).all fun j => j == z || m.getD j false
theorem set_sub {l m : Array Bool} {z k : Nat} (h : ∀ j, j ≠ z → m.getD j false = true → l.getD j false = true) (hk : l.getD k false = true) : ∀ j, j ≠ z → (m.setIfInBounds k true).getD j false = true → l.getD j false = true := fun j hj hm => by
  by_cases e : k = j
  · subst e; exact hk
  · rw [getD_set_ne false e] at hm; exact h j hj hm
theorem fold_sub {l : Array Bool} {z : Nat} : ∀ (es : List Edge) (m : Array Bool), (∀ j, j ≠ z → m.getD j false = true → l.getD j false = true) → (∀ e ∈ es, Region.binds md e = true → l.getD e.on false = true) →
    ∀ j, j ≠ z → (es.foldl (fun m e => if Region.binds md e = true then m.setIfInBounds e.on true else m) m).getD j false = true → l.getD j false = true
  | [], m, h, _ => h
  | e :: es, m, h, he => by
    rw [List.foldl_cons]
    refine fold_sub es _ ?_ (fun x hx => he x (List.mem_cons_of_mem _ hx))
    split
    · rename_i hb; exact set_sub h (he e (List.mem_cons_self ..) hb)
    · exact h
theorem marks_sub {l : Array Bool} (hc : Closed md ops l) (hz : ∀ o, ops[z]? = some o → ∀ e ∈ o.after, Region.binds md e = true → l.getD e.on false = true) : ∀ (n : Nat) (m : Array Bool), (∀ j, j ≠ z → m.getD j false = true → l.getD j false = true) →
    ∀ j, j ≠ z → (marks md ops n m).getD j false = true → l.getD j false = true
  | 0, m, h => h
  | n + 1, m, h => by
    rw [marks]
    refine marks_sub hc hz n _ ?_
    split
    · rename_i hm
      cases ho : ops[n]? with
      | none => exact h
      | some o =>
        simp only [Option.map_some, Option.getD_some]
        refine fold_sub _ _ h (fun e he hb => ?_)
        have he' : e ∈ o.after := by simpa using he
        by_cases en : n = z
        · subst en; exact hz o ho e he' hb
        · exact hc n o ho (h n en hm) e he' hb
    · exact h
theorem last_spec (h : lastB md ops z = true) {l : Array Bool} (hc : Closed md ops l) (hz : z ∈ Region.ready md ops l) {j : Nat} (hj : j < ops.size) (hne : j ≠ z) : l.getD j false = true := by
  obtain ⟨_, o, ho, hall⟩ := mem_ready.1 hz
  have h1 := List.all_eq_true.1 h j (List.mem_range.2 hj)
  simp only [Bool.or_eq_true, beq_iff_eq, hne, false_or] at h1
  refine marks_sub hc (fun p hp => ?_) _ _ (fun i hi hm => ?_) j hne h1
  · rw [ho] at hp; cases hp; exact hall
  · rw [getD_set_ne false (Ne.symm hi)] at hm
    simp [Array.getElem?_replicate] at hm
    split at hm <;> simp at hm
theorem ahead {k : Nat} {o : Oper} {v : Value} (hk0 : ops[k]? = some o) (hsel : ∀ (j : Nat) (p : Oper) cs b, ops[j]? = some p → p.op ≠ .select cs b) (hpan : ∀ c a w, Q (.panic c) (a.put o.dst v) w → Q (.panic c) a w)
    (hz : lastB md ops z = true) (hkz : k ≠ z) : ∀ (n : Nat) {l : Array Bool} {a : Act} {w : World},
    (∀ j p, ops[j]? = some p → j ≠ k → l.getD j true = false → (∀ e ∈ p.after, Region.binds md e = true → e.on ≠ k) → o.apart ops p = true) → k ∈ Region.ready md ops l → YieldsIf P ops S o v a → S w →
    Closed md ops l → wpE P md ops Q S z n (l.setIfInBounds k true) (a.put o.dst v) w → wpE P md ops Q S z (n + 1) l a w := by
  intro n
  induction n with
  | zero =>
    intro l a w hp hk hy hS hcl h
    refine ⟨fun e => absurd hk (by rw [e]; simp), fun j hj => ?_⟩
    by_cases hne : j = k
    · subst hne; exact hy.wpOp hk0 hS ⟨fun _ => hS, h⟩
    · have := ready_mono hj hne
      rw [h.1] at this; cases this
  | succ n ih =>
    intro l a w hp hk hy hS hcl h
    refine ⟨fun e => absurd hk (by rw [e]; simp), fun j hj => ?_⟩
    by_cases hne : j = k
    · subst hne; exact hy.wpOp hk0 hS ⟨fun _ => hS, h⟩
    have hun := (mem_ready.1 hk).1
    have hkl : k < l.size := by
      rcases Nat.lt_or_ge k l.size with hl | hl
      · exact hl
      · simp [Array.getElem?_eq_none hl] at hun
    have hkf : l.getD k false = false := by simpa [hkl] using hun
    have hjz : j ≠ z := fun e => by
      subst e
      have := last_spec hz hcl hj (Array.getElem?_eq_some_iff.1 hk0).1 (Ne.symm hne)
      rw [hkf] at this; cases this
    obtain ⟨hjun, p, hpj, hall⟩ := mem_ready.1 hj
    have hno : ∀ e ∈ p.after, Region.binds md e = true → e.on ≠ k := fun e he hb hek => by
      have g := hall e he hb
      rw [hek, hkf] at g; cases g
    refine wpOp_mono (fun b u g => ?_) (wpOp_putIf hpj (hp j p hpj hne hjun hno) (fun cs b => hsel k o cs b hk0) (fun cs b => hsel j p cs b hpj) hpan hy (h.2 j (ready_mono hj hne)))
    obtain ⟨g1, g2, g3⟩ := g
    rw [← Array.setIfInBounds_comm _ _ hne] at g3
    refine ⟨fun _ => g2 hjz, ih (fun i q hq hik hiun hino => hp i q hq hik ?_ hino) (ready_mono hk (Ne.symm hne)) g1 (g2 hjz) (hcl.more hj) g3⟩
    by_cases e : j = i
    · subst e; exact hjun
    · rwa [getD_set_ne true e] at hiun
theorem wpE_take {k : Nat} {o : Oper} {v : Value} {n : Nat} {l : Array Bool} {a : Act} {w : World} (hk0 : ops[k]? = some o) (hs : Region.noSelect ops = true) (hf : Region.free md ops l k = true) (hr : (Region.ready md ops l).contains k = true) (hz : (lastB md ops z && k != z && closedB md ops l) = true)
    (hpan : ∀ c a w, Q (.panic c) (a.put o.dst v) w → Q (.panic c) a w) (hy : YieldsIf P ops S o v a) (hS : S w)
    (h : wpE P md ops Q S z n (l.setIfInBounds k true) (a.put o.dst v) w) : wpE P md ops Q S z (n + 1) l a w := by
  simp only [Bool.and_eq_true, bne_iff_ne] at hz
  exact ahead hk0 (Region.noSelect_spec hs) hpan hz.1.1 hz.1.2 n (Region.free_spec hk0 hf) (by simpa using hr) hy hS (closed_spec hz.2) h
theorem wpE_one {k : Nat} {o : Oper} {n : Nat} {l : Array Bool} {a : Act} {w : World} (hk0 : ops[k]? = some o) (hr : Region.ready md ops l = [k])
    (h : ∀ K : Act → World → Prop, Shut (∀ b u, S u → (S u → wpE P md ops Q S z n (l.setIfInBounds k true) b u) → K b u) → if Region.wanted o (yielded ops a.tmps) = true then Oper.wp P o a w K Q else K (a.put o.dst undef) w) : wpE P md ops Q S z (n + 1) l a w := by
  refine ⟨fun e => (by rw [hr] at e; cases e), fun j hj => ?_⟩
  rw [hr] at hj
  obtain rfl : j = k := by simpa using hj
  exact wpOp_step hk0 (fun K hK => h K (fun b u hS hW => hK b u ⟨fun _ => hS, hW hS⟩))
theorem wpE_last {k : Nat} {o : Oper} {n : Nat} {l : Array Bool} {a : Act} {w : World} (hk0 : ops[k]? = some o) (hr : Region.ready md ops l = [k]) (hr2 : Region.ready md ops (l.setIfInBounds k true) = []) (hkz : k = z)
    (h : ∀ K : Act → World → Prop, Shut (∀ b u, Q .normal b u → K b u) → if Region.wanted o (yielded ops a.tmps) = true then Oper.wp P o a w K Q else K (a.put o.dst undef) w) : wpE P md ops Q S z (n + 1) l a w := by
  refine ⟨fun e => (by rw [hr] at e; cases e), fun j hj => ?_⟩
  rw [hr] at hj
  obtain rfl : j = k := by simpa using hj
  refine wpOp_step hk0 (fun K hK => h K (fun b u hq => hK b u ⟨fun e => absurd hkz e, ?_⟩))
  cases n with
  | zero => exact ⟨hr2, hq⟩
  | succ n => exact ⟨fun _ => hq, fun i hi => by rw [hr2] at hi; cases hi⟩
theorem wp_regionE {id : Nat} {a : Act} {w : World} (S : World → Prop) (z n : Nat) (hm : P.follows .mixedOrders = true) (hn : ops.size = n) (h : wpE P .any ops Q S z n (Array.replicate n false) a w.drew) : (Code.region id ops true).wp P Q a w := by
  subst hn; exact wp_region_any hm h.any
end
end Go.Proofs.YtmhjjhaipcgbiaaGreat


namespace Go.Proofs.YtmhjjhaipcgbiaaGreat
open Go.RowKit
set_option linter.unusedVariables false
set_option linter.unusedSimpArgs false
set_option maxRecDepth 100000
set_option maxHeartbeats 4000000
def zStep (k : Int) (z : Zn) (v : V) : Zn := if v.null then ⟨z.n, z.nulls + 1, z.odd, z.has, z.least, z.most, z.first, z.last⟩ else if oddB k v.bits then ⟨z.n, z.nulls, z.odd + 1, z.has, z.least, z.most, z.first, z.last⟩ else zWith k z v
def zFold (k : Int) (n : Nat) (l : List V) : Zn := l.foldl (zStep k) ⟨n, 0, 0, false, 0, 0, [], []⟩
theorem zFold_snoc (k : Int) (n : Nat) (l : List V) (v : V) : zFold k n (l ++ [v]) = zStep k (zFold k n l) v := by simp [zFold, List.foldl_append]
def zZero : Zn := ⟨0, 0, 0, false, 0, 0, [], []⟩
theorem plain_of {k s : Int} {v : V} (hv : vOK k s v) (hn : v.null = false) (ho : oddB k v.bits = false) : PlainV k v := by
  have h4 := hv.2.2.2 hn
  refine ⟨fun hw => ?_, fun hw => ?_⟩
  · rw [hw] at h4
    simp only [Bool.false_eq_true, if_false] at h4
    have hf : bitsOK k v.bits = true := by have := h4.1; unfold fitsB at this; simp at this; exact this.2
    exact ⟨⟨by omega, by have := hv.2.1; omega, hf, ho⟩, h4.2⟩
  · rw [hw] at h4
    exact ⟨by simpa using h4, hv.1⟩
structure ZInv (k : Int) (n : Nat) (l : List V) : Prop where
  ok : ZOK k (zFold k n l)
  nn : (zFold k n l).n = n
  nulls : (zFold k n l).nulls ≤ l.length
  odd : (zFold k n l).odd ≤ l.length
  few : (zFold k n l).first.length ≤ 100000000 ∧ (zFold k n l).last.length ≤ 100000000
theorem zinv {k s : Int} {n : Nat} : ∀ (l : List V), (∀ v ∈ l, vOK k s v ∧ v.text.length ≤ 100000000) → ZInv k n l := fun l => by
  induction l using snoc_ind with
  | h0 => exact fun _ => ⟨fun h => (by cases (show false = true from h)), rfl, Nat.le_refl _, Nat.le_refl _, Nat.zero_le _, Nat.zero_le _⟩
  | h1 l v ih =>
    intro hl
    obtain ⟨i1, i2, i3, i4, i5⟩ := ih (fun v hv => hl v (List.mem_append_left _ hv))
    obtain ⟨hv, hvl⟩ := hl v (by simp)
    have hlen : (l ++ [v]).length = l.length + 1 := by simp
    have key : ZInv k n (l ++ [v]) ↔ (ZOK k (zStep k (zFold k n l) v) ∧ (zStep k (zFold k n l) v).n = n ∧ (zStep k (zFold k n l) v).nulls ≤ l.length + 1 ∧ (zStep k (zFold k n l) v).odd ≤ l.length + 1 ∧ (zStep k (zFold k n l) v).first.length ≤ 100000000 ∧ (zStep k (zFold k n l) v).last.length ≤ 100000000) := by
      constructor
      · intro h; have h1 := h.ok; have h2 := h.nn; have h3 := h.nulls; have h4 := h.odd; have h5 := h.few; rw [zFold_snoc] at h1 h2 h3 h4 h5; rw [hlen] at h3 h4; exact ⟨h1, h2, h3, h4, h5.1, h5.2⟩
      · rintro ⟨h1, h2, h3, h4, h5, h6⟩; refine ⟨?_, ?_, ?_, ?_, ?_⟩ <;> rw [zFold_snoc] <;> (try rw [hlen]) <;> first | assumption | exact ⟨h5, h6⟩
    rw [key]
    generalize zFold k n l = z at *
    unfold zStep
    cases hn : v.null with
    | true => simp only [if_true]; exact ⟨i1, i2, by omega, by omega, i5.1, i5.2⟩
    | false =>
      simp only [Bool.false_eq_true, if_false]
      cases ho : oddB k v.bits with
      | true => simp only [if_true]; exact ⟨i1, i2, by omega, by omega, i5.1, i5.2⟩
      | false =>
        simp only [Bool.false_eq_true, if_false]
        refine ⟨zok_with i1 (plain_of hv hn ho), i2, by show z.nulls ≤ _; omega, by show z.odd ≤ _; omega, ?_, ?_⟩
        · show (if zLo k z v then v.text else z.first).length ≤ _
          split
          · exact hvl
          · exact i5.1
        · show (if zHi k z v then v.text else z.last).length ≤ _
          split
          · exact hvl
          · exact i5.2
theorem valC_small18 {c : Col} (hs : Small18 c) (i : Nat) : (valC c i).text.length ≤ 4900 := by
  unfold valC valueC
  obtain ⟨_, h1, h2⟩ := hs
  split
  · exact Nat.zero_le _
  split
  · show ((c.data.drop _).take _).length ≤ 4900
    rw [List.length_take, List.length_drop]; omega
  split
  · show (c.words.getD _ []).length ≤ 4900
    rw [List.getD_eq_getElem?_getD]
    cases e : c.words[wordAt c.data (i * 4) 4]? with
    | none => exact Nat.zero_le _
    | some t => exact h2 t (List.mem_of_getElem? e)
  · exact Nat.zero_le _
def zoneC (c : Col) : Zn := zFold c.k c.n.toNat (valsC c c.n.toNat)
theorem rd_keepZ {w w' : World} {t : List Int} {A : SL} {zb : Nat} {a0 a1 a2 a3 a4 a6 a7 : Int} {b5 : Bool} {A8 A9 : Option Addr} {n8 c8 n9 c9 : Nat} {T : TypeId} (h : RdT w t A) (hz : w.heap[zb]? = some (.cells #[.int .i64 a0, .int .i64 a1, .int .i64 a2, .int .i64 a3, .int .i64 a4, .bool b5, .int .u64 a6, .int .u64 a7, .slice A8 n8 c8, .slice A9 n9 c9] T (0, 0)))
    (hk : Kept (fun k => k = zb ∨ w.heap.size ≤ k) w w') : RdT w' t A := by
  obtain ⟨hl, a, cap, e, h1, h2, h3, h4⟩ := h
  refine ⟨hl, a, cap, e, h1, h2, h3, fun j u hu => ?_⟩
  obtain ⟨b, off, rfl, hc⟩ := h4 j u hu
  refine ⟨b, off, rfl, hk.cell hc ?_⟩
  rintro (e2 | e2)
  · dsimp only at e2
    subst e2
    rw [cell_blk hz] at hc
    have hu8 : ∃ x, u = .int .u8 x := by
      rw [List.getElem?_map] at hu
      cases hq : t[j]? with
      | none => rw [hq] at hu; cases hu
      | some y => rw [hq] at hu; exact ⟨y, (Option.some.inj hu).symm⟩
    obtain ⟨x, rfl⟩ := hu8
    have hlt := (Array.getElem?_eq_some_iff.1 hc).1
    generalize off + j = o at *
    simp only [List.size_toArray, List.length_cons, List.length_nil] at hlt
    obtain rfl | rfl | rfl | rfl | rfl | rfl | rfl | rfl | rfl | rfl : o = 0 ∨ o = 1 ∨ o = 2 ∨ o = 3 ∨ o = 4 ∨ o = 5 ∨ o = 6 ∨ o = 7 ∨ o = 8 ∨ o = 9 := by omega
    all_goals (simp at hc)
  · have := World.block_lt_of_cell? _ _ hc
    dsimp only at e2 this
    omega
structure ROfI (c : Col) (B D E X : SL) (vals : List Value) (w : World) (A : SL) (l : List V) (xs : List Value) (base zb ln i : Nat) (wr : World) : Prop where
  bel : Below w.heap.size w wr
  cb : wr.heap[w.heap.size]? = some (colB c B D E X)
  rb : wr.heap[w.heap.size + 1]? = some (.cells #[.int .i64 0, .int .i64 0, .int .i64 0, .int .i64 0, .int .i64 0, .bool false, .int .u64 0, .int .u64 0, .slice none 0 0, .slice none 0 0] 79 (0, 0))
  row : RdO (QC c B D E X vals) wr base A l xs
  lt : zb < wr.heap.size
  zb : ∃ F L : SL, wr.heap[zb]? = some (.cells #[.int .i64 c.k, .int .i64 c.s, .int .i64 ((zFold c.k ln (l.take i)).n : Int), .int .i64 ((zFold c.k ln (l.take i)).nulls : Int), .int .i64 ((zFold c.k ln (l.take i)).odd : Int), .bool (zFold c.k ln (l.take i)).has, .int .u64 ((zFold c.k ln (l.take i)).least : Int), .int .u64 ((zFold c.k ln (l.take i)).most : Int), .slice F.a (zFold c.k ln (l.take i)).first.length F.c, .slice L.a (zFold c.k ln (l.take i)).last.length L.c] 79 (0, 0)) ∧ RdT wr (zFold c.k ln (l.take i)).first F ∧ RdT wr (zFold c.k ln (l.take i)).last L
theorem set10 {w : World} {b : Nat} {x0 x1 x2 x3 x4 x5 x6 x7 x8 x9 : Value} {T : TypeId} (h : w.heap[b]? = some (.cells #[x0, x1, x2, x3, x4, x5, x6, x7, x8, x9] T (0, 0))) (y0 y1 y2 y3 y4 y5 y6 y7 y8 y9 : Value) :
    ((((((((((w.setCell ⟨b, 0, none⟩ y0).setCell ⟨b, 1, none⟩ y1).setCell ⟨b, 2, none⟩ y2).setCell ⟨b, 3, none⟩ y3).setCell ⟨b, 4, none⟩ y4).setCell ⟨b, 5, none⟩ y5).setCell ⟨b, 6, none⟩ y6).setCell ⟨b, 7, none⟩ y7).setCell ⟨b, 8, none⟩ y8).setCell ⟨b, 9, none⟩ y9).heap[b]? = some (.cells #[y0, y1, y2, y3, y4, y5, y6, y7, y8, y9] T (0, 0)) := by
  have h := heap_setCell_at (k := 9) (heap_setCell_at (k := 8) (heap_setCell_at (k := 7) (heap_setCell_at (k := 6) (heap_setCell_at (k := 5) (heap_setCell_at (k := 4) (heap_setCell_at (k := 3) (heap_setCell_at (k := 2) (heap_setCell_at (k := 1) (heap_setCell_at (k := 0) h y0) y1) y2) y3) y4) y5) y6) y7) y8) y9
  simpa using h
theorem kept10 (w : World) (b : Nat) (y0 y1 y2 y3 y4 y5 y6 y7 y8 y9 : Value) : Kept (fun k => k = b) w ((((((((((w.setCell ⟨b, 0, none⟩ y0).setCell ⟨b, 1, none⟩ y1).setCell ⟨b, 2, none⟩ y2).setCell ⟨b, 3, none⟩ y3).setCell ⟨b, 4, none⟩ y4).setCell ⟨b, 5, none⟩ y5).setCell ⟨b, 6, none⟩ y6).setCell ⟨b, 7, none⟩ y7).setCell ⟨b, 8, none⟩ y8).setCell ⟨b, 9, none⟩ y9) := by
  repeat (refine Kept.trans ?_ (Kept.setCell _ _ _) (fun _ e _ => e))
  exact Kept.refl _ _
theorem ROfI.next {c : Col} {B D E X : SL} {vals : List Value} {w wr W : World} {A : SL} {l : List V} {xs : List Value} {base zb ln i : Nat} (h : ROfI c B D E X vals w A l xs base zb ln i wr) (hw : w.heap.size + 2 ≤ zb) (hk : Kept (fun k => k = zb ∨ wr.heap.size ≤ k) wr W) {z' : Zn} (e : zFold c.k ln (l.take (i + 1)) = z') {F L : SL}
    (hz : W.heap[zb]? = some (.cells #[.int .i64 c.k, .int .i64 c.s, .int .i64 (z'.n : Int), .int .i64 (z'.nulls : Int), .int .i64 (z'.odd : Int), .bool z'.has, .int .u64 (z'.least : Int), .int .u64 (z'.most : Int), .slice F.a z'.first.length F.c, .slice L.a z'.last.length L.c] 79 (0, 0))) (hF : RdT W z'.first F) (hL : RdT W z'.last L) : ROfI c B D E X vals w A l xs base zb ln (i + 1) W := by
  subst e
  obtain ⟨F0, L0, hz0, _⟩ := h.zb
  have hs := h.bel.size
  have hl1 := lt_of_blk h.rb
  refine ⟨h.bel.trans (hk.to_below hs (fun k e => by rcases e with e | e <;> omega)), (hk.block _ (lt_of_blk h.cb) (fun e => by rcases e with e | e <;> omega)).trans h.cb, (hk.block _ hl1 (fun e => by rcases e with e | e <;> omega)).trans h.rb, ⟨h.row.row.keptT hk (fun b e hb cs hc => ?_), h.row.each⟩, Nat.lt_of_lt_of_le h.lt hk.size, F, L, hz, hF, hL⟩
  rcases e with rfl | e
  · rw [hz0] at hc; cases hc
  · omega
theorem ROfI.below {c : Col} {B D E X : SL} {vals : List Value} {w wr W : World} {A : SL} {l : List V} {xs : List Value} {base zb ln i : Nat} (h : ROfI c B D E X vals w A l xs base zb ln i wr) (hb : Below wr.heap.size wr W) : ROfI c B D E X vals w A l xs base zb ln i W := by
  obtain ⟨F, L, h1, h2, h3⟩ := h.zb
  exact ⟨below_chain h.bel hb, (hb.block _ (lt_of_blk h.cb)).trans h.cb, (hb.block _ (lt_of_blk h.rb)).trans h.rb, h.row.below hb, Nat.lt_of_lt_of_le h.lt hb.size, F, L, (hb.block _ (lt_of_blk h1)).trans h1, h2.below hb, h3.below hb⟩
theorem vok_32 {k s : Int} {v : V} (h : vOK k s v) (hn : v.null = false) : k = 9 → (v.bits : Int) < 4294967296 := fun e => by
  subst e
  have h4 := h.2.2.2 hn
  rw [show wordedB 9 = false by decide] at h4
  simp only [Bool.false_eq_true, if_false] at h4
  have hf : bitsOK 9 v.bits = true := by have := h4.1; unfold fitsB at this; simp at this; exact this.2
  exact fit_32 hf
end Go.Proofs.YtmhjjhaipcgbiaaGreat
