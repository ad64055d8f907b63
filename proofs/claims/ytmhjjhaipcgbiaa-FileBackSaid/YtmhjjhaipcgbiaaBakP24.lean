/- Texts of this claim, one behind the other: Fv, Fh, Fc. -/
import Derived.Test.YtmhjjhaipcgbiaaBakP17
import Derived.Laws.BitsAllLaws
import Derived.Test.YtmhjjhaipcgbiaaBakP9
import Derived.Test.YtmhjjhaipcgbiaaBakP1
import Derived.Test.YtmhjjhaipcgbiaaBakP14

namespace Go.Proofs.Ytmhjjhaipcgbiaa
open Go.RowKit
set_option linter.unusedVariables false
set_option linter.unusedSimpArgs false
set_option maxRecDepth 100000
set_option maxHeartbeats 1000000
def byteAt (s : ByteArray) (i : Nat) : Nat := if h : i < s.size then s[i].toNat else 0
def digB (c : Nat) : Bool := decide (48 ≤ c) && decide (c ≤ 57)
def charB (c : Nat) : Bool := c == 95 || digB c || (decide (65 ≤ c) && decide (c ≤ 90)) || (decide (97 ≤ c) && decide (c ≤ 122))
def nameB (s : ByteArray) : Bool := decide (1 ≤ s.size) && decide (s.size ≤ 64) && !digB (byteAt s 0) && (List.range s.size).all (fun i => charB (byteAt s i))
theorem or32 : ∀ c : Nat, c < 256 → ((c ||| 32 < 97 ∨ 122 < c ||| 32) ↔ ¬ (65 ≤ c ∧ c ≤ 90 ∨ 97 ≤ c ∧ c ≤ 122)) := by decide
theorem byte_at {s : ByteArray} {i : Nat} (h : i < s.size) : s[i].toNat = byteAt s i := by unfold byteAt; rw [dif_pos h]
theorem byteAt_lt (s : ByteArray) (i : Nat) : byteAt s i < 256 := by
  unfold byteAt; split
  · exact UInt8.toNat_lt _
  · omega
theorem empty_size {s : ByteArray} : s.toList.isEmpty = decide (s.size = 0) := by
  rw [ByteArray.toList_eq]
  cases s with | mk d => 
  cases d with | mk l =>
  cases l <;> simp [ByteArray.size]
theorem nameB_no {s : ByteArray} {i : Nat} (hi : i < s.size) (h : charB (byteAt s i) = false) : nameB s = false := by
  unfold nameB
  rw [Bool.and_eq_false_iff]
  right
  rw [List.all_eq_false]
  exact ⟨i, List.mem_range.2 hi, by rw [h]; simp⟩
theorem nameB_yes {s : ByteArray} (h1 : 1 ≤ s.size) (h2 : s.size ≤ 64) (h3 : digB (byteAt s 0) = false) (h : ∀ i, i < s.size → charB (byteAt s i) = true) : nameB s = true := by
  unfold nameB
  rw [h3, decide_eq_true h1, decide_eq_true h2]
  simpa using h
theorem named_any (s : ByteArray) (hs : s.size ≤ 10000000) (w : World) : Calls Try.prog 112 #[.string s] w (BoolP (nameB s) w) := by
  have hem := empty_size (s := s)
  by_cases h1 : s.size = 0
  · have HN := Aside.mk (show nameB s = false by unfold nameB; rw [decide_eq_false (by omega)]; rfl)
    rw [decide_eq_true h1] at hem
    clear h1
    go_enter Try.func112, Try.ntmps112
    go_wp2_with fail
    go_ret
    exact ⟨by rw [HN.out]; rfl, Below.refl _ _⟩
  rw [decide_eq_false h1] at hem
  by_cases h2 : 64 < s.size
  · have HN := Aside.mk (show nameB s = false by unfold nameB; rw [show decide (s.size ≤ 64) = false from decide_eq_false (by omega)]; simp)
    have h2' : decide (64 < (s.size : Int)) = true := decide_eq_true (by omega)
    clear h1
    go_enter Try.func112, Try.ntmps112
    go_wp2_with fail
    go_ret
    exact ⟨by rw [HN.out]; rfl, Below.refl _ _⟩
  have h2' : decide (64 < (s.size : Int)) = false := decide_eq_false (by omega)
  have h0 : 0 < s.size := by omega
  have e0 := byte_at h0
  go_enter Try.func112, Try.ntmps112
  go_wp2_with fail
  · have hd : digB (byteAt s 0) = true := by unfold digB; simp only [Bool.and_eq_true, decide_eq_true_eq]; omega
    have HN := Aside.mk (show nameB s = false by unfold nameB; rw [hd]; simp)
    go_ret
    exact ⟨by rw [HN.out]; rfl, Below.refl _ _⟩
  all_goals
    have hd : digB (byteAt s 0) = false := by unfold digB; rw [Bool.eq_false_iff]; simp only [ne_eq, Bool.and_eq_true, decide_eq_true_eq]; omega
    have HD := Aside.mk hd
    clear hd
    go_loopw [3, 4, 24] (fun _ _ iv wr => ∃ i : Nat, i ≤ s.size ∧ iv = .int .i64 (i : Int) ∧ Aside (w = wr) ∧ Aside (∀ j, j < i → charB (byteAt s j) = true)) (fun _ _ iv _ => s.size - (intOf iv).toNat)
    case atStart => exact ⟨0, by omega, rfl, ⟨rfl⟩, ⟨fun j hj => by omega⟩⟩
    case round =>
      obtain ⟨i, hi, rfl, ⟨rfl⟩, HA⟩ := hrel
      by_cases hlt : i < s.size
      · have eb := byte_at hlt
        have hb := byteAt_lt s i
        have ho := or32 (byteAt s i) hb
        have hor : bits .or .u8 (byteAt s i : Int) 32 = ((byteAt s i ||| 32 : Nat) : Int) := u8_or_nat (byteAt s i) 32 hb (by decide)
        have HNO := Aside.mk (fun h => nameB_no (s := s) hlt h)
        have HYE := Aside.mk (fun (h : charB (byteAt s i) = true) j (hj : j < i + 1) => (by
          rcases Nat.lt_or_ge j i with h1 | h1
          · exact HA.out j h1
          · rw [show j = i by omega]; exact h : charB (byteAt s j) = true))
        generalize byteAt s i = b at *
        generalize b ||| 32 = o at *
        go_wp2_with fail
        all_goals first
          | (have hc : charB b = true := by
              (try simp only [bne_iff_ne, ne_eq, bne_eq_false_iff_eq] at *)
              simp only [charB, digB, Bool.or_eq_true, Bool.and_eq_true, decide_eq_true_eq, beq_iff_eq]; omega
             exact ⟨⟨i + 1, by omega, by simp, ⟨trivial⟩, ⟨HYE.out hc⟩⟩, by simp [intOf]; omega⟩)
          | (have hc : charB b = false := by
              rw [Bool.eq_false_iff]
              (try simp only [bne_iff_ne, ne_eq, bne_eq_false_iff_eq] at *)
              simp only [ne_eq, charB, digB, Bool.or_eq_true, Bool.and_eq_true, decide_eq_true_eq, beq_iff_eq]; omega
             go_ret
             exact ⟨by rw [HNO.out hc]; rfl, Below.refl _ _⟩)
      · obtain rfl : i = s.size := by omega
        have HN := Aside.mk (nameB_yes (by omega) (by omega) HD.out HA.out)
        go_wp2_with fail
        go_ret
        exact ⟨by rw [HN.out]; rfl, Below.refl _ _⟩
end Go.Proofs.Ytmhjjhaipcgbiaa


namespace Go.Proofs.Ytmhjjhaipcgbiaa
open Go.RowKit
set_option linter.unusedVariables false
set_option linter.unusedSimpArgs false
set_option maxRecDepth 100000
set_option maxHeartbeats 1000000
structure Hd where
  name : ByteArray
  k : Int
  s : Int
  null : Bool
def hdCells (h : Hd) : List Value := [.string h.name, .int .i64 h.k, .int .i64 h.s, .bool h.null]
theorem flat4 : ∀ (hs : List Hd) (i : Nat) (h : i < hs.length) (j : Nat), j < 4 → (hs.flatMap hdCells)[i * 4 + j]? = (hdCells hs[i])[j]?
  | [], i, h, _, _ => by simp at h
  | x :: hs, 0, h, j, hj => by
    rw [List.flatMap_cons, Nat.zero_mul, Nat.zero_add, List.getElem?_append_left (by simpa [hdCells] using hj)]; rfl
  | x :: hs, i + 1, h, j, hj => by
    rw [List.flatMap_cons, List.getElem?_append_right (by simp [hdCells]; omega)]
    have := flat4 hs i (by simpa using h) j hj
    simpa [hdCells, show (i + 1) * 4 + j - 4 = i * 4 + j by omega] using this
theorem flat4_len (hs : List Hd) : (hs.flatMap hdCells).length = hs.length * 4 := by
  induction hs with
  | nil => rfl
  | cons x hs ih => rw [List.flatMap_cons, List.length_append, ih]; simp [hdCells]; omega
def RdH (w : World) (A : SL) (hs : List Hd) : Prop := Rd w 4 (.slice A.a hs.length A.c) hs.length (hs.flatMap hdCells)
theorem RdH.below {w w' : World} {A : SL} {hs : List Hd} (h : RdH w A hs) (hb : Below w.heap.size w w') : RdH w' A hs := Rd.below h hb
theorem RdH.at {w : World} {A : SL} {hs : List Hd} (h : RdH w A hs) {i : Nat} (hi : i < hs.length) : ∃ b off, A.a = some ⟨b, off, none⟩ ∧ hs.length ≤ A.c ∧ A.c ≤ 9223372036854775807 ∧ w.cell? ⟨b, off + i * 4, none⟩ = some (.string hs[i].name) ∧ w.cell? ⟨b, off + i * 4 + 1, none⟩ = some (.int .i64 hs[i].k) ∧ w.cell? ⟨b, off + i * 4 + 2, none⟩ = some (.int .i64 hs[i].s) ∧ w.cell? ⟨b, off + i * 4 + 3, none⟩ = some (.bool hs[i].null) := by
  obtain ⟨g, off, cap, e, q1, q2, hc⟩ := Rd.some_ h (by rw [flat4_len]; omega)
  simp only [Value.slice.injEq, true_and] at e
  obtain ⟨e1, e2⟩ := e
  refine ⟨g, off, e1, e2 ▸ q1, e2 ▸ q2, hc _ _ (flat4 hs i hi 0 (by decide)), ?_, ?_, ?_⟩
  · rw [Nat.add_assoc]; exact hc _ _ (flat4 hs i hi 1 (by decide))
  · rw [Nat.add_assoc]; exact hc _ _ (flat4 hs i hi 2 (by decide))
  · rw [Nat.add_assoc]; exact hc _ _ (flat4 hs i hi 3 (by decide))
def NamesOK (hs : List Hd) : Prop := ∀ h ∈ hs, h.name.size ≤ 10000000
def ChkP (p : Prop) (w : World) (e : Ending) (w' : World) : Prop := ∃ r : Int, e = .returned (.int .i64 r) ∧ (r = 0 ↔ p) ∧ Below w.heap.size w w'
def idxOf (nm : ByteArray) (hs : List Hd) : Nat := hs.findIdx (fun h => h.name.toList == nm.toList)
def DistH (hs : List Hd) : Prop := ∀ i j (hj : j < hs.length) (h : i < j), hs[i].name.toList ≠ hs[j].name.toList
def SchemaP (hs : List Hd) : Prop := 1 ≤ hs.length ∧ hs.length ≤ 64 ∧ (∀ h ∈ hs, nameB h.name = true) ∧ (∀ h ∈ hs, okType h.k h.s = true) ∧ DistH hs
theorem idx_at {nm : ByteArray} {hs : List Hd} {i : Nat} (h : i < hs.length) (hn : ∀ j (hj : j < i), (hs[j].name.toList == nm.toList) = false) (hy : (hs[i].name.toList == nm.toList) = true) : idxOf nm hs = i := by
  unfold idxOf
  rw [List.findIdx_eq h]
  exact ⟨hy, fun j hj => by rw [hn j hj]⟩
theorem idx_no {nm : ByteArray} {hs : List Hd} (hn : ∀ j (hj : j < hs.length), (hs[j].name.toList == nm.toList) = false) : idxOf nm hs = hs.length := by
  unfold idxOf
  rw [List.findIdx_eq_length]
  intro x hx
  obtain ⟨j, hj, rfl⟩ := List.mem_iff_getElem.1 hx
  exact hn j hj
theorem find_any (nm : ByteArray) (hs : List Hd) (hl : hs.length ≤ 10000000) (A : SL) (w : World) (h : RdH w A hs) :
    Calls Try.prog 119 #[.string nm, .slice A.a hs.length A.c] w (fun e w' => e = .returned (.tuple #[.int .i64 (if idxOf nm hs < hs.length then (idxOf nm hs : Int) else 0), .bool (decide (idxOf nm hs < hs.length))]) ∧ Below w.heap.size w w') := by
  have H := Aside.mk h
  clear h
  go_enter Try.func119, Try.ntmps119
  go_wp2
  go_loopw [6, 7, 10] (fun _ _ iv wr => ∃ i : Nat, i ≤ hs.length ∧ iv = .int .i64 (i : Int) ∧ Aside (Below w.heap.size w wr) ∧ Aside (∀ j (hj : j < i) (hh : j < hs.length), (hs[j].name.toList == nm.toList) = false)) (fun _ _ iv _ => hs.length - (intOf iv).toNat)
  case atStart => exact ⟨0, by omega, rfl, ⟨Below.refl _ _⟩, ⟨fun j hj => by omega⟩⟩
  case round =>
    obtain ⟨i, hi, rfl, HB, HA⟩ := hrel
    by_cases hlt : i < hs.length
    · obtain ⟨g, off, e1, q1, q2, v0, v1, v2, v3⟩ := (H.out.below HB.out).at hlt
      have HB2 := Aside.mk (below_chain HB.out (below_new wr (.cells #[.string hs[i].name, .int .i64 hs[i].k, .int .i64 hs[i].s, .bool hs[i].null] 137)))
      obtain ⟨a, c⟩ := A
      simp only at e1 q1 q2
      subst e1
      have HAT := Aside.mk (fun hy => idx_at (nm := nm) hlt (fun j hj => HA.out j hj (by omega)) hy)
      have HNX := Aside.mk (fun (hn : (hs[i].name.toList == nm.toList) = false) j (hj : j < i + 1) (hh : j < hs.length) => (by
        rcases Nat.lt_or_ge j i with h1 | h1
        · exact HA.out j h1 hh
        · have : j = i := by omega
          subst this; exact hn : (hs[j].name.toList == nm.toList) = false))
      cases hq : (hs[i].name.toList == nm.toList) with
      | true =>
        have hix := HAT.out hq
        clear HAT HNX
        go_wp2_with fail
        go_ret2
        exact ⟨rfl, HB2.out⟩
      | false =>
        have HNY := Aside.mk (HNX.out hq)
        clear HAT HNX
        go_wp2_with fail
        exact ⟨⟨i + 1, by omega, by simp, HB2, HNY⟩, by simp [intOf]; omega⟩
    · obtain rfl : i = hs.length := by omega
      have hix := idx_no (nm := nm) (fun j hj => HA.out j hj hj)
      go_wp2_with fail
      go_ret2
      exact ⟨rfl, HB.out⟩
theorem idx_le {hs : List Hd} {i : Nat} (h : i < hs.length) : idxOf hs[i].name hs ≤ i := by
  unfold idxOf
  refine Nat.le_of_not_lt (fun hlt => ?_)
  have := List.not_of_lt_findIdx hlt
  simp at this
theorem idx_lt {hs : List Hd} {i : Nat} (h : i < hs.length) (hl : idxOf hs[i].name hs < i) : ¬ DistH hs := fun hd => by
  have h2 : idxOf hs[i].name hs < hs.length := by omega
  have := List.findIdx_getElem (p := fun h : Hd => h.name.toList == hs[i].name.toList) (w := h2)
  have h3 := hd _ i h hl
  exact h3 (beq_iff_eq.1 this)
theorem idx_ge {hs : List Hd} {i : Nat} (h : i < hs.length) (hl : ¬ idxOf hs[i].name hs < i) : ∀ j (hj : j < i), hs[j].name.toList ≠ hs[i].name.toList := fun j hj e => by
  refine hl (Nat.lt_of_le_of_lt ?_ hj)
  unfold idxOf
  refine Nat.le_of_not_lt (fun hlt => ?_)
  have := List.not_of_lt_findIdx hlt
  simp [e] at this
theorem twice_any (hs : List Hd) (hl : hs.length ≤ 10000000) (A : SL) (w : World) (h : RdH w A hs) :
    Calls Try.prog 113 #[.slice A.a hs.length A.c] w (fun e w' => ∃ b : Bool, e = .returned (.bool b) ∧ (b = true ↔ ¬ DistH hs) ∧ Below w.heap.size w w') := by
  have H := Aside.mk h
  clear h
  go_enter Try.func113, Try.ntmps113
  go_wp2
  go_loopw [3, 4, 5, 6, 9] (fun _ _ _ _ iv wr => ∃ i : Nat, i ≤ hs.length ∧ iv = .int .i64 (i : Int) ∧ Aside (Below w.heap.size w wr) ∧ Aside (∀ k j (hj : j < k) (hk : k < i) (hh : k < hs.length), hs[j].name.toList ≠ hs[k].name.toList)) (fun _ _ _ _ iv _ => hs.length - (intOf iv).toNat)
  case atStart => exact ⟨0, by omega, rfl, ⟨Below.refl _ _⟩, ⟨fun k j _ hk => by omega⟩⟩
  case round =>
    obtain ⟨i, hi, rfl, HB, HA⟩ := hrel
    by_cases hlt : i < hs.length
    · obtain ⟨g, off, e1, q1, q2, v0, v1, v2, v3⟩ := (H.out.below HB.out).at hlt
      have HB2 := Aside.mk (below_chain HB.out (below_new wr (.cells #[.string hs[i].name, .int .i64 hs[i].k, .int .i64 hs[i].s, .bool hs[i].null] 137)))
      have hix := idx_le hlt
      have HF := Aside.mk (find_any hs[i].name hs hl A _ (H.out.below HB2.out))
      rw [if_pos (by omega), decide_eq_true (by omega)] at HF
      obtain ⟨a, c⟩ := A
      simp only at e1 q1 q2
      subst e1
      have HLT := Aside.mk (fun h => idx_lt hlt h)
      have HGE := Aside.mk (fun h => idx_ge hlt h)
      generalize idxOf hs[i].name hs = x at *
      by_cases hx : x < i
      · have HN := HLT.out hx
        go_wp2_with (go_at_call 119; refine HF.out.mono ?_; rintro e w2 ⟨rfl, hb⟩; have HB3 := Aside.mk (below_chain HB2.out hb); clear hb)
        go_ret
        exact ⟨true, rfl, by simp [HN], HB3.out⟩
      · have HNX := Aside.mk (fun k j (hj : j < k) (hk : k < i + 1) (hh : k < hs.length) => (by
          rcases Nat.lt_or_ge k i with h1 | h1
          · exact HA.out k j hj h1 hh
          · have : k = i := by omega
            subst this; exact HGE.out hx j hj : hs[j].name.toList ≠ hs[k].name.toList))
        clear HLT HGE
        go_wp2_with (go_at_call 119; refine HF.out.mono ?_; rintro e w2 ⟨rfl, hb⟩; have HB3 := Aside.mk (below_chain HB2.out hb); clear hb)
        exact ⟨⟨i + 1, by omega, by simp, HB3, HNX⟩, by simp [intOf]; omega⟩
    · obtain rfl : i = hs.length := by omega
      have hd : DistH hs := fun a b hb hab => HA.out b a hab hb hb
      go_wp2_with fail
      go_ret
      exact ⟨false, rfl, by simp [hd], HB.out⟩
end Go.Proofs.Ytmhjjhaipcgbiaa


namespace Go.Proofs.Ytmhjjhaipcgbiaa
open Go.RowKit
set_option linter.unusedVariables false
set_option linter.unusedSimpArgs false
set_option maxRecDepth 100000
set_option maxHeartbeats 1000000
theorem schema_any (hs : List Hd) (hl : hs.length ≤ 10000000) (hn : NamesOK hs) (A : SL) (w : World) (h : RdH w A hs) : Calls Try.prog 83 #[.slice A.a hs.length A.c] w (ChkP (SchemaP hs) w) := by
  have H := Aside.mk h
  clear h
  have HTW := Aside.mk (fun W (hb : Below w.heap.size w W) => twice_any hs hl A W (H.out.below hb))
  by_cases h0 : hs.length = 0
  · have HN := Aside.mk (show ¬ SchemaP hs from fun h => by have := h.1; omega)
    have h0' : ((hs.length : Int) == 0) = true := by rw [h0]; rfl
    clear h0
    go_enter Try.func83, Try.ntmps83
    go_wp2_with fail
    go_ret
    exact ⟨203, rfl, by simp [HN.out], Below.refl _ _⟩
  have h0' : ((hs.length : Int) == 0) = false := by simpa using h0
  by_cases h1 : 64 < hs.length
  · have HN := Aside.mk (show ¬ SchemaP hs from fun h => by have := h.2.1; omega)
    have h1' : decide (64 < (hs.length : Int)) = true := decide_eq_true (by omega)
    clear h0 h1
    go_enter Try.func83, Try.ntmps83
    go_wp2_with fail
    go_ret
    exact ⟨203, rfl, by simp [HN.out], Below.refl _ _⟩
  have h1' : decide (64 < (hs.length : Int)) = false := decide_eq_false (by omega)
  go_enter Try.func83, Try.ntmps83
  go_wp2_with fail
  go_loopw [4, 17] (fun _ iv wr => ∃ i : Nat, i ≤ hs.length ∧ iv = .int .i64 (i : Int) ∧ Aside (Below w.heap.size w wr) ∧ Aside (∀ j (hj : j < i) (hh : j < hs.length), nameB hs[j].name = true)) (fun _ iv _ => hs.length - (intOf iv).toNat)
  case atStart => exact ⟨0, by omega, rfl, ⟨Below.refl _ _⟩, ⟨fun j hj => by omega⟩⟩
  case round =>
    obtain ⟨i, hi, rfl, HB, HA⟩ := hrel
    by_cases hlt : i < hs.length
    · obtain ⟨g, off, e1, q1, q2, v0, v1, v2, v3⟩ := (H.out.below HB.out).at hlt
      have HB2 := Aside.mk (below_chain HB.out (below_new wr (.cells #[.string hs[i].name, .int .i64 hs[i].k, .int .i64 hs[i].s, .bool hs[i].null] 137)))
      have HNM := Aside.mk (fun W => named_any hs[i].name (hn _ (List.getElem_mem hlt)) W)
      obtain ⟨a, c⟩ := A
      simp only at e1 q1 q2
      subst e1
      have HNX := Aside.mk (fun (hy : nameB hs[i].name = true) j (hj : j < i + 1) (hh : j < hs.length) => (by
        rcases Nat.lt_or_ge j i with h1 | h1
        · exact HA.out j h1 hh
        · have : j = i := by omega
          subst this; exact hy : nameB hs[j].name = true))
      have HNN := Aside.mk (fun (hy : nameB hs[i].name = false) => (show ¬ SchemaP hs from fun h => by have := h.2.2.1 _ (List.getElem_mem hlt); rw [hy] at this; cases this))
      cases hy : nameB hs[i].name with
      | true =>
        rw [hy] at HNM
        have HNY := Aside.mk (HNX.out hy)
        clear HNX HNN hy
        go_wp2_with (go_at_call 112; refine (HNM.out _).mono ?_; rintro e w2 ⟨rfl, hb⟩; have HB3 := Aside.mk (below_chain HB2.out hb); clear hb)
        exact ⟨⟨i + 1, by omega, by simp, HB3, HNY⟩, by simp [intOf]; omega⟩
      | false =>
        rw [hy] at HNM
        have HNY := Aside.mk (HNN.out hy)
        clear HNX HNN hy
        go_wp2_with (go_at_call 112; refine (HNM.out _).mono ?_; rintro e w2 ⟨rfl, hb⟩; have HB3 := Aside.mk (below_chain HB2.out hb); clear hb)
        go_ret
        exact ⟨201, rfl, by simpa using HNY.out, HB3.out⟩
    · obtain rfl : i = hs.length := by omega
      have HNA := Aside.mk (show ∀ h ∈ hs, nameB h.name = true from fun h hh => by
        obtain ⟨j, hj, rfl⟩ := List.mem_iff_getElem.1 hh
        exact HA.out j hj hj)
      clear HA
      go_wp2_with fail
      go_loopw [6, 28] (fun _ iv wr => ∃ i : Nat, i ≤ hs.length ∧ iv = .int .i64 (i : Int) ∧ Aside (Below w.heap.size w wr) ∧ Aside (∀ j (hj : j < i) (hh : j < hs.length), okType hs[j].k hs[j].s = true)) (fun _ iv _ => hs.length - (intOf iv).toNat)
      case atStart => exact ⟨0, by omega, rfl, HB, ⟨fun j hj => by omega⟩⟩
      case round =>
        clear HB
        obtain ⟨i, hi, rfl, HB, HA⟩ := hrel
        by_cases hlt : i < hs.length
        · obtain ⟨g, off, e1, q1, q2, v0, v1, v2, v3⟩ := (H.out.below HB.out).at hlt
          have HB2 := Aside.mk (below_chain HB.out (below_new wr (.cells #[.string hs[i].name, .int .i64 hs[i].k, .int .i64 hs[i].s, .bool hs[i].null] 137)))
          have HCT := Aside.mk (fun W => checkType_any hs[i].k hs[i].s W)
          obtain ⟨a, c⟩ := A
          simp only at e1 q1 q2
          subst e1
          have HNX := Aside.mk (fun (hy : okType hs[i].k hs[i].s = true) j (hj : j < i + 1) (hh : j < hs.length) => (by
            rcases Nat.lt_or_ge j i with h1 | h1
            · exact HA.out j h1 hh
            · have : j = i := by omega
              subst this; exact hy : okType hs[j].k hs[j].s = true))
          have HNN := Aside.mk (fun (hy : okType hs[i].k hs[i].s = false) => (show ¬ SchemaP hs from fun h => by have := h.2.2.2.1 _ (List.getElem_mem hlt); rw [hy] at this; cases this))
          cases hy : okType hs[i].k hs[i].s with
          | true =>
            rw [hy] at HCT
            have HNY := Aside.mk (HNX.out hy)
            clear HNX HNN hy
            go_wp2_with (go_at_call 10; refine (HCT.out _).mono ?_; rintro e w2 ⟨rfl, hb⟩; have HB3 := Aside.mk (below_chain HB2.out hb); clear hb)
            exact ⟨⟨i + 1, by omega, by simp, HB3, HNY⟩, by simp [intOf]; omega⟩
          | false =>
            rw [hy] at HCT
            have HNY := Aside.mk (HNN.out hy)
            clear HNX HNN hy
            go_wp2_with (go_at_call 10; refine (HCT.out _).mono ?_; rintro e w2 ⟨rfl, hb⟩; have HB3 := Aside.mk (below_chain HB2.out hb); clear hb)
            go_ret
            exact ⟨202, rfl, by simpa using HNY.out, HB3.out⟩
        · obtain rfl : i = hs.length := by omega
          have HTA := Aside.mk (show ∀ h ∈ hs, okType h.k h.s = true from fun h hh => by
            obtain ⟨j, hj, rfl⟩ := List.mem_iff_getElem.1 hh
            exact HA.out j hj hj)
          clear HA
          have HD := Aside.mk (fun (b : Bool) (hb : b = true ↔ ¬ DistH hs) => (show b = false ↔ SchemaP hs from by
            constructor
            · intro e
              refine ⟨by omega, by omega, HNA.out, HTA.out, ?_⟩
              by_cases hd : DistH hs
              · exact hd
              · rw [hb.2 hd] at e; cases e
            · intro h
              cases hbb : b with
              | false => rfl
              | true => exact absurd h.2.2.2.2 (hb.1 hbb)))
          go_wp2_with (go_at_call 113; refine (HTW.out _ HB.out).mono ?_; rintro e w2 ⟨tb, rfl, htb, hb⟩; have HB3 := Aside.mk (below_chain HB.out hb); have HTB := Aside.mk (HD.out tb htb); clear hb htb)
          · go_ret
            exact ⟨204, rfl, by have := HTB.out; simp_all, HB3.out⟩
          · go_ret
            exact ⟨0, rfl, by have := HTB.out; simp_all, HB3.out⟩
end Go.Proofs.Ytmhjjhaipcgbiaa
