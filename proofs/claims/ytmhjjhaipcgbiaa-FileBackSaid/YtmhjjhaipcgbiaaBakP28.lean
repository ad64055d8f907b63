/- Texts of this claim, one behind the other: Seq, InR, Fd. -/
import Derived.Test.YtmhjjhaipcgbiaaBakP27
import Derived.Test.YtmhjjhaipcgbiaaBakP25
import Derived.Test.YtmhjjhaipcgbiaaBakP26
import Derived.Test.YtmhjjhaipcgbiaaBakP16

namespace Go.Proofs.Ytmhjjhaipcgbiaa
open Go.RowKit Go.Shelf
set_option linter.unusedVariables false
def Marks (b : Nat) (W : World) : Prop := (∃ o, W.heap[b]? = some (.deferred o)) ∧ ∃ r, W.heap[b + 1]? = some (.loop r)
theorem Rd.marks {W W' : World} {sz n b : Nat} {v : Value} {xs : List Value} (h : Rd W sz v n xs) (hm : Marks b W) (hk : Kept (fun k => k = b ∨ k = b + 1) W W') : Rd W' sz v n xs := by
  obtain ⟨hl, a, cap, rfl, h1, h2, h3, h4⟩ := h
  refine ⟨hl, a, cap, rfl, h1, h2, h3, fun j u hu => ?_⟩
  obtain ⟨g, off, rfl, hc⟩ := h4 j u hu
  refine ⟨g, off, rfl, hk.cell hc ?_⟩
  obtain ⟨⟨o, ho⟩, r, hr⟩ := hm
  rintro (e | e)
  · simp only at e
    rw [e] at hc
    simp [World.cell?, ho] at hc
  · simp only at e
    rw [e] at hc
    simp [World.cell?, hr] at hc
theorem below_two (w : World) (o1 o2 : Obj) : Below w.heap.size w ((w.alloc o1).alloc o2) ∧ ((w.alloc o1).alloc o2).heap.size = w.heap.size + 2 ∧
    ((w.alloc o1).alloc o2).heap[w.heap.size]? = some o1 ∧ ((w.alloc o1).alloc o2).heap[w.heap.size + 1]? = some o2 := by
  refine ⟨((Below.refl _ w).alloc (Nat.le_refl _) _).alloc (by simp) _, by simp, ?_, ?_⟩
  · exact (Below.heap_alloc _ _ _ (by simp)).trans (World.alloc_heap_new w _)
  · have := World.alloc_heap_new (w.alloc o1) o2
    rwa [World.size_alloc] at this
end Go.Proofs.Ytmhjjhaipcgbiaa


namespace Go.Proofs.Ytmhjjhaipcgbiaa
open Go.RowKit
set_option linter.unusedVariables false
section
variable {P : Program} {ops : Array Oper} {md : Region.Mode}
def Only (Q : Exit → Act → World → Prop) : Exit → Act → World → Prop := fun e a w => e = .normal ∧ Q .normal a w
theorem wp_regionO {id : Nat} {Q : Exit → Act → World → Prop} {a : Act} {w : World} (S : World → Prop) (z n : Nat) (hm : P.follows .mixedOrders = true) (hn : ops.size = n) (h : wpE P .any ops (Only Q) S z n (Array.replicate n false) a w.drew) : (Code.region id ops true).wp P Q a w :=
  wp_mono (wp_regionE S z n hm hn h) (fun e a w q => by obtain ⟨rfl, h⟩ := q; exact h)
end
end Go.Proofs.Ytmhjjhaipcgbiaa


namespace Go.Proofs.Ytmhjjhaipcgbiaa
open Go.RowKit
set_option linter.unusedVariables false
set_option linter.unusedSimpArgs false
set_option maxRecDepth 100000
set_option maxHeartbeats 1000000
structure Nm where
  name : List Int
  ty : Int
  null : Bool
def RdNs (w : World) (A : SL) (l : List Nm) : Prop :=
  ∃ xs, Rd w 3 (.slice A.a l.length A.c) l.length xs ∧ ∀ (i : Nat) v, l[i]? = some v → ∃ ta tc, xs[i * 3]? = some (.slice ta v.name.length tc) ∧ xs[i * 3 + 1]? = some (.int .i64 v.ty) ∧ xs[i * 3 + 2]? = some (.bool v.null) ∧ Rd w 1 (.slice ta v.name.length tc) v.name.length (v.name.map (.int .u8))
theorem RdNs.below {w w' : World} {A : SL} {l : List Nm} (h : RdNs w A l) (hb : Below w.heap.size w w') : RdNs w' A l := by
  obtain ⟨xs, h1, h2⟩ := h
  exact ⟨xs, h1.below hb, fun i v hi => by obtain ⟨ta, tc, a, b, c, d⟩ := h2 i v hi; exact ⟨ta, tc, a, b, c, d.below hb⟩⟩
theorem RdNs.at {w : World} {A : SL} {l : List Nm} (h : RdNs w A l) {i : Nat} (hi : i < l.length) : ∃ b off ta tc, A.a = some ⟨b, off, none⟩ ∧ l.length ≤ A.c ∧ A.c ≤ 9223372036854775807 ∧ w.cell? ⟨b, off + i * 3, none⟩ = some (.slice ta l[i].name.length tc) ∧ w.cell? ⟨b, off + i * 3 + 1, none⟩ = some (.int .i64 l[i].ty) ∧ w.cell? ⟨b, off + i * 3 + 2, none⟩ = some (.bool l[i].null) ∧ Rd w 1 (.slice ta l[i].name.length tc) l[i].name.length (l[i].name.map (.int .u8)) := by
  obtain ⟨xs, h1, h2⟩ := h
  obtain ⟨ta, tc, a, b, c, d⟩ := h2 i _ (List.getElem?_eq_getElem hi)
  obtain ⟨g, off, cap, e, q1, q2, hc⟩ := h1.some_ (by rw [h1.len]; omega)
  simp only [Value.slice.injEq, true_and] at e
  obtain ⟨e1, e2⟩ := e
  exact ⟨g, off, ta, tc, e1, e2 ▸ q1, e2 ▸ q2, hc _ _ a, by rw [Nat.add_assoc]; exact hc _ _ b, by rw [Nat.add_assoc]; exact hc _ _ c, d⟩
def HeadsP (w : World) (e : Ending) (w' : World) : Prop := ∃ (hs : List Hd) (a : Option Addr) (c : Nat), e = .returned (.slice a hs.length c) ∧ Own w' w.heap.size 137 4 (.slice a hs.length c) hs.length (hs.flatMap hdCells) ∧ SchemaP hs ∧ hs.length ≤ 8 ∧ Below w.heap.size w w'
theorem strL_app (a b : ByteArray) : strL (a ++ b) = strL a ++ strL b := by
  unfold strL
  rw [show (a ++ b).data = a.data ++ b.data from ByteArray.data_append .., Array.toList_append, List.map_append]
theorem strL_nums (xs : List Int) (h : IsBytes xs) : strL (strOfNums xs) = xs := by
  unfold strL strOfNums
  dsimp only
  rw [List.map_map]
  conv => rhs; rw [← List.map_id xs]
  refine List.map_congr_left (fun x hx => ?_)
  have := h x hx
  simp only [Function.comp, id, UInt8.toNat_ofNat']
  omega
def NamI (i : Nat) (s : ByteArray) (k : Nat) : Prop := ∃ r : List Int, strL s = [104, 97 + (i : Int) % 26, 48 + (i : Int) / 26] ++ r ∧ r.length = k ∧ ∀ x ∈ r, 0 ≤ x ∧ charB x.toNat = true
theorem NamI.zero (i : Nat) (hi : i < 8) : NamI i (({ data := #[104] } : ByteArray) ++ strOfNums [97 + (i : Int) % 26, 48 + (i : Int) / 26]) 0 :=
  ⟨[], by rw [strL_app, strL_nums _ (by intro x hx; simp at hx; omega)]; rfl, rfl, by simp⟩
theorem NamI.size {i : Nat} {s : ByteArray} {k : Nat} (h : NamI i s k) : s.size = 3 + k := by
  obtain ⟨r, h1, h2, _⟩ := h
  rw [← strL_len, h1, List.length_append, h2]; rfl
theorem headinfo : (Try.prog.info? 137).map (fun i => (i.zero, i.size, i.bytes)) = some (some (.agg #[.string ByteArray.empty, .int .i64 0, .int .i64 0, .bool false]), 4, 40) := by kernel_rfl
theorem src_head (w : World) (x0 : ByteArray) (x1 x2 : Int) (x3 : Bool) : Src Try.prog 4 70 (.slice (some ⟨w.heap.size, 0, none⟩) 1 1) 1 [.string x0, .int .i64 x1, .int .i64 x2, .bool x3] (w.alloc (.cells #[.string x0, .int .i64 x1, .int .i64 x2, .bool x3] 137)) := by
  refine Src.ofSlice _ Try.underlying70 _ 1 1 _ rfl (fun j u hu => ?_) (by simp [Value.oneCell'])
  have hg := heap_alloc_new w (.cells #[.string x0, .int .i64 x1, .int .i64 x2, .bool x3] 137)
  rw [addr_add, Nat.zero_add, cell_blk hg]
  simpa using hu
def HdsI (i : Nat) (hs : List Hd) : Prop := hs.length = i ∧ ∀ j (hj : j < hs.length), (∃ k, k ≤ 61 ∧ NamI j hs[j].name k) ∧ okType hs[j].k hs[j].s = true
theorem HdsI.zero : HdsI 0 [] := ⟨rfl, fun j hj => by simp at hj⟩
theorem letter_at (m : Nat) (hm : m < 10) : ∃ x : Int, strL (({ data := #[97, 98, 99, 88, 89, 90, 95, 48, 49, 57] } : ByteArray).extract m (m + 1)) = [x] ∧ 0 ≤ x ∧ charB x.toNat = true := by
  rcases (show m = 0 ∨ m = 1 ∨ m = 2 ∨ m = 3 ∨ m = 4 ∨ m = 5 ∨ m = 6 ∨ m = 7 ∨ m = 8 ∨ m = 9 by omega) with rfl | rfl | rfl | rfl | rfl | rfl | rfl | rfl | rfl | rfl <;> exact ⟨_, rfl, by decide, by decide⟩
theorem NamI.step {i : Nat} {s : ByteArray} {k m : Nat} (h : NamI i s k) (hm : m < 10) : NamI i (s ++ ({ data := #[97, 98, 99, 88, 89, 90, 95, 48, 49, 57] } : ByteArray).extract m (m + 1)) (k + 1) := by
  obtain ⟨r, h1, h2, h3⟩ := h
  obtain ⟨x, q1, q2, q3⟩ := letter_at m hm
  refine ⟨r ++ [x], by rw [strL_app, h1, q1, List.append_assoc], by simp [h2], fun y hy => ?_⟩
  rcases List.mem_append.1 hy with hy | hy
  · exact h3 y hy
  · rw [List.mem_singleton.1 hy]; exact ⟨q2, q3⟩
theorem HdsI.step {i : Nat} {hs : List Hd} (h : HdsI i hs) {s : ByteArray} {k : Nat} {kk ss : Int} {b : Bool} (hk : k ≤ 61) (hn : NamI i s k) (ho : okType kk ss = true) : HdsI (i + 1) (hs ++ [⟨s, kk, ss, b⟩]) := by
  refine ⟨by simp [h.1], fun j hj => ?_⟩
  by_cases hlt : j < hs.length
  · rw [List.getElem_append_left hlt]; exact h.2 j hlt
  · have e : j = i := by have := h.1; simp at hj; omega
    subst e
    have e2 : (hs ++ [(⟨s, kk, ss, b⟩ : Hd)])[j] = ⟨s, kk, ss, b⟩ := by
      rw [List.getElem_append_right (by omega)]
      simp
    rw [e2]; exact ⟨⟨k, hk, hn⟩, ho⟩
theorem strL_at {s : ByteArray} {i : Nat} (h : i < s.size) : (strL s)[i]? = some ((byteAt s i : Nat) : Int) := by
  unfold strL byteAt
  rw [dif_pos h, List.getElem?_map]
  have h2 : i < s.data.toList.length := by simpa using h
  rw [List.getElem?_eq_getElem h2]
  rfl
theorem strL_toList {s t : ByteArray} (h : s.toList = t.toList) : strL s = strL t := by
  rw [ByteArray.toList_eq, ByteArray.toList_eq] at h
  unfold strL; rw [h]
theorem NamI.good {i : Nat} (hi : i < 8) {s : ByteArray} {k : Nat} (hk : k ≤ 61) (h : NamI i s k) : nameB s = true := by
  have hs := h.size
  obtain ⟨r, h1, h2, h3⟩ := h
  have hat : ∀ j, j < s.size → ([104, 97 + (i : Int) % 26, 48 + (i : Int) / 26] ++ r)[j]? = some ((byteAt s j : Nat) : Int) := fun j hj => by rw [← h1]; exact strL_at hj
  refine nameB_yes (by omega) (by omega) ?_ (fun j hj => ?_)
  · have := hat 0 (by omega)
    simp at this
    have e : byteAt s 0 = 104 := by omega
    rw [e]; rfl
  · have := hat j hj
    match j, this with
    | 0, e => simp at e; have e : byteAt s 0 = 104 := by omega
              rw [e]; rfl
    | 1, e => simp at e; have e : byteAt s 1 = 97 + i := by omega
              rw [e]; unfold charB digB; simp; omega
    | 2, e => simp at e; have e : byteAt s 2 = 48 := by omega
              rw [e]; rfl
    | j + 3, e =>
      simp at e
      obtain ⟨_, e⟩ := List.getElem?_eq_some_iff.1 e
      have := h3 _ (List.mem_of_getElem e)
      simpa using this.2
theorem HdsI.schema {n : Nat} {hs : List Hd} (h : HdsI n hs) (h1 : 1 ≤ n) (h2 : n ≤ 8) : SchemaP hs := by
  have hl := h.1
  refine ⟨by omega, by omega, fun x hx => ?_, fun x hx => ?_, fun i j hj hij e => ?_⟩
  · obtain ⟨j, hj, rfl⟩ := List.mem_iff_getElem.1 hx
    obtain ⟨⟨k, hk, hn⟩, _⟩ := h.2 j hj
    exact hn.good (by omega) hk
  · obtain ⟨j, hj, rfl⟩ := List.mem_iff_getElem.1 hx
    exact (h.2 j hj).2
  · obtain ⟨⟨k, hk, r, a1, _⟩, _⟩ := h.2 i (by omega)
    obtain ⟨⟨k', hk', r', b1, _⟩, _⟩ := h.2 j hj
    have := strL_toList e
    rw [a1, b1] at this
    simp at this
    omega
theorem schema_a : SchemaP [⟨({ data := #[97] } : ByteArray), 15, 0, false⟩] := by
  refine ⟨by decide, by decide, fun x hx => ?_, fun x hx => ?_, fun i j hj hij e => ?_⟩
  · rw [List.mem_singleton.1 hx]; decide
  · rw [List.mem_singleton.1 hx]; decide
  · simp at hj; omega
theorem heads_any (l : List Nm) (hl : l.length ≤ 8) (hb : ∀ v ∈ l, IsBytes v.name ∧ v.name.length ≤ 9223372036854775807) (A : SL) (w : World) (h : RdNs w A l) : Calls Try.prog 77 #[.slice A.a l.length A.c] w (HeadsP w) := by
  have HR := Aside.mk h
  clear h
  go_enter Try.func77, Try.ntmps77
  go_wp2
  go_loopw [3, 4, 5, 6] (fun ov iv _ _ wr => ∃ (i : Nat) (hs : List Hd) (a : Option Addr) (c : Nat), i ≤ l.length ∧ ov = .slice a hs.length c ∧ iv = .int .i64 (i : Int) ∧ Aside (HdsI i hs ∧ Own wr w.heap.size 137 4 (.slice a hs.length c) hs.length (hs.flatMap hdCells) ∧ Below w.heap.size w wr)) (fun _ iv _ _ _ => l.length - (intOf iv).toNat)
  case atStart => exact ⟨0, [], none, 0, by omega, rfl, rfl, ⟨HdsI.zero, Own.nil _ _ _ _, Below.refl _ _⟩⟩
  case round =>
    obtain ⟨i, hs, a, c, hi, rfl, rfl, HI⟩ := hrel
    by_cases hlt : i < l.length
    · obtain ⟨g, off, ta, tc, e1, q1, q2, v0, v1, v2, hrt⟩ := (HR.out.below HI.out.2.2).at hlt
      have HG := Aside.mk (show g < w.heap.size by obtain ⟨g', off', ta', tc', e1', _, _, v0', _⟩ := HR.out.at hlt; rw [e1] at e1'; cases e1'; exact World.block_lt_of_cell? _ _ v0')
      have hbv := hb _ (List.getElem_mem hlt)
      obtain ⟨Aa, Ac⟩ := A
      dsimp only at e1 q1 q2
      subst e1
      have HRT := Aside.mk hrt
      have HBV := Aside.mk hbv
      clear hrt hbv
      generalize l[i] = v at *
      have hi64 : decide ((i : Int) < 64) = true := decide_eq_true (by omega)
      have hcv := conv_rd (.slice (some ⟨wr.heap.size, 0, none⟩) 2 2) 2 [97 + (i : Int) % 26, 48 + (i : Int) / 26] rfl (by decide) (wr.alloc (.cells #[.int .u8 (97 + (i : Int) % 26), .int .u8 (48 + (i : Int) / 26)] 5)) (rd_blk (heap_alloc_new wr _) rfl (by decide))
      go_wp2_with fail
      clear hcv
      have HN0 := Aside.mk (NamI.zero i (by omega))
      generalize ({ data := #[104] } : ByteArray) ++ strOfNums [97 + (i : Int) % 26, 48 + (i : Int) / 26] = s0 at *
      have hbw := below_new wr (.cells #[.int .u8 (97 + (i : Int) % 26), .int .u8 (48 + (i : Int) / 26)] 5)
      have HV := Aside.mk (And.intro ((hbw.cell (p := ⟨g, off + i * 3, none⟩) (World.block_lt_of_cell? _ _ v0)).trans v0) (And.intro ((hbw.cell (p := ⟨g, off + i * 3 + 1, none⟩) (World.block_lt_of_cell? _ _ v1)).trans v1) ((hbw.cell (p := ⟨g, off + i * 3 + 2, none⟩) (World.block_lt_of_cell? _ _ v2)).trans v2)))
      have HRT5 := Aside.mk (HRT.out.below hbw)
      have HO5 := Aside.mk (HI.out.2.1.below hbw)
      have HB5 := Aside.mk (below_chain HI.out.2.2 hbw)
      have HD := Aside.mk HI.out.1
      clear hbw v0 v1 v2 HI HRT
      generalize wr.alloc (.cells #[.int .u8 (97 + (i : Int) % 26), .int .u8 (48 + (i : Int) / 26)] 5) = w5 at *
      go_loopw [5, 6] (fun sv kv wq => ∃ (k : Nat) (s : ByteArray), k ≤ v.name.length ∧ k ≤ 61 ∧ sv = .string s ∧ kv = .int .i64 (k : Int) ∧ Aside (NamI i s k) ∧ Aside (Below w5.heap.size w5 wq)) (fun _ kv _ => v.name.length - (intOf kv).toNat)
      case atStart => exact ⟨0, s0, by omega, by omega, rfl, rfl, HN0, ⟨Below.refl _ _⟩⟩
      case round =>
        obtain ⟨k, s, hk, hk61, rfl, rfl, HN, HQ⟩ := hrel
        obtain ⟨v0, v1, v2⟩ := HV.out
        have u0 := (HQ.out.cell (p := ⟨g, off + i * 3, none⟩) (World.block_lt_of_cell? _ _ v0)).trans v0
        have u1 := (HQ.out.cell (p := ⟨g, off + i * 3 + 1, none⟩) (World.block_lt_of_cell? _ _ v1)).trans v1
        have u2 := (HQ.out.cell (p := ⟨g, off + i * 3 + 2, none⟩) (World.block_lt_of_cell? _ _ v2)).trans v2
        clear v0 v1 v2
        by_cases hkl : k < v.name.length ∧ k < 61
        · obtain ⟨hk1, hk2⟩ := hkl
          have hk2' : decide ((k : Int) < 61) = true := decide_eq_true (by omega)
          obtain ⟨gn, on, cn, en, _, _, hcn⟩ := (HRT5.out.below HQ.out).some_ (by simpa using (show 0 < v.name.length by omega))
          have hxb := hcn k _ (by rw [List.getElem?_map, List.getElem?_eq_getElem hk1]; rfl)
          have hby := HBV.out.1 _ (List.getElem_mem hk1)
          simp only [Value.slice.injEq, true_and] at en
          obtain ⟨rfl, rfl⟩ := en
          clear hcn
          obtain ⟨b, hbb⟩ : ∃ b, v.name[k] = b := ⟨_, rfl⟩
          rw [hbb] at hxb hby
          clear hbb
          obtain ⟨m, hm⟩ : ∃ m : Nat, b % 10 = (m : Int) := ⟨(b % 10).toNat, by omega⟩
          have hm10 : m < 10 := by omega
          have hw1 : IntKind.i64.wrap b = b := by rw [IntWalk.i64_left, IntWalk.wrap64_in]; omega
          have hw2 : b.tmod 10 = (m : Int) := by rw [Int.tmod_eq_emod_of_nonneg (by omega)]; exact hm
          have hw3 : ((m : Int) + 1).toNat = m + 1 := by omega
          have hw4 : IntKind.i64.wrap ((m : Int) + 1) = (m : Int) + 1 := by rw [IntWalk.i64_left, IntWalk.wrap64_in]; omega
          have hw5 : (m : Int) + 1 ≤ 10 := by omega
          have hw6 : 0 ≤ (m : Int) + 1 := by omega
          have hw7 : (m : Int) ≤ (m : Int) + 1 := by omega
          have HNX := Aside.mk (HN.out.step hm10)
          have hss := HN.out.size
          have hw8 : ¬ (9223372036854775807 < s.size + (min (m + 1) 10 - m)) := by omega
          clear hm hss
          go_upto_region 9 with fail
          refine wp_region_calm (by kernel_rfl) (by kernel_rfl) ?_
          refine calm_take (by rfl) ?v1000 (fun w' hw' => ?hy1000) ?rest1000
          case hy1000 => go_simp <;> first | rfl | skip
          simp only [Act.put, List.setIfInBounds_toArray, List.set_cons_zero, List.set_cons_succ]
          refine calm_take (by rfl) ?v1001 (fun w' hw' => ?hy1001) ?rest1001
          case hy1001 => go_simp <;> first | rfl | skip
          simp only [Act.put, List.setIfInBounds_toArray, List.set_cons_zero, List.set_cons_succ]
          refine calm_take (by rfl) ?v1002 (fun w' hw' => ?hy1002) ?rest1002
          case hy1002 => go_simp <;> first | rfl | skip
          simp only [Act.put, List.setIfInBounds_toArray, List.set_cons_zero, List.set_cons_succ]
          refine calm_take (by rfl) ?v1003 (fun w' hw' => ?hy1003) ?rest1003
          case hy1003 => go_simp <;> first | rfl | skip
          simp only [Act.put, List.setIfInBounds_toArray, List.set_cons_zero, List.set_cons_succ]
          refine calm_take (by rfl) ?v1004 (fun w' hw' => ?hy1004) ?rest1004
          case hy1004 => go_simp <;> first | rfl | skip
          simp only [Act.put, List.setIfInBounds_toArray, List.set_cons_zero, List.set_cons_succ]
          refine calm_take (by rfl) ?v1005 (fun w' hw' => ?hy1005) ?rest1005
          case hy1005 => have p0 := (hw'.cell (p := ⟨g, off + i * 3, none⟩) (World.block_lt_of_cell? _ _ u0)).trans u0; have px := (hw'.cell (p := ⟨gn, on + k, none⟩) (World.block_lt_of_cell? _ _ hxb)).trans hxb; go_simp <;> first | rfl | skip
          simp only [Act.put, List.setIfInBounds_toArray, List.set_cons_zero, List.set_cons_succ]
          refine calm_take (by rfl) ?v1006 (fun w' hw' => ?hy1006) ?rest1006
          case hy1006 => go_simp <;> first | rfl | skip
          simp only [Act.put, List.setIfInBounds_toArray, List.set_cons_zero, List.set_cons_succ]
          refine calm_take (by rfl) ?v1007 (fun w' hw' => ?hy1007) ?rest1007
          case hy1007 => go_simp <;> first | rfl | skip
          simp only [Act.put, List.setIfInBounds_toArray, List.set_cons_zero, List.set_cons_succ]
          refine calm_take (by rfl) ?v1008 (fun w' hw' => ?hy1008) ?rest1008
          case hy1008 => have p0 := (hw'.cell (p := ⟨g, off + i * 3, none⟩) (World.block_lt_of_cell? _ _ u0)).trans u0; have px := (hw'.cell (p := ⟨gn, on + k, none⟩) (World.block_lt_of_cell? _ _ hxb)).trans hxb; go_simp <;> first | rfl | skip
          simp only [Act.put, List.setIfInBounds_toArray, List.set_cons_zero, List.set_cons_succ]
          refine calm_take (by rfl) ?v1009 (fun w' hw' => ?hy1009) ?rest1009
          case hy1009 => go_simp <;> first | rfl | skip
          simp only [Act.put, List.setIfInBounds_toArray, List.set_cons_zero, List.set_cons_succ]
          refine calm_take (by rfl) ?v1010 (fun w' hw' => ?hy1010) ?rest1010
          case hy1010 => go_simp <;> first | rfl | skip
          simp only [Act.put, List.setIfInBounds_toArray, List.set_cons_zero, List.set_cons_succ]
          refine calm_take (by rfl) ?v1011 (fun w' hw' => ?hy1011) ?rest1011
          case hy1011 => go_simp <;> first | rfl | skip
          simp only [Act.put, List.setIfInBounds_toArray, List.set_cons_zero, List.set_cons_succ]
          refine calm_take (by rfl) ?v1012 (fun w' hw' => ?hy1012) ?rest1012
          case hy1012 => go_simp <;> first | rfl | skip
          simp only [Act.put, List.setIfInBounds_toArray, List.set_cons_zero, List.set_cons_succ]
          refine calm_take (by rfl) ?v1013 (fun w' hw' => ?hy1013) ?rest1013
          case hy1013 => go_simp <;> first | rfl | skip
          simp only [Act.put, List.setIfInBounds_toArray, List.set_cons_zero, List.set_cons_succ]
          refine calm_take (by rfl) ?v1014 (fun w' hw' => ?hy1014) ?rest1014
          case hy1014 => go_simp <;> first | rfl | skip
          simp only [Act.put, List.setIfInBounds_toArray, List.set_cons_zero, List.set_cons_succ]
          refine calm_take (by rfl) ?v1015 (fun w' hw' => ?hy1015) ?rest1015
          case hy1015 => have p0 := (hw'.cell (p := ⟨g, off + i * 3, none⟩) (World.block_lt_of_cell? _ _ u0)).trans u0; have px := (hw'.cell (p := ⟨gn, on + k, none⟩) (World.block_lt_of_cell? _ _ hxb)).trans hxb; go_simp <;> first | rfl | skip
          simp only [Act.put, List.setIfInBounds_toArray, List.set_cons_zero, List.set_cons_succ]
          refine calm_take (by rfl) ?v1016 (fun w' hw' => ?hy1016) ?rest1016
          case hy1016 => go_simp <;> first | rfl | skip
          simp only [Act.put, List.setIfInBounds_toArray, List.set_cons_zero, List.set_cons_succ]
          refine calm_take (by rfl) ?v1017 (fun w' hw' => ?hy1017) ?rest1017
          case hy1017 => go_simp <;> first | rfl | skip
          simp only [Act.put, List.setIfInBounds_toArray, List.set_cons_zero, List.set_cons_succ]
          refine calm_take (by rfl) ?v1018 (fun w' hw' => ?hy1018) ?rest1018
          case hy1018 => have p0 := (hw'.cell (p := ⟨g, off + i * 3, none⟩) (World.block_lt_of_cell? _ _ u0)).trans u0; have px := (hw'.cell (p := ⟨gn, on + k, none⟩) (World.block_lt_of_cell? _ _ hxb)).trans hxb; go_simp <;> first | rfl | skip
          simp only [Act.put, List.setIfInBounds_toArray, List.set_cons_zero, List.set_cons_succ]
          refine calm_take (by rfl) ?v1019 (fun w' hw' => ?hy1019) ?rest1019
          case hy1019 => go_simp <;> first | rfl | skip
          simp only [Act.put, List.setIfInBounds_toArray, List.set_cons_zero, List.set_cons_succ]
          refine calm_take (by rfl) ?v1020 (fun w' hw' => ?hy1020) ?rest1020
          case hy1020 => go_simp <;> first | rfl | skip
          simp only [Act.put, List.setIfInBounds_toArray, List.set_cons_zero, List.set_cons_succ]
          refine calm_take (by rfl) ?v1021 (fun w' hw' => ?hy1021) ?rest1021
          case hy1021 => go_simp <;> first | rfl | skip
          simp only [Act.put, List.setIfInBounds_toArray, List.set_cons_zero, List.set_cons_succ]
          refine calm_take (by rfl) ?v1022 (fun w' hw' => ?hy1022) ?rest1022
          case hy1022 => go_simp <;> first | rfl | skip
          simp only [Act.put, List.setIfInBounds_toArray, List.set_cons_zero, List.set_cons_succ]
          refine calm_take (by rfl) ?v1023 (fun w' hw' => ?hy1023) ?rest1023
          case hy1023 => go_simp <;> first | rfl | skip
          simp only [Act.put, List.setIfInBounds_toArray, List.set_cons_zero, List.set_cons_succ]
          refine calm_take (by rfl) ?v1024 (fun w' hw' => ?hy1024) ?rest1024
          case hy1024 => go_simp <;> first | rfl | skip
          simp only [Act.put, List.setIfInBounds_toArray, List.set_cons_zero, List.set_cons_succ]
          refine wpQuiet_nil (fun w' hw' => ?_)
          go_wp2_with fail
          exact ⟨⟨k + 1, _, by omega, by omega, rfl, by simp, HNX, ⟨below_chain HQ.out hw'⟩⟩, by simp [intOf]; omega⟩
        · have HHL := Aside.mk (show hs.length = i from HD.out.1)
          have hhs8 : hs.length ≤ 8 := by have := HHL.out; omega
          by_cases hc1 : k < v.name.length
          · have hc2 : ¬ k < 61 := fun h => hkl ⟨hc1, h⟩
            have hd1 : decide ((k : Int) < (v.name.length : Int)) = true := decide_eq_true (by omega)
            have hd2 : decide ((k : Int) < 61) = false := decide_eq_false (by omega)
            clear hkl
            go_upto_region 10 with fail
            refine wp_regionO (fun U : World => U.cell? ⟨g, off + i * 3 + 1, none⟩ = some (.int .i64 v.ty) ∧ U.cell? ⟨g, off + i * 3 + 2, none⟩ = some (.bool v.null)) 16 17 (by kernel_rfl) rfl ?_
            have hS : (fun U : World => U.cell? ⟨g, off + i * 3 + 1, none⟩ = some (.int .i64 v.ty) ∧ U.cell? ⟨g, off + i * 3 + 2, none⟩ = some (.bool v.null)) wr.drew := ⟨u1, u2⟩
            refine wpE_take (k := 0) (o := ⟨some 66, _, _, _, _, _⟩) (v := ?_) rfl (by kernel_rfl) (by kernel_rfl) (by kernel_rfl) (by kernel_rfl) (fun _ _ _ h => absurd h.1 (by simp)) (Or.inl ⟨by rfl, ?_⟩) (by assumption) ?_
            rotate_left
            · (intro w hSw; obtain ⟨s1, s2⟩ := hSw; go_simp; (try with_reducible rfl))
            (try simp only [Act.put, List.setIfInBounds_toArray, List.set_cons_zero, List.set_cons_succ])
            refine wpE_take (k := 1) (o := ⟨some 67, _, _, _, _, _⟩) (v := ?_) rfl (by kernel_rfl) (by kernel_rfl) (by kernel_rfl) (by kernel_rfl) (fun _ _ _ h => absurd h.1 (by simp)) (Or.inl ⟨by rfl, ?_⟩) (by assumption) ?_
            rotate_left
            · (intro w hSw; obtain ⟨s1, s2⟩ := hSw; go_simp; (try with_reducible rfl))
            (try simp only [Act.put, List.setIfInBounds_toArray, List.set_cons_zero, List.set_cons_succ])
            refine wpE_take (k := 2) (o := ⟨some 68, _, _, _, _, _⟩) (v := ?_) rfl (by kernel_rfl) (by kernel_rfl) (by kernel_rfl) (by kernel_rfl) (fun _ _ _ h => absurd h.1 (by simp)) (Or.inl ⟨by rfl, ?_⟩) (by assumption) ?_
            rotate_left
            · (intro w hSw; obtain ⟨s1, s2⟩ := hSw; go_simp; (try with_reducible rfl))
            (try simp only [Act.put, List.setIfInBounds_toArray, List.set_cons_zero, List.set_cons_succ])
            refine wpE_take (k := 3) (o := ⟨some 69, _, _, _, _, _⟩) (v := ?_) rfl (by kernel_rfl) (by kernel_rfl) (by kernel_rfl) (by kernel_rfl) (fun _ _ _ h => absurd h.1 (by simp)) (Or.inl ⟨by rfl, ?_⟩) (by assumption) ?_
            rotate_left
            · (intro w hSw; obtain ⟨s1, s2⟩ := hSw; go_simp; (try with_reducible rfl))
            (try simp only [Act.put, List.setIfInBounds_toArray, List.set_cons_zero, List.set_cons_succ])
            refine wpE_take (k := 4) (o := ⟨some 70, _, _, _, _, _⟩) (v := ?_) rfl (by kernel_rfl) (by kernel_rfl) (by kernel_rfl) (by kernel_rfl) (fun _ _ _ h => absurd h.1 (by simp)) (Or.inl ⟨by rfl, ?_⟩) (by assumption) ?_
            rotate_left
            · (intro w hSw; obtain ⟨s1, s2⟩ := hSw; go_simp; (try with_reducible rfl))
            (try simp only [Act.put, List.setIfInBounds_toArray, List.set_cons_zero, List.set_cons_succ])
            refine wpE_take (k := 5) (o := ⟨some 71, _, _, _, _, _⟩) (v := ?_) rfl (by kernel_rfl) (by kernel_rfl) (by kernel_rfl) (by kernel_rfl) (fun _ _ _ h => absurd h.1 (by simp)) (Or.inl ⟨by rfl, ?_⟩) (by assumption) ?_
            rotate_left
            · (intro w hSw; obtain ⟨s1, s2⟩ := hSw; go_simp; (try with_reducible rfl))
            (try simp only [Act.put, List.setIfInBounds_toArray, List.set_cons_zero, List.set_cons_succ])
            refine wpE_take (k := 6) (o := ⟨some 72, _, _, _, _, _⟩) (v := ?_) rfl (by kernel_rfl) (by kernel_rfl) (by kernel_rfl) (by kernel_rfl) (fun _ _ _ h => absurd h.1 (by simp)) (Or.inl ⟨by rfl, ?_⟩) (by assumption) ?_
            rotate_left
            · (intro w hSw; obtain ⟨s1, s2⟩ := hSw; go_simp; (try with_reducible rfl))
            (try simp only [Act.put, List.setIfInBounds_toArray, List.set_cons_zero, List.set_cons_succ])
            refine wpE_take (k := 8) (o := ⟨some 74, _, _, _, _, _⟩) (v := ?_) rfl (by kernel_rfl) (by kernel_rfl) (by kernel_rfl) (by kernel_rfl) (fun _ _ _ h => absurd h.1 (by simp)) (Or.inl ⟨by rfl, ?_⟩) (by assumption) ?_
            rotate_left
            · (intro w hSw; obtain ⟨s1, s2⟩ := hSw; go_simp; (try with_reducible rfl))
            (try simp only [Act.put, List.setIfInBounds_toArray, List.set_cons_zero, List.set_cons_succ])
            refine wpE_take (k := 9) (o := ⟨some 75, _, _, _, _, _⟩) (v := ?_) rfl (by kernel_rfl) (by kernel_rfl) (by kernel_rfl) (by kernel_rfl) (fun _ _ _ h => absurd h.1 (by simp)) (Or.inl ⟨by rfl, ?_⟩) (by assumption) ?_
            rotate_left
            · (intro w hSw; obtain ⟨s1, s2⟩ := hSw; go_simp; (try with_reducible rfl))
            (try simp only [Act.put, List.setIfInBounds_toArray, List.set_cons_zero, List.set_cons_succ])
            refine wpE_take (k := 10) (o := ⟨some 76, _, _, _, _, _⟩) (v := ?_) rfl (by kernel_rfl) (by kernel_rfl) (by kernel_rfl) (by kernel_rfl) (fun _ _ _ h => absurd h.1 (by simp)) (Or.inl ⟨by rfl, ?_⟩) (by assumption) ?_
            rotate_left
            · (intro w hSw; obtain ⟨s1, s2⟩ := hSw; go_simp; (try with_reducible rfl))
            (try simp only [Act.put, List.setIfInBounds_toArray, List.set_cons_zero, List.set_cons_succ])
            refine wpE_take (k := 11) (o := ⟨some 77, _, _, _, _, _⟩) (v := ?_) rfl (by kernel_rfl) (by kernel_rfl) (by kernel_rfl) (by kernel_rfl) (fun _ _ _ h => absurd h.1 (by simp)) (Or.inl ⟨by rfl, ?_⟩) (by assumption) ?_
            rotate_left
            · (intro w hSw; obtain ⟨s1, s2⟩ := hSw; go_simp; (try with_reducible rfl))
            (try simp only [Act.put, List.setIfInBounds_toArray, List.set_cons_zero, List.set_cons_succ])
            refine wpE_take (k := 12) (o := ⟨some 78, _, _, _, _, _⟩) (v := ?_) rfl (by kernel_rfl) (by kernel_rfl) (by kernel_rfl) (by kernel_rfl) (fun _ _ _ h => absurd h.1 (by simp)) (Or.inl ⟨by rfl, ?_⟩) (by assumption) ?_
            rotate_left
            · (intro w hSw; obtain ⟨s1, s2⟩ := hSw; go_simp; (try with_reducible rfl))
            (try simp only [Act.put, List.setIfInBounds_toArray, List.set_cons_zero, List.set_cons_succ])
            refine wpE_one (k := 7) (o := ⟨some 73, _, _, _, _, _⟩) rfl (by kernel_rfl) (fun K hK => ?_)
            refine step_call (P := Try.prog) wr.drew (by rfl) 8 [.tmp 72] _ (by rfl) [.int .i64 v.ty] (by rfl) (fun _ _ => rfl) (kind_any v.ty _) ?_
            rintro e w6 ⟨rfl, hb6⟩
            refine ⟨_, rfl, ?_⟩
            have HB6 := Aside.mk (below_chain HQ.out (undrew hb6))
            clear hb6
            refine hK.out _ _ (by have hx := HB6.out; obtain ⟨v0, v1, v2⟩ := HV.out; exact ⟨(hx.cell (p := ⟨g, off + i * 3 + 1, none⟩) (World.block_lt_of_cell? _ _ v1)).trans v1, (hx.cell (p := ⟨g, off + i * 3 + 2, none⟩) (World.block_lt_of_cell? _ _ v2)).trans v2⟩) (fun hS => ?_)
            clear hK K
            try simp only [Act.put, List.setIfInBounds_toArray, List.set_cons_zero, List.set_cons_succ]
            refine wpE_take (k := 13) (o := ⟨some 79, _, _, _, _, _⟩) (v := ?_) rfl (by kernel_rfl) (by kernel_rfl) (by kernel_rfl) (by kernel_rfl) (fun _ _ _ h => absurd h.1 (by simp)) (Or.inl ⟨by rfl, ?_⟩) (by assumption) ?_
            rotate_left
            · (intro w hSw; obtain ⟨s1, s2⟩ := hSw; go_simp; (try with_reducible rfl))
            (try simp only [Act.put, List.setIfInBounds_toArray, List.set_cons_zero, List.set_cons_succ])
            refine wpE_one (k := 14) (o := ⟨some 80, _, _, _, _, _⟩) rfl (by kernel_rfl) (fun K hK => ?_)
            go_simp
            have HB7 := Aside.mk (below_chain HB6.out (below_new w6 (.cells #[.string s, .int .i64 (kindI v.ty), .int .i64 (scaleI v.ty), .bool v.null] 137)))
            refine hK.out _ _ (by have hx := HB7.out; obtain ⟨v0, v1, v2⟩ := HV.out; exact ⟨(hx.cell (p := ⟨g, off + i * 3 + 1, none⟩) (World.block_lt_of_cell? _ _ v1)).trans v1, (hx.cell (p := ⟨g, off + i * 3 + 2, none⟩) (World.block_lt_of_cell? _ _ v2)).trans v2⟩) (fun hS => ?_)
            clear hK K
            try simp only [Act.put, List.setIfInBounds_toArray, List.set_cons_zero, List.set_cons_succ]
            refine wpE_one (k := 15) (o := ⟨some 81, _, _, _, _, _⟩) rfl (by kernel_rfl) (fun K hK => ?_)
            refine step_app2 (P := Try.prog) (w6.alloc (.cells #[.string s, .int .i64 (kindI v.ty), .int .i64 (scaleI v.ty), .bool v.null] 137)) (.tmp 66) (.tmp 80) 70 70 (by rfl) (by rfl) w.heap.size 137 (.agg #[.string ByteArray.empty, .int .i64 0, .int .i64 0, .bool false]) 4 40 Try.underlying70 headinfo (by rfl) (.slice a hs.length c) hs.length (hs.flatMap hdCells) (by rfl) (HO5.out.below HB7.out) (.slice (some ⟨w6.heap.size, 0, none⟩) 1 1) 1 [.string s, .int .i64 (kindI v.ty), .int .i64 (scaleI v.ty), .bool v.null] (by rfl) (src_head _ _ _ _ _) (by unfold maxLen; omega) (by omega) (by have := HB5.out.size; have := HB7.out.size; omega) ?_
            intro v' w8 hA
            obtain ⟨a8, c8, rfl⟩ := hA.own.form
            have HA := Aside.mk hA
            clear hA
            have HB8 := Aside.mk (show Below w.heap.size (w6.alloc (.cells #[.string s, .int .i64 (kindI v.ty), .int .i64 (scaleI v.ty), .bool v.null] 137)) w8 from (Kept.of_grown HA.out.grown).to_below (Nat.le_trans HB5.out.size HB7.out.size) (fun k e => (HO5.out.lt k e.symm).1))
            refine hK.out _ _ (by have hx := HB8.out; have hy := HB7.out; obtain ⟨v0, v1, v2⟩ := HV.out; exact ⟨(hx.cell (p := ⟨g, off + i * 3 + 1, none⟩) HG.out).trans ((hy.cell (p := ⟨g, off + i * 3 + 1, none⟩) (World.block_lt_of_cell? _ _ v1)).trans v1), (hx.cell (p := ⟨g, off + i * 3 + 2, none⟩) HG.out).trans ((hy.cell (p := ⟨g, off + i * 3 + 2, none⟩) (World.block_lt_of_cell? _ _ v2)).trans v2)⟩) (fun hS => ?_)
            clear hK K
            try simp only [Act.put, List.setIfInBounds_toArray, List.set_cons_zero, List.set_cons_succ]
            refine wpE_last (k := 16) (o := ⟨some 3, _, _, _, _, _⟩) rfl (by kernel_rfl) (by kernel_rfl) rfl (fun K hK => ?_)
            go_simp
            refine hK.out _ _ ?_
            clear hK K
            refine ⟨rfl, ?_⟩
            clear hS
            go_wp2_with fail
            have HX := Aside.mk (HdsI.step (b := v.null) HD.out hk61 HN.out (kind_ok v.ty))
            refine ⟨⟨i + 1, hs ++ [⟨s, kindI v.ty, scaleI v.ty, v.null⟩], a8, c8, by omega, by rw [List.length_append]; rfl, by simp, ⟨HX.out, ?_, (below_chain HB5.out HB7.out).trans HB8.out⟩⟩, by simp [intOf]; omega⟩
            simpa [hdCells] using HA.out.own
          · have hd1 : decide ((k : Int) < (v.name.length : Int)) = false := decide_eq_false (by omega)
            clear hkl
            go_upto_region 10 with fail
            refine wp_regionO (fun U : World => U.cell? ⟨g, off + i * 3 + 1, none⟩ = some (.int .i64 v.ty) ∧ U.cell? ⟨g, off + i * 3 + 2, none⟩ = some (.bool v.null)) 16 17 (by kernel_rfl) rfl ?_
            have hS : (fun U : World => U.cell? ⟨g, off + i * 3 + 1, none⟩ = some (.int .i64 v.ty) ∧ U.cell? ⟨g, off + i * 3 + 2, none⟩ = some (.bool v.null)) wr.drew := ⟨u1, u2⟩
            refine wpE_take (k := 0) (o := ⟨some 66, _, _, _, _, _⟩) (v := ?_) rfl (by kernel_rfl) (by kernel_rfl) (by kernel_rfl) (by kernel_rfl) (fun _ _ _ h => absurd h.1 (by simp)) (Or.inl ⟨by rfl, ?_⟩) (by assumption) ?_
            rotate_left
            · (intro w hSw; obtain ⟨s1, s2⟩ := hSw; go_simp; (try with_reducible rfl))
            (try simp only [Act.put, List.setIfInBounds_toArray, List.set_cons_zero, List.set_cons_succ])
            refine wpE_take (k := 1) (o := ⟨some 67, _, _, _, _, _⟩) (v := ?_) rfl (by kernel_rfl) (by kernel_rfl) (by kernel_rfl) (by kernel_rfl) (fun _ _ _ h => absurd h.1 (by simp)) (Or.inl ⟨by rfl, ?_⟩) (by assumption) ?_
            rotate_left
            · (intro w hSw; obtain ⟨s1, s2⟩ := hSw; go_simp; (try with_reducible rfl))
            (try simp only [Act.put, List.setIfInBounds_toArray, List.set_cons_zero, List.set_cons_succ])
            refine wpE_take (k := 2) (o := ⟨some 68, _, _, _, _, _⟩) (v := ?_) rfl (by kernel_rfl) (by kernel_rfl) (by kernel_rfl) (by kernel_rfl) (fun _ _ _ h => absurd h.1 (by simp)) (Or.inl ⟨by rfl, ?_⟩) (by assumption) ?_
            rotate_left
            · (intro w hSw; obtain ⟨s1, s2⟩ := hSw; go_simp; (try with_reducible rfl))
            (try simp only [Act.put, List.setIfInBounds_toArray, List.set_cons_zero, List.set_cons_succ])
            refine wpE_take (k := 3) (o := ⟨some 69, _, _, _, _, _⟩) (v := ?_) rfl (by kernel_rfl) (by kernel_rfl) (by kernel_rfl) (by kernel_rfl) (fun _ _ _ h => absurd h.1 (by simp)) (Or.inl ⟨by rfl, ?_⟩) (by assumption) ?_
            rotate_left
            · (intro w hSw; obtain ⟨s1, s2⟩ := hSw; go_simp; (try with_reducible rfl))
            (try simp only [Act.put, List.setIfInBounds_toArray, List.set_cons_zero, List.set_cons_succ])
            refine wpE_take (k := 4) (o := ⟨some 70, _, _, _, _, _⟩) (v := ?_) rfl (by kernel_rfl) (by kernel_rfl) (by kernel_rfl) (by kernel_rfl) (fun _ _ _ h => absurd h.1 (by simp)) (Or.inl ⟨by rfl, ?_⟩) (by assumption) ?_
            rotate_left
            · (intro w hSw; obtain ⟨s1, s2⟩ := hSw; go_simp; (try with_reducible rfl))
            (try simp only [Act.put, List.setIfInBounds_toArray, List.set_cons_zero, List.set_cons_succ])
            refine wpE_take (k := 5) (o := ⟨some 71, _, _, _, _, _⟩) (v := ?_) rfl (by kernel_rfl) (by kernel_rfl) (by kernel_rfl) (by kernel_rfl) (fun _ _ _ h => absurd h.1 (by simp)) (Or.inl ⟨by rfl, ?_⟩) (by assumption) ?_
            rotate_left
            · (intro w hSw; obtain ⟨s1, s2⟩ := hSw; go_simp; (try with_reducible rfl))
            (try simp only [Act.put, List.setIfInBounds_toArray, List.set_cons_zero, List.set_cons_succ])
            refine wpE_take (k := 6) (o := ⟨some 72, _, _, _, _, _⟩) (v := ?_) rfl (by kernel_rfl) (by kernel_rfl) (by kernel_rfl) (by kernel_rfl) (fun _ _ _ h => absurd h.1 (by simp)) (Or.inl ⟨by rfl, ?_⟩) (by assumption) ?_
            rotate_left
            · (intro w hSw; obtain ⟨s1, s2⟩ := hSw; go_simp; (try with_reducible rfl))
            (try simp only [Act.put, List.setIfInBounds_toArray, List.set_cons_zero, List.set_cons_succ])
            refine wpE_take (k := 8) (o := ⟨some 74, _, _, _, _, _⟩) (v := ?_) rfl (by kernel_rfl) (by kernel_rfl) (by kernel_rfl) (by kernel_rfl) (fun _ _ _ h => absurd h.1 (by simp)) (Or.inl ⟨by rfl, ?_⟩) (by assumption) ?_
            rotate_left
            · (intro w hSw; obtain ⟨s1, s2⟩ := hSw; go_simp; (try with_reducible rfl))
            (try simp only [Act.put, List.setIfInBounds_toArray, List.set_cons_zero, List.set_cons_succ])
            refine wpE_take (k := 9) (o := ⟨some 75, _, _, _, _, _⟩) (v := ?_) rfl (by kernel_rfl) (by kernel_rfl) (by kernel_rfl) (by kernel_rfl) (fun _ _ _ h => absurd h.1 (by simp)) (Or.inl ⟨by rfl, ?_⟩) (by assumption) ?_
            rotate_left
            · (intro w hSw; obtain ⟨s1, s2⟩ := hSw; go_simp; (try with_reducible rfl))
            (try simp only [Act.put, List.setIfInBounds_toArray, List.set_cons_zero, List.set_cons_succ])
            refine wpE_take (k := 10) (o := ⟨some 76, _, _, _, _, _⟩) (v := ?_) rfl (by kernel_rfl) (by kernel_rfl) (by kernel_rfl) (by kernel_rfl) (fun _ _ _ h => absurd h.1 (by simp)) (Or.inl ⟨by rfl, ?_⟩) (by assumption) ?_
            rotate_left
            · (intro w hSw; obtain ⟨s1, s2⟩ := hSw; go_simp; (try with_reducible rfl))
            (try simp only [Act.put, List.setIfInBounds_toArray, List.set_cons_zero, List.set_cons_succ])
            refine wpE_take (k := 11) (o := ⟨some 77, _, _, _, _, _⟩) (v := ?_) rfl (by kernel_rfl) (by kernel_rfl) (by kernel_rfl) (by kernel_rfl) (fun _ _ _ h => absurd h.1 (by simp)) (Or.inl ⟨by rfl, ?_⟩) (by assumption) ?_
            rotate_left
            · (intro w hSw; obtain ⟨s1, s2⟩ := hSw; go_simp; (try with_reducible rfl))
            (try simp only [Act.put, List.setIfInBounds_toArray, List.set_cons_zero, List.set_cons_succ])
            refine wpE_take (k := 12) (o := ⟨some 78, _, _, _, _, _⟩) (v := ?_) rfl (by kernel_rfl) (by kernel_rfl) (by kernel_rfl) (by kernel_rfl) (fun _ _ _ h => absurd h.1 (by simp)) (Or.inl ⟨by rfl, ?_⟩) (by assumption) ?_
            rotate_left
            · (intro w hSw; obtain ⟨s1, s2⟩ := hSw; go_simp; (try with_reducible rfl))
            (try simp only [Act.put, List.setIfInBounds_toArray, List.set_cons_zero, List.set_cons_succ])
            refine wpE_one (k := 7) (o := ⟨some 73, _, _, _, _, _⟩) rfl (by kernel_rfl) (fun K hK => ?_)
            refine step_call (P := Try.prog) wr.drew (by rfl) 8 [.tmp 72] _ (by rfl) [.int .i64 v.ty] (by rfl) (fun _ _ => rfl) (kind_any v.ty _) ?_
            rintro e w6 ⟨rfl, hb6⟩
            refine ⟨_, rfl, ?_⟩
            have HB6 := Aside.mk (below_chain HQ.out (undrew hb6))
            clear hb6
            refine hK.out _ _ (by have hx := HB6.out; obtain ⟨v0, v1, v2⟩ := HV.out; exact ⟨(hx.cell (p := ⟨g, off + i * 3 + 1, none⟩) (World.block_lt_of_cell? _ _ v1)).trans v1, (hx.cell (p := ⟨g, off + i * 3 + 2, none⟩) (World.block_lt_of_cell? _ _ v2)).trans v2⟩) (fun hS => ?_)
            clear hK K
            try simp only [Act.put, List.setIfInBounds_toArray, List.set_cons_zero, List.set_cons_succ]
            refine wpE_take (k := 13) (o := ⟨some 79, _, _, _, _, _⟩) (v := ?_) rfl (by kernel_rfl) (by kernel_rfl) (by kernel_rfl) (by kernel_rfl) (fun _ _ _ h => absurd h.1 (by simp)) (Or.inl ⟨by rfl, ?_⟩) (by assumption) ?_
            rotate_left
            · (intro w hSw; obtain ⟨s1, s2⟩ := hSw; go_simp; (try with_reducible rfl))
            (try simp only [Act.put, List.setIfInBounds_toArray, List.set_cons_zero, List.set_cons_succ])
            refine wpE_one (k := 14) (o := ⟨some 80, _, _, _, _, _⟩) rfl (by kernel_rfl) (fun K hK => ?_)
            go_simp
            have HB7 := Aside.mk (below_chain HB6.out (below_new w6 (.cells #[.string s, .int .i64 (kindI v.ty), .int .i64 (scaleI v.ty), .bool v.null] 137)))
            refine hK.out _ _ (by have hx := HB7.out; obtain ⟨v0, v1, v2⟩ := HV.out; exact ⟨(hx.cell (p := ⟨g, off + i * 3 + 1, none⟩) (World.block_lt_of_cell? _ _ v1)).trans v1, (hx.cell (p := ⟨g, off + i * 3 + 2, none⟩) (World.block_lt_of_cell? _ _ v2)).trans v2⟩) (fun hS => ?_)
            clear hK K
            try simp only [Act.put, List.setIfInBounds_toArray, List.set_cons_zero, List.set_cons_succ]
            refine wpE_one (k := 15) (o := ⟨some 81, _, _, _, _, _⟩) rfl (by kernel_rfl) (fun K hK => ?_)
            refine step_app2 (P := Try.prog) (w6.alloc (.cells #[.string s, .int .i64 (kindI v.ty), .int .i64 (scaleI v.ty), .bool v.null] 137)) (.tmp 66) (.tmp 80) 70 70 (by rfl) (by rfl) w.heap.size 137 (.agg #[.string ByteArray.empty, .int .i64 0, .int .i64 0, .bool false]) 4 40 Try.underlying70 headinfo (by rfl) (.slice a hs.length c) hs.length (hs.flatMap hdCells) (by rfl) (HO5.out.below HB7.out) (.slice (some ⟨w6.heap.size, 0, none⟩) 1 1) 1 [.string s, .int .i64 (kindI v.ty), .int .i64 (scaleI v.ty), .bool v.null] (by rfl) (src_head _ _ _ _ _) (by unfold maxLen; omega) (by omega) (by have := HB5.out.size; have := HB7.out.size; omega) ?_
            intro v' w8 hA
            obtain ⟨a8, c8, rfl⟩ := hA.own.form
            have HA := Aside.mk hA
            clear hA
            have HB8 := Aside.mk (show Below w.heap.size (w6.alloc (.cells #[.string s, .int .i64 (kindI v.ty), .int .i64 (scaleI v.ty), .bool v.null] 137)) w8 from (Kept.of_grown HA.out.grown).to_below (Nat.le_trans HB5.out.size HB7.out.size) (fun k e => (HO5.out.lt k e.symm).1))
            refine hK.out _ _ (by have hx := HB8.out; have hy := HB7.out; obtain ⟨v0, v1, v2⟩ := HV.out; exact ⟨(hx.cell (p := ⟨g, off + i * 3 + 1, none⟩) HG.out).trans ((hy.cell (p := ⟨g, off + i * 3 + 1, none⟩) (World.block_lt_of_cell? _ _ v1)).trans v1), (hx.cell (p := ⟨g, off + i * 3 + 2, none⟩) HG.out).trans ((hy.cell (p := ⟨g, off + i * 3 + 2, none⟩) (World.block_lt_of_cell? _ _ v2)).trans v2)⟩) (fun hS => ?_)
            clear hK K
            try simp only [Act.put, List.setIfInBounds_toArray, List.set_cons_zero, List.set_cons_succ]
            refine wpE_last (k := 16) (o := ⟨some 3, _, _, _, _, _⟩) rfl (by kernel_rfl) (by kernel_rfl) rfl (fun K hK => ?_)
            go_simp
            refine hK.out _ _ ?_
            clear hK K
            refine ⟨rfl, ?_⟩
            clear hS
            go_wp2_with fail
            have HX := Aside.mk (HdsI.step (b := v.null) HD.out hk61 HN.out (kind_ok v.ty))
            refine ⟨⟨i + 1, hs ++ [⟨s, kindI v.ty, scaleI v.ty, v.null⟩], a8, c8, by omega, by rw [List.length_append]; rfl, by simp, ⟨HX.out, ?_, (below_chain HB5.out HB7.out).trans HB8.out⟩⟩, by simp [intOf]; omega⟩
            simpa [hdCells] using HA.out.own
    · obtain rfl : i = l.length := by omega
      have hln := HI.out.1.1
      by_cases h0 : l.length = 0
      · have HL0 := Aside.mk h0
        have hd0 : decide ((hs.length : Int) = 0) = true := decide_eq_true (by omega)
        have HLN := Aside.mk hln
        obtain rfl : hs = [] := List.eq_nil_of_length_eq_zero (by omega)
        have hwz : decide ((l.length : Int) < (l.length : Int)) = false := decide_eq_false (by omega)
        clear hln h0
        go_wp2_with (at_builtin; refine wpList_app2 _ rfl _ _ 70 70 rfl w.heap.size 137 (.agg #[.string ByteArray.empty, .int .i64 0, .int .i64 0, .bool false]) 4 40 Try.underlying70 headinfo rfl (.slice a 0 c) 0 [] rfl (HI.out.2.1.alloc _) _ 1 [.string ({ data := #[97] } : ByteArray), .int .i64 15, .int .i64 0, .bool false] rfl (src_head _ _ _ _ _) (by unfold maxLen; omega) (by omega) (by have := HI.out.2.2.size; simp; omega) ?_; intro v' w8 hA; obtain ⟨a8, c8, rfl⟩ := hA.own.form; have HA := Aside.mk hA; clear hA)
        go_ret
        refine ⟨[⟨({ data := #[97] } : ByteArray), 15, 0, false⟩], a8, c8, rfl, by simpa [hdCells] using HA.out.own, schema_a, by decide, ?_⟩
        exact (below_chain HI.out.2.2 (below_new wr _)).trans ((Kept.of_grown HA.out.grown).to_below (Nat.le_trans HI.out.2.2.size (by simp)) (fun k e => (HI.out.2.1.lt k e.symm).1))
      · have HSC := Aside.mk (HI.out.1.schema (by omega) hl)
        have h8 : hs.length ≤ 8 := by omega
        have HI2 := Aside.mk (And.intro HI.out.2.1 HI.out.2.2)
        have HLB := Aside.mk (show hs.length ≤ 8 from h8)
        clear HI
        obtain ⟨n, hn⟩ : ∃ n, n = hs.length := ⟨_, rfl⟩
        rw [← hn] at HI2 ⊢
        have hn0 : n ≠ 0 := by omega
        have hd0 : decide ((n : Int) = 0) = false := decide_eq_false (by omega)
        have HN := Aside.mk hn
        clear hn hln h8 h0
        go_wp2_with fail
        go_ret
        obtain rfl := HN.out
        exact ⟨hs, a, c, rfl, HI2.out.1, HSC.out, HLB.out, HI2.out.2⟩
end Go.Proofs.Ytmhjjhaipcgbiaa
