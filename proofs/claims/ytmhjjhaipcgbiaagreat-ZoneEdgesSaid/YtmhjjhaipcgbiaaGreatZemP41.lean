/- Texts of this claim, one behind the other: DictB, Refuse. -/
import Derived.Test.YtmhjjhaipcgbiaaGreatZemP12
import Derived.Maps.Views
import Derived.BigQuiet
import Derived.Deep.QuietTactic
import Derived.Test.YtmhjjhaipcgbiaaGreatZemP22
import Derived.Test.YtmhjjhaipcgbiaaGreatZemP9
import Derived.Test.YtmhjjhaipcgbiaaGreatZemP32
import Derived.Test.YtmhjjhaipcgbiaaGreatZemP23
import Derived.Test.YtmhjjhaipcgbiaaGreatZemP24
import Derived.Test.YtmhjjhaipcgbiaaGreatZemP18
import Derived.IntWalk
import Derived.Test.YtmhjjhaipcgbiaaGreatZemP7

namespace Go.Proofs.YtmhjjhaipcgbiaaGreat
open Go.RowKit Go.Maps
set_option linter.unusedVariables false
set_option linter.unusedSimpArgs false
set_option maxRecDepth 100000
set_option maxHeartbeats 1000000
def CX (D : DataW Unit) (ws : List (List Int)) (n j : Nat) : Prop :=
  (∀ t, IsBytes t → Maps.has D (wordKey t) = (ws.take n ++ ws.drop (n + j)).contains t) ∧ ∀ (i : Nat) t, i < n → ws[i]? = some t → D.atKey (wordKey t) (.lit (.int .i64 0)) = .lit (.int .i64 (i : Int))
theorem CX.done {D : DataW Unit} {ws : List (List Int)} {n j : Nat} (h : CX D ws n j) (hj : ws.length ≤ n + j) : codesOK D (ws.take n) := by
  refine ⟨fun t ht => ?_, fun i t hi => ?_⟩
  · have := h.1 t ht
    rwa [List.drop_eq_nil_of_le hj, List.append_nil] at this
  · rw [List.getElem?_take] at hi
    split at hi
    · exact h.2 i t (by omega) hi
    · cases hi
theorem CX.step {D : DataW Unit} {ws : List (List Int)} {n j : Nat} (h : CX D ws n j) (hn : ws.Nodup) (hb : ∀ t ∈ ws, IsBytes t) (hj : n + j < ws.length) : CX (D.del (wordKey ws[n + j])) ws n (j + 1) ∧ Maps.has D (wordKey ws[n + j]) = true := by
  have hd : ws.drop (n + j) = ws[n + j] :: ws.drop (n + (j + 1)) := by rw [List.drop_eq_getElem_cons hj]; rfl
  have hbt := hb _ (List.getElem_mem hj)
  have hu : (ws.take n ++ ws[n + j] :: ws.drop (n + (j + 1))).Nodup := by
    have h1 : (ws.take n ++ ws.drop (n + j)).Sublist ws := by
      have : ws.take n ++ ws.drop (n + j) = ws.take n ++ (ws.drop n).drop j := by rw [List.drop_drop]
      rw [this]
      conv => rhs; rw [← List.take_append_drop n ws]
      exact List.Sublist.append (List.Sublist.refl _) (List.drop_sublist _ _)
    rw [hd] at h1
    exact h1.nodup hn
  refine ⟨⟨fun t ht => ?_, fun i t hi he => ?_⟩, ?_⟩
  · by_cases e : t = ws[n + j]
    · subst e
      rw [has_del_same]
      rw [List.nodup_append] at hu
      obtain ⟨_, h2, h3⟩ := hu
      rw [List.nodup_cons] at h2
      symm
      rw [Bool.eq_false_iff]
      intro hc
      rw [List.contains_iff_mem] at hc
      rcases List.mem_append.1 hc with h4 | h4
      · exact h3 _ h4 _ (List.mem_cons_self ..) rfl
      · exact h2.1 h4
    · rw [has_del_other (fun e' => e (wordKey_inj ht hbt e')), h.1 t ht, hd]
      rw [Bool.eq_iff_iff, List.contains_iff_mem, List.contains_iff_mem, List.mem_append, List.mem_append, List.mem_cons]
      simp [e]
  · have hne : t ≠ ws[n + j] := by
      rintro rfl
      have h1 := List.getElem?_eq_some_iff.1 he
      obtain ⟨h3, h4⟩ := h1
      have := (List.getElem_inj hn).1 h4
      omega
    rw [atKey_del_other (fun e' => hne (wordKey_inj (hb t (List.mem_of_getElem? he)) hbt e'))]
    exact h.2 i t hi he
  · rw [h.1 _ hbt, hd]
    simp
theorem size_own {w : World} {b n : Nat} {D : DataW Unit} (h : w.ownsMap Tryz.prog 9 (plainElem Tryz.prog 3) b n D) : w.ownsMap Tryz.prog 9 (plainElem Tryz.prog 3) b (Maps.size D) D ∧ Maps.size D ≤ n := by
  obtain ⟨es, clock, hb, F, hs, rfl⟩ := h
  have e : Maps.size (DataW.map ((es.toList.map (Go.WideElems.rg Tryz.prog 9 (plainElem (H := Unit) Tryz.prog 3))).foldr DataW.insert [])) = es.size := by
    rw [size_eq, length_sorted]; simp
  exact ⟨⟨es, clock, hb, F, Nat.le_of_eq e.symm, rfl⟩, by rw [e]; exact hs⟩
structure DBI (ws : List (List Int)) (mb n j : Nat) (w wr : World) : Prop where
  map : ∃ D : DataW Unit, wr.ownsMap Tryz.prog 9 (plainElem Tryz.prog 3) mb (Maps.size D) D ∧ CX D ws n j ∧ Maps.size D + j ≤ ws.length
  kept : Kept (fun b => b = mb) w wr
theorem DBI.step {ws : List (List Int)} {mb n j : Nat} {w wr : World} (h : DBI ws mb n j w wr) (hn : ws.Nodup) (hb : ∀ t ∈ ws, IsBytes t) (hj : n + j < ws.length) (hl : ws[n + j].length ≤ 100000000) :
    ∃ w1, (∀ ty, (Builtin.delete_ #[210, 9] ty #[.map (some mb), .string (strOfNums ws[n + j])]).run Tryz.prog wr.drew = .ok (.tuple #[]) w1) ∧ DBI ws mb n (j + 1) w w1 := by
  obtain ⟨⟨D, h1, h2, h3⟩, hk⟩ := h
  have hk1 := wordKey_key ws[n + j] (by unfold maxLen; omega)
  obtain ⟨h4, h5⟩ := h2.step hn hb hj
  have hT := h1.tidy string_law
  have hsz := size_del (k := wordKey ws[n + j]) hT
  rw [h5, if_pos rfl] at hsz
  obtain ⟨w1, hr, ho, ht⟩ := h1.drew.drop string_law Tryz.underlying210 hk1 0
  refine ⟨w1, fun ty => ?_, ⟨⟨_, (size_own ho).1, h4, by omega⟩, ?_⟩⟩
  · exact hr
  · exact (hk.trans (Kept.of_below (S := fun b => b = mb) (below_drewN _ _ 1)) (fun _ e _ => e)).trans ((Kept.of_grown ht.grown).mono (fun b e _ => by simpa using e)) (fun _ e _ => e)
end Go.Proofs.YtmhjjhaipcgbiaaGreat


namespace Go.Proofs.YtmhjjhaipcgbiaaGreat
open Go.RowKit
set_option linter.unusedVariables false
set_option linter.unusedSimpArgs false
set_option maxRecDepth 100000
set_option maxHeartbeats 1000000
theorem BS.cells {w : World} {S : Nat → Prop} {bl : Nat} {k s : Int} {c : CS} (h : BS w S bl k s c) : w.cell? ⟨bl, 0, none⟩ = some (.int .i64 k) ∧ w.cell? ⟨bl, 1, none⟩ = some (.int .i64 s) ∧ ∃ na nc, w.cell? ⟨bl, 2, none⟩ = some (.slice na c.nulls.length nc) := by
  obtain ⟨lw, nv, dv, ev, T, h⟩ := h
  obtain ⟨na, nc, e⟩ := h.b.nulls.form
  refine ⟨?_, ?_, na, nc, ?_⟩
  · rw [cell_blk h.b.blk]; rfl
  · rw [cell_blk h.b.blk]; rfl
  · rw [cell_blk h.b.blk, e]; rfl
end Go.Proofs.YtmhjjhaipcgbiaaGreat
