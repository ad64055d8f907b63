/- Texts of this claim, one behind the other: AddC, AddT, Wakes. -/
import Derived.Test.YtmhjjhaipcgbiaaBakP7
import Derived.Test.YtmhjjhaipcgbiaaBakP15
import Derived.Test.YtmhjjhaipcgbiaaBakP14
import Derived.Test.YtmhjjhaipcgbiaaBakP12
import Derived.Laws.BytesArg

namespace Go.Proofs.Ytmhjjhaipcgbiaa
open Go.RowKit
set_option linter.unusedVariables false
set_option linter.unusedSimpArgs false
set_option maxRecDepth 100000
set_option maxHeartbeats 2000000
theorem IsB.kept {w w' : World} {bl lw base : Nat} {k s : Int} {nulls : List Bool} {data ends : List Int} {nv dv ev : Value} {S : Nat → Prop} (h : IsB w bl lw base k s nulls data ends nv dv ev) (hk : Kept S w w') (h1 : ¬ S bl) (h3 : ∀ b, nv.ownBlock = some b ∨ dv.ownBlock = some b ∨ ev.ownBlock = some b → ¬ S b) (hl : ∃ mv : Value × Value, w'.heap[lw]? = some (.cells #[mv.1, mv.2] 176 (0, 0))) : IsB w' bl lw base k s nulls data ends nv dv ev :=
  ⟨(hk.block _ (lt_of_blk h.blk) h1).trans h.blk, hl, h.bbl, h.blw, h.nulls.kept hk (fun b e => h3 b (.inl e)), h.data.kept hk (fun b e => h3 b (.inr (.inl e))), h.ends.kept hk (fun b e => h3 b (.inr (.inr e)))⟩
theorem WL.lst {w : World} {T : Nat → Prop} {lw : Nat} {ws : List (List Int)} (h : WL w T lw ws) : ∃ mv : Value × Value, w.heap[lw]? = some (.cells #[mv.1, mv.2] 176 (0, 0)) := by
  obtain ⟨wv, mb, vals, D, h⟩ := h
  exact ⟨(_, _), h.blk⟩
end Go.Proofs.Ytmhjjhaipcgbiaa


namespace Go.Proofs.Ytmhjjhaipcgbiaa
open Go.RowKit
set_option linter.unusedVariables false
set_option linter.unusedSimpArgs false
set_option maxRecDepth 100000
set_option maxHeartbeats 8000000
theorem intinfo2 : (Try.prog.info? 3).map (fun i => (i.zero, i.size, i.bytes)) = some (some (.int .i64 0), 1, 8) := by kernel_rfl
end Go.Proofs.Ytmhjjhaipcgbiaa


namespace Go.Proofs.Ytmhjjhaipcgbiaa
open Go.RowKit
set_option linter.unusedVariables false
set_option linter.unusedSimpArgs false
set_option maxRecDepth 100000
set_option maxHeartbeats 2000000
theorem conv_rd (v : Value) (n : Nat) (xs : List Int) (hn : xs.length = n) (h0 : 0 < n) (w : World) (h : Rd w 1 v n (xs.map (.int .u8))) : (convert 37 9 v).run Try.prog w = .ok (.string (strOfNums xs)) w := by
  obtain ⟨g, o, d, rfl, _, _, hc⟩ := h.some_ (by rw [List.length_map]; omega)
  exact run_convert_bytes_arg w 37 5 Try.underlying37 Try.underlying5 g o n d xs hn (fun i hi => hc i _ (by
    have : i < xs.length := by omega
    simp [List.getElem?_eq_getElem this, List.getD])) 9 Try.underlying9
theorem same_eq (a b : Option Addr) (n ca cb : Nat) (xs : List Int) (hn : xs.length = n) (h0 : 0 < n) (w : World) (ha : Rd w 1 (.slice a n ca) n (xs.map (.int .u8))) (hb : Rd w 1 (.slice b n cb) n (xs.map (.int .u8))) : Calls Try.prog 20 #[.slice a n ca, .slice b n cb] w fun e w' => e = .returned (.bool true) ∧ w = w' := by
  have h1 := conv_rd _ n xs hn h0 w ha
  have h2 := conv_rd _ n xs hn h0 w hb
  clear ha hb
  go_enter Try.func20, Try.ntmps20
  go_wp2
  go_ret
  exact ⟨rfl, rfl⟩
theorem rd_blk {w : World} {g n : Nat} {cs : Array Value} {T : TypeId} {fr : Nat × Nat} (h : w.heap[g]? = some (.cells cs T fr)) (hn : cs.size = n) (hm : n ≤ maxLen) : Rd w 1 (.slice (some ⟨g, 0, none⟩) n n) n cs.toList :=
  ⟨by simp [hn], some ⟨g, 0, none⟩, n, rfl, Nat.le_refl _, hm, (fun e => by cases e), fun j u hu => ⟨g, 0, rfl, by rw [cell_blk h, Nat.zero_add, ← Array.getElem?_toList]; exact hu⟩⟩
end Go.Proofs.Ytmhjjhaipcgbiaa
