/- Texts of this claim, one behind the other: New, Mask, MaskOf. -/
import Derived.Test.YtmhjjhaipcgbiaaSpoP6
import Derived.Test.YtmhjjhaipcgbiaaSpoP1

namespace Go.Proofs.Ytmhjjhaipcgbiaa
open Go.RowKit
set_option linter.unusedVariables false
set_option linter.unusedSimpArgs false
set_option maxRecDepth 100000
set_option maxHeartbeats 1000000
theorem dictNew_any (w : World) : Calls Try.prog 62 #[] w fun e w' => e = .returned (.pointer (some ⟨w.heap.size + 1, 0, none⟩)) ∧ w' = (w.alloc (.map #[] 0)).alloc (.cells #[.slice none 0 0, .map (some w.heap.size)] 176) := by
  have hmm := @run_makeMap Try.prog
  go_enter Try.func62, Try.ntmps62
  go_wp2
  go_ret
  exact ⟨rfl, rfl⟩
structure IsB (w : World) (bl lw base : Nat) (k s : Int) (nulls : List Bool) (data : List Int) (ends : List Int) (nv dv ev : Value) : Prop where
  blk : w.heap[bl]? = some (.cells #[.int .i64 k, .int .i64 s, nv, dv, ev, .pointer (some ⟨lw, 0, none⟩)] 115 (0, 0))
  lst : ∃ mv : Value × Value, w.heap[lw]? = some (.cells #[mv.1, mv.2] 176 (0, 0))
  bbl : base ≤ bl
  blw : base ≤ lw
  nulls : Own w base 4 1 nv nulls.length (nulls.map .bool)
  data : Own w base 5 1 dv data.length (data.map (.int .u8))
  ends : Own w base 3 1 ev ends.length (ends.map (.int .i64))
theorem IsB.drewN {w : World} {bl lw base : Nat} {k s : Int} {nulls : List Bool} {data ends : List Int} {nv dv ev : Value} (h : IsB w bl lw base k s nulls data ends nv dv ev) (m : Nat) : IsB (w.drewN m) bl lw base k s nulls data ends nv dv ev :=
  ⟨h.blk, h.lst, h.bbl, h.blw, h.nulls, h.data, h.ends⟩
theorem IsB.below {w w' : World} {bl lw base : Nat} {k s : Int} {nulls : List Bool} {data ends : List Int} {nv dv ev : Value} (h : IsB w bl lw base k s nulls data ends nv dv ev) (hb : Below w.heap.size w w') : IsB w' bl lw base k s nulls data ends nv dv ev :=
  ⟨(hb.block _ (lt_of_blk h.blk)).trans h.blk, (let ⟨mv, hl⟩ := h.lst; ⟨mv, (hb.block _ (lt_of_blk hl)).trans hl⟩), h.bbl, h.blw, h.nulls.below hb, h.data.below hb, h.ends.below hb⟩
end Go.Proofs.Ytmhjjhaipcgbiaa


namespace Go.Proofs.Ytmhjjhaipcgbiaa
open Go.RowKit
set_option linter.unusedVariables false
set_option linter.unusedSimpArgs false
set_option maxRecDepth 100000
set_option maxHeartbeats 1000000
def mrow (bs : List Int) (n : Nat) : List Int := if n % 8 = 0 then bs ++ [0] else bs
def morb (x : Int) (k : Nat) : Int := bits .or .u8 x (2 ^ k % 256)
def mput (bs : List Int) (n : Nat) (bit : Bool) : List Int := if bit then (mrow bs n).set (n / 8) (morb ((mrow bs n).getD (n / 8) 0) (n % 8)) else mrow bs n
theorem mrow_len (bs : List Int) (n : Nat) (h : bs.length = (n + 7) / 8) : (mrow bs n).length = n / 8 + 1 := by
  unfold mrow
  split
  · rw [List.length_append, h]; simp; omega
  · rw [h]; omega
theorem mput_len (bs : List Int) (n : Nat) (bit : Bool) (h : bs.length = (n + 7) / 8) : (mput bs n bit).length = n / 8 + 1 := by
  unfold mput
  split
  · rw [List.length_set]; exact mrow_len bs n h
  · exact mrow_len bs n h
end Go.Proofs.Ytmhjjhaipcgbiaa


namespace Go.Proofs.Ytmhjjhaipcgbiaa
open Go.RowKit
set_option linter.unusedVariables false
set_option linter.unusedSimpArgs false
set_option maxRecDepth 100000
set_option maxHeartbeats 1000000
def mofR : List Bool → List Int
  | [] => []
  | b :: r => mput (mofR r) r.length b
def mof (l : List Bool) : List Int := mofR l.reverse
theorem mof_snoc (l : List Bool) (b : Bool) : mof (l ++ [b]) = mput (mof l) l.length b := by simp [mof, mofR]
theorem mofR_len (l : List Bool) : (mofR l).length = (l.length + 7) / 8 := by
  induction l with
  | nil => rfl
  | cons b r ih =>
    rw [mofR, mput_len _ _ _ ih, List.length_cons]
    omega
theorem mof_len (l : List Bool) : (mof l).length = (l.length + 7) / 8 := by rw [mof, mofR_len, List.length_reverse]
def MofP (l : List Bool) (w : World) (e : Ending) (w' : World) : Prop :=
  ∃ v', e = .returned (.agg #[.int .i64 (l.length : Int), v']) ∧ Own w' w.heap.size 5 1 v' (mof l).length ((mof l).map (.int .u8)) ∧ Below w.heap.size w w'
end Go.Proofs.Ytmhjjhaipcgbiaa
