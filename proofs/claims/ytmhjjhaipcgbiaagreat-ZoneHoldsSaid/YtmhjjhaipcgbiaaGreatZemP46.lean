/- Texts of this claim, one behind the other: Twin18, Kind. -/
import Derived.Test.YtmhjjhaipcgbiaaGreatZemP20
import Derived.Test.YtmhjjhaipcgbiaaGreatZemP24
import Derived.Test.YtmhjjhaipcgbiaaGreatZemP29
import Derived.Test.YtmhjjhaipcgbiaaGreatZemP45
import Derived.Test.YtmhjjhaipcgbiaaGreatZemP5

namespace Go.Proofs.YtmhjjhaipcgbiaaGreat
open Go.RowKit
set_option linter.unusedVariables false
set_option linter.unusedSimpArgs false
set_option maxRecDepth 100000
set_option maxHeartbeats 1000000
structure TwB (w : World) (n : Nat) (c : Col) (B D E X : SL) (b' d' e' x' : Value) : Prop where
  k0 : w.heap[n]? = some (.cells #[.int .i64 c.k, .int .i64 c.s, .int .i64 c.n, .int .i64 c.m, .slice B.a c.bits.length B.c, .slice D.a c.data.length D.c, .slice E.a c.ends.length E.c, .slice X.a c.words.length X.c] 63 (0, 0))
  k1 : w.heap[n + 1]? = some (.cells #[.int .i64 0, .int .i64 0, .int .i64 0, .int .i64 0, .slice none 0 0, .slice none 0 0, .slice none 0 0, .slice none 0 0] 63 (0, 0))
  k2 : w.heap[n + 1 + 1]? = some (.cells #[.int .i64 c.k, .int .i64 c.s, .int .i64 c.n, .int .i64 c.m, b', d', e', x'] 63 (0, 0))
theorem TwB.below {w w' : World} {n : Nat} {c : Col} {B D E X : SL} {b' d' e' x' : Value} (h : TwB w n c B D E X b' d' e' x') (hb : Below w.heap.size w w') : TwB w' n c B D E X b' d' e' x' :=
  ⟨(hb.block _ (lt_of_blk h.k0)).trans h.k0, (hb.block _ (lt_of_blk h.k1)).trans h.k1, (hb.block _ (lt_of_blk h.k2)).trans h.k2⟩
theorem TwB.set {w : World} {n : Nat} {c : Col} {B D E X : SL} {b' d' e' x' : Value} (h : TwB w n c B D E X b' d' e' x') (k : Nat) (v : Value) : (w.setCell ⟨n + 1 + 1, k, none⟩ v).heap[n]? = some (.cells #[.int .i64 c.k, .int .i64 c.s, .int .i64 c.n, .int .i64 c.m, .slice B.a c.bits.length B.c, .slice D.a c.data.length D.c, .slice E.a c.ends.length E.c, .slice X.a c.words.length X.c] 63 (0, 0)) ∧ (w.setCell ⟨n + 1 + 1, k, none⟩ v).heap[n + 1]? = some (.cells #[.int .i64 0, .int .i64 0, .int .i64 0, .int .i64 0, .slice none 0 0, .slice none 0 0, .slice none 0 0, .slice none 0 0] 63 (0, 0)) :=
  ⟨((Kept.setCell w ⟨n + 1 + 1, k, none⟩ v).block _ (lt_of_blk h.k0) (by simp; omega)).trans h.k0, ((Kept.setCell w ⟨n + 1 + 1, k, none⟩ v).block _ (lt_of_blk h.k1) (by simp)).trans h.k1⟩
end Go.Proofs.YtmhjjhaipcgbiaaGreat


namespace Go.Proofs.YtmhjjhaipcgbiaaGreat
open Go.RowKit
set_option linter.unusedVariables false
set_option linter.unusedSimpArgs false
set_option maxRecDepth 100000
set_option maxHeartbeats 1000000
theorem tm_neg (n m : Int) (hm : 0 < m) (h : n.tmod m < 0) : n % m = n.tmod m + m ∧ -m < n.tmod m := by
  rw [Int.tmod_eq_emod] at *
  have := Int.emod_nonneg n (show m ≠ 0 by omega)
  have := Int.emod_lt_of_pos n hm
  split at h
  · omega
  · rename_i h2
    rw [if_neg h2]
    have : ((m.natAbs : Nat) : Int) = m := Int.natAbs_of_nonneg (by omega)
    have h3 : n % m ≠ 0 := fun e => h2 (.inr (Int.dvd_of_emod_eq_zero e))
    omega
theorem tm_pos (n m : Int) (hm : 0 < m) (h : ¬ n.tmod m < 0) : n % m = n.tmod m ∧ n.tmod m < m := by
  rw [Int.tmod_eq_emod] at *
  have := Int.emod_nonneg n (show m ≠ 0 by omega)
  have := Int.emod_lt_of_pos n hm
  split at h
  · rename_i h2
    rw [if_pos h2]
    omega
  · rename_i h2
    have : ((m.natAbs : Nat) : Int) = m := Int.natAbs_of_nonneg (by omega)
    omega
def withinI (n lo hi : Int) : Int := lo + n % (hi - lo + 1)
theorem within_any (n lo hi : Int) (h0 : 0 ≤ lo) (h1 : lo ≤ hi) (h2 : hi ≤ 1000000) (w : World) : Calls Tryz.prog 15 #[.int .i64 n, .int .i64 lo, .int .i64 hi] w fun e w' => e = .returned (.int .i64 (withinI n lo hi)) ∧ w = w' := by
  have hm1' : 0 < hi - lo + 1 := by omega
  by_cases ht : n.tmod (hi - lo + 1) < 0
  · have hb := tm_neg n _ hm1' ht
    have hb1 : -1000001 < n.tmod (hi - lo + 1) := by omega
    have hb := Aside.mk hb
    go_enter Tryz.func15, Tryz.ntmps15
    go_wp2
    go_ret
    refine ⟨ret_int ?_, rfl⟩
    have := hb.out
    unfold withinI
    omega
  · have hb := tm_pos n _ hm1' ht
    have hb1 : n.tmod (hi - lo + 1) < 1000001 := by omega
    have hb := Aside.mk hb
    go_enter Tryz.func15, Tryz.ntmps15
    go_wp2
    go_ret
    refine ⟨ret_int ?_, rfl⟩
    have := hb.out
    unfold withinI
    omega
end Go.Proofs.YtmhjjhaipcgbiaaGreat
