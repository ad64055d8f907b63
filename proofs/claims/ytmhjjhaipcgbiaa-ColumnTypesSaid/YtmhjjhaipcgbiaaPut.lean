/- texts, Null, Put at the kinds of fixed width. -/
import Derived.Test.YtmhjjhaipcgbiaaAdd2
import Derived.Test.YtmhjjhaipcgbiaaFitsR
namespace Go.Proofs.Ytmhjjhaipcgbiaa
open Go.RowKit
set_option linter.unusedVariables false
set_option linter.unusedSimpArgs false
set_option maxRecDepth 100000
set_option maxHeartbeats 1000000

theorem texts_no (bl lw base : Nat) (k s : Int) (hk1 : (k == 15) = false) (hk2 : (k == 16) = false) (nulls : List Bool) (data : List Int) (ends : List Int) (nv dv ev : Value) (w : World) (h : IsB w bl lw base k s nulls data ends nv dv ev) :
    Calls Try.prog 101 #[.pointer (some ⟨bl, 0, none⟩)] w fun e w' => e = .returned (.bool false) ∧ w = w' := by
  have hc0 := cell_blk (k := 0) h.blk
  simp at hc0
  clear h
  go_enter Try.func101, Try.ntmps101
  go_wp2
  go_ret
  exact ⟨rfl, rfl⟩

theorem null_fixed (bl lw base : Nat) (k s : Int) (hk1 : (k == 15) = false) (hk2 : (k == 16) = false) (nulls : List Bool) (data : List Int) (ends : List Int) (nv dv ev : Value) (hl : data.length ≤ 100000000) (hl2 : nulls.length ≤ 100000000) (w : World) (h : IsB w bl lw base k s nulls data ends nv dv ev) (hb : base ≤ w.heap.size) :
    Calls Try.prog 53 #[.pointer (some ⟨bl, 0, none⟩)] w (AddP bl lw base k s nulls data ends nv dv ev 0 true w) := by
  have H := Aside.mk h
  clear h
  go_enter Try.func53, Try.ntmps53
  go_wp2_with (go_at_call 64; refine (add_fixed bl lw base k s hk1 hk2 nulls data ends nv dv ev 0 _ true (by omega) hl hl2 _ H.out hb).mono ?_; rintro e w1 ⟨rfl, hp⟩)
  refine bodyPost_ret (v := .tuple #[]) (by simp [results, Try.results53, go_sem]) rfl ⟨rfl, hp⟩

def PutP (bl lw base : Nat) (k s : Int) (nulls : List Bool) (data : List Int) (ends : List Int) (nv dv ev : Value) (X : Nat) (w : World) (e : Ending) (w' : World) : Prop :=
  e = .returned (.int .i64 0) ∧ AddP bl lw base k s nulls data ends nv dv ev X false w (.returned (.tuple #[])) w'

theorem put_fixed (bl lw base : Nat) (k s : Int) (hk1 : (k == 15) = false) (hk2 : (k == 16) = false) (nulls : List Bool) (data : List Int) (ends : List Int) (nv dv ev : Value) (X : Nat) (hX : X < 18446744073709551616) (hf : fitsB k s X = true) (hl : data.length ≤ 100000000) (hl2 : nulls.length ≤ 100000000) (w : World) (h : IsB w bl lw base k s nulls data ends nv dv ev) (hb : base ≤ w.heap.size) :
    Calls Try.prog 52 #[.pointer (some ⟨bl, 0, none⟩), .int .u64 (X : Int)] w (PutP bl lw base k s nulls data ends nv dv ev X w) := by
  have hc0 := cell_blk (k := 0) h.blk
  have hc1 := cell_blk (k := 1) h.blk
  simp at hc0 hc1
  have hl3 := h.data.lt
  have hl4 := h.nulls.lt
  have HL := Aside.mk (And.intro hl3 hl4)
  have hbs := lt_of_blk h.blk
  have H := Aside.mk h
  have HF := Aside.mk hf
  clear h hf hl3 hl4
  go_enter Try.func52, Try.ntmps52
  go_wp2_with (first | (go_at_call 101; refine (texts_no bl lw base k s hk1 hk2 nulls data ends nv dv ev _ H.out).mono ?_; rintro e w1 ⟨rfl, rfl⟩) | (go_at_call 14; refine (fits_any k s X (by omega) (by omega) _).mono ?_; rintro e w2 ⟨rfl, hb2⟩; rw [HF.out]; have B2 := Aside.mk hb2; have hz2 := hb2.size; clear hb2) | (go_at_call 64; refine (add_fixed bl lw base k s hk1 hk2 nulls data ends nv dv ev X _ false hX hl hl2 _ (H.out.below B2.out) (by omega)).mono ?_; rintro e w3 ⟨rfl, hp⟩; have HP := Aside.mk hp; clear hp))
  go_ret
  refine ⟨rfl, rfl, ?_⟩
  obtain ⟨nv', dv', h1, h2, h3, h4⟩ := HP.out
  refine ⟨nv', dv', h1, (Kept.of_below B2.out).trans h2 (fun _ e _ => e), ?_, ?_⟩
  · rcases h3 with e | ⟨b, e, h⟩
    · exact .inl e
    · exact .inr ⟨b, e, by omega⟩
  · rcases h4 with e | ⟨b, e, h⟩
    · exact .inl e
    · exact .inr ⟨b, e, by omega⟩
end Go.Proofs.Ytmhjjhaipcgbiaa
