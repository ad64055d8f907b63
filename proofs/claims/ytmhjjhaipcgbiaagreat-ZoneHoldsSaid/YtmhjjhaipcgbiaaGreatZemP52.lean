/- Texts of this claim, one behind the other: Zhw, Zrh. -/
import Derived.Test.YtmhjjhaipcgbiaaGreatZemP39
import Derived.Test.YtmhjjhaipcgbiaaGreatZemP49
import Derived.Test.YtmhjjhaipcgbiaaGreatZemP50
import Derived.Test.YtmhjjhaipcgbiaaGreatZemP51

namespace Go.Proofs.YtmhjjhaipcgbiaaGreat
open Go.RowKit
set_option linter.unusedVariables false
set_option linter.unusedSimpArgs false
set_option maxRecDepth 100000
set_option maxHeartbeats 1000000
structure HoI (k s : Int) (c : Col) (z : Zn) (B D E X F L : SL) (va : List Value) (cb zb : Nat) (w W : World) : Prop where
  bel : Below w.heap.size w W
  sc : W.heap[cb]? = some (.cells #[.int .i64 c.k, .int .i64 c.s, .int .i64 c.n, .int .i64 c.m, .slice B.a c.bits.length B.c, .slice D.a c.data.length D.c, .slice E.a c.ends.length E.c, .slice X.a c.words.length X.c] 63 (0, 0))
  sz : W.heap[zb]? = some (.cells #[.int .i64 k, .int .i64 s, .int .i64 (z.n : Int), .int .i64 (z.nulls : Int), .int .i64 (z.odd : Int), .bool z.has, .int .u64 (z.least : Int), .int .u64 (z.most : Int), .slice F.a z.first.length F.c, .slice L.a z.last.length L.c] 79 (0, 0))
  so : OwnC W w.heap.size c B D E X va
  rf : RdT W z.first F
  rl : RdT W z.last L
theorem HoI.below {k s : Int} {c : Col} {z : Zn} {B D E X F L : SL} {va : List Value} {cb zb : Nat} {w W W' : World} (h : HoI k s c z B D E X F L va cb zb w W) (b : Below W.heap.size W W') : HoI k s c z B D E X F L va cb zb w W' :=
  ⟨below_chain h.bel b, (b.block _ (lt_of_blk h.sc)).trans h.sc, (b.block _ (lt_of_blk h.sz)).trans h.sz, h.so.below b, h.rf.below b, h.rl.below b⟩
theorem zoneHolds_walk (n : Int) (l : List V) (hl : l.length ≤ 9223372036854775807) (hv : ∀ v ∈ l, IsBytes v.text ∧ v.bits < 18446744073709551616 ∧ v.text.length ≤ 9223372036854775807) (A : SL) (v : Nat) (hv64 : v < 18446744073709551616) (w : World) (h : RdVs w A l) :
    Calls Tryz.prog 8 #[.int .i64 n, .slice A.a l.length A.c, .int .u64 (v : Int)] w (BoolP true w) := by
  have HL := Aside.mk (lay19_any n l hl hv A w h)
  have HK := Aside.mk (kind_ok n)
  clear h hl hv
  generalize l.length = ln at *
  go_enter Tryz.func8, Tryz.ntmps8
  unfold LayP at HL
  generalize kindI n = k at *
  generalize scaleI n = s at *
  go_upto_region 2 with (go_at_call 37; refine HL.out.mono ?_; rintro e w1 ⟨r, hr, B, D, E, X, va, rfl, hown, hb1⟩; have HRR := Aside.mk hr; have HOW := Aside.mk hown; have HB1 := Aside.mk hb1; clear hr hown hb1 HL; dsimp only [colV])
  have hf := few_of19 HRR.out.1 HRR.out.2
  have HFE := Aside.mk hf
  have HF := Aside.mk (built_facts HK.out hf.1 hf.2)
  have HED := Aside.mk (edge_fold k r.length r)
  have HZI := Aside.mk (zinv (k := k) (s := s) (n := r.length) r (fun u hu => ⟨hf.2 u hu, Nat.le_trans (HRR.out.2 u hu).2 (by decide)⟩))
  have HZF := Aside.mk (fun W (h : OwnC W w.heap.size (colOf k s r) B D E X va) => zof_built HK.out hf B D E X va W h)
  have HRL := Aside.mk HRR.out.1
  clear hf
  have hcc : ∃ c, colOf k s r = c := ⟨_, rfl⟩
  obtain ⟨c, hcc⟩ := hcc
  change Aside (BF k s r (colOf k s r)) at HF
  rw [hcc] at HF HZF HOW
  rw [hcc]
  have hzz : ∃ z, zFold k r.length r = z := ⟨_, rfl⟩
  obtain ⟨z, hzz⟩ := hzz
  have HZD := Aside.mk (show ZOK k z ∧ z.odd ≤ 1000000 from by have h1 := HZI.out.ok; have h2 := HZI.out.odd; have h3 := HRL.out; rw [hzz] at h1 h2; exact ⟨h1, by omega⟩)
  rw [hzz] at HED HZF
  clear HZI hcc hzz
  have hb := below_new w1 (.cells #[.int .i64 c.k, .int .i64 c.s, .int .i64 c.n, .int .i64 c.m, .slice B.a c.bits.length B.c, .slice D.a c.data.length D.c, .slice E.a c.ends.length E.c, .slice X.a c.words.length X.c] 63)
  have hc := heap_alloc_new w1 (.cells #[.int .i64 c.k, .int .i64 c.s, .int .i64 c.n, .int .i64 c.m, .slice B.a c.bits.length B.c, .slice D.a c.data.length D.c, .slice E.a c.ends.length E.c, .slice X.a c.words.length X.c] 63)
  generalize w1.alloc (.cells #[.int .i64 c.k, .int .i64 c.s, .int .i64 c.n, .int .i64 c.m, .slice B.a c.bits.length B.c, .slice D.a c.data.length D.c, .slice E.a c.ends.length E.c, .slice X.a c.words.length X.c] 63) = w2 at *
  replace HOW := Aside.mk (HOW.out.below hb)
  replace HB1 := Aside.mk (below_chain HB1.out hb)
  have HC := Aside.mk hc
  obtain ⟨c0, c1, c2, c3, c4, c5, c6, c7⟩ := box8 hc
  clear hb hc
  have HZF2 := Aside.mk (HZF.out _ HOW.out)
  dsimp only [colV] at HZF2
  go_upto_region 3 with (go_at_call 38; refine HZF2.out.mono ?_; rintro e w3 ⟨F, L, rfl, hz, hb⟩; have HZO := Aside.mk hz; have HB3 := Aside.mk hb; clear hz hb HZF2 c0 c1 c2 c3 c4 c5 c6 c7; dsimp only [zV])
  have hb := below_new w3 (.cells #[.int .i64 k, .int .i64 s, .int .i64 (z.n : Int), .int .i64 (z.nulls : Int), .int .i64 (z.odd : Int), .bool z.has, .int .u64 (z.least : Int), .int .u64 (z.most : Int), .slice F.a z.first.length F.c, .slice L.a z.last.length L.c] 79)
  have hc := heap_alloc_new w3 (.cells #[.int .i64 k, .int .i64 s, .int .i64 (z.n : Int), .int .i64 (z.nulls : Int), .int .i64 (z.odd : Int), .bool z.has, .int .u64 (z.least : Int), .int .u64 (z.most : Int), .slice F.a z.first.length F.c, .slice L.a z.last.length L.c] 79)
  generalize w3.alloc (.cells #[.int .i64 k, .int .i64 s, .int .i64 (z.n : Int), .int .i64 (z.nulls : Int), .int .i64 (z.odd : Int), .bool z.has, .int .u64 (z.least : Int), .int .u64 (z.most : Int), .slice F.a z.first.length F.c, .slice L.a z.last.length L.c] 79) = w4 at *
  have HI := Aside.mk (show HoI k s c z B D E X F L va w1.heap.size w3.heap.size w w4 from ⟨below_chain (below_chain HB1.out HB3.out) hb, (hb.block _ (lt_of_blk ((HB3.out.block _ (lt_of_blk HC.out)).trans HC.out))).trans ((HB3.out.block _ (lt_of_blk HC.out)).trans HC.out), hc, (HOW.out.below HB3.out).below hb, (HZO.out.f.rd.below hb), (HZO.out.l.rd.below hb)⟩)
  clear hb hc HZO HB3 HC HOW HB1 HZF
  have HH := Aside.mk (fun (u : Nat) (hu : u < 18446744073709551616) W => zholds_any k s z HZD.out.1 HZD.out.2 F L u hu W)
  have HG := Aside.mk (fun (u : Nat) (hu : u < 18446744073709551616) W (hI : HoI k s c z B D E X F L va w1.heap.size w3.heap.size w W) => rholds_any k s z HZD.out.1 HZD.out.2 F L u hu W hI.rf hI.rl)
  dsimp only [zV] at HH HG
  have HV64 := Aside.mk hv64
  clear hv64
  obtain ⟨c0, c1, c2, c3, c4, c5, c6, c7⟩ := box8 HI.out.sc
  obtain ⟨z0, z1, z2, z3, z4, z5, z6, z7, z8, z9⟩ := box10 HI.out.sz
  go_upto_region 5 with (go_at_call 41; refine (num19_any _ _).mono ?_; rintro e wn ⟨rfl, hb⟩; clear c0 c1 c2 c3 c4 c5 c6 c7 z0 z1 z2 z3 z4 z5 z6 z7 z8 z9; replace HI := Aside.mk (HI.out.below hb); obtain ⟨c0, c1, c2, c3, c4, c5, c6, c7⟩ := box8 HI.out.sc; obtain ⟨z0, z1, z2, z3, z4, z5, z6, z7, z8, z9⟩ := box10 HI.out.sz; clear hb)
  have hbb : ∃ b, holdB k s z v = b := ⟨_, rfl⟩
  have hee : ∃ b, holdE k s v = b := ⟨_, rfl⟩
  obtain ⟨hb1, hbb⟩ := hbb
  obtain ⟨he1, hee⟩ := hee
  have HH1 := Aside.mk (fun W => HH.out v HV64.out W)
  have HG1 := Aside.mk (fun W hI => HG.out v HV64.out W hI)
  unfold HoldP at HH1 HG1
  rw [hbb, hee] at HH1 HG1
  clear hbb hee
  go_upto_region 9 with (first
    | (go_at_call 58; refine (HH1.out _).mono ?_; rintro e w5 ⟨rfl, hb⟩; clear c0 c1 c2 c3 c4 c5 c6 c7 z0 z1 z2 z3 z4 z5 z6 z7 z8 z9; replace HI := Aside.mk (HI.out.below hb); obtain ⟨c0, c1, c2, c3, c4, c5, c6, c7⟩ := box8 HI.out.sc; obtain ⟨z0, z1, z2, z3, z4, z5, z6, z7, z8, z9⟩ := box10 HI.out.sz; clear hb)
    | (go_at_call 59; refine (HG1.out _ HI.out).mono ?_; rintro e w6 ⟨rfl, hb⟩; clear c0 c1 c2 c3 c4 c5 c6 c7 z0 z1 z2 z3 z4 z5 z6 z7 z8 z9; replace HI := Aside.mk (HI.out.below hb); obtain ⟨c0, c1, c2, c3, c4, c5, c6, c7⟩ := box8 HI.out.sc; obtain ⟨z0, z1, z2, z3, z4, z5, z6, z7, z8, z9⟩ := box10 HI.out.sz; clear hb)
    | (go_at_call 41; refine (num19_any _ _).mono ?_; rintro e wn ⟨rfl, hb⟩; clear c0 c1 c2 c3 c4 c5 c6 c7 z0 z1 z2 z3 z4 z5 z6 z7 z8 z9; replace HI := Aside.mk (HI.out.below hb); obtain ⟨c0, c1, c2, c3, c4, c5, c6, c7⟩ := box8 HI.out.sc; obtain ⟨z0, z1, z2, z3, z4, z5, z6, z7, z8, z9⟩ := box10 HI.out.sz; clear hb))
  have HFT := Aside.mk (fun W => fit_any c.k c.s (by rw [HF.out.k, HF.out.s]; exact HK.out) false v HV64.out [] isBytes_nil ⟨none, 0⟩ (Nat.zero_le _) W (Rd.nil _ _))
  dsimp only [List.length_nil] at HFT
  go_upto_region 10 with (go_at_call 60; refine (HFT.out _).mono ?_; rintro e w7 ⟨x, xa, xc, rfl, hxv, hxt, hxo, hb⟩; have HXV := Aside.mk hxv.2.1; clear hxv hxt hxo HFT HH1 HG1; clear c0 c1 c2 c3 c4 c5 c6 c7 z0 z1 z2 z3 z4 z5 z6 z7 z8 z9; replace HI := Aside.mk (HI.out.below hb); obtain ⟨c0, c1, c2, c3, c4, c5, c6, c7⟩ := box8 HI.out.sc; obtain ⟨z0, z1, z2, z3, z4, z5, z6, z7, z8, z9⟩ := box10 HI.out.sz; clear hb)
  have hb := below_new w7 (.cells #[.bool x.null, .int .u64 (x.bits : Int), .slice xa x.text.length xc] 50)
  have hx := heap_alloc_new w7 (.cells #[.bool x.null, .int .u64 (x.bits : Int), .slice xa x.text.length xc] 50)
  generalize w7.alloc (.cells #[.bool x.null, .int .u64 (x.bits : Int), .slice xa x.text.length xc] 50) = w8 at *
  have HXB := Aside.mk hx
  obtain ⟨x0, x1, x2⟩ := box3 hx
  clear hx
  clear c0 c1 c2 c3 c4 c5 c6 c7 z0 z1 z2 z3 z4 z5 z6 z7 z8 z9; replace HI := Aside.mk (HI.out.below hb); obtain ⟨c0, c1, c2, c3, c4, c5, c6, c7⟩ := box8 HI.out.sc; obtain ⟨z0, z1, z2, z3, z4, z5, z6, z7, z8, z9⟩ := box10 HI.out.sz; clear hb
  have hbb : ∃ b, holdB k s z x.bits = b := ⟨_, rfl⟩
  have hee : ∃ b, holdE k s x.bits = b := ⟨_, rfl⟩
  obtain ⟨hb2, hbb⟩ := hbb
  obtain ⟨he2, hee⟩ := hee
  have HH1 := Aside.mk (fun W => HH.out x.bits HXV.out W)
  have HG1 := Aside.mk (fun W hI => HG.out x.bits HXV.out W hI)
  unfold HoldP at HH1 HG1
  rw [hbb, hee] at HH1 HG1
  clear hbb hee
  go_upto_region 14 with (first
    | (go_at_call 58; refine (HH1.out _).mono ?_; rintro e w9 ⟨rfl, hb⟩; clear x0 x1 x2; replace HXB := Aside.mk ((hb.block _ (lt_of_blk HXB.out)).trans HXB.out); obtain ⟨x0, x1, x2⟩ := box3 HXB.out; clear c0 c1 c2 c3 c4 c5 c6 c7 z0 z1 z2 z3 z4 z5 z6 z7 z8 z9; replace HI := Aside.mk (HI.out.below hb); obtain ⟨c0, c1, c2, c3, c4, c5, c6, c7⟩ := box8 HI.out.sc; obtain ⟨z0, z1, z2, z3, z4, z5, z6, z7, z8, z9⟩ := box10 HI.out.sz; clear hb)
    | (go_at_call 59; refine (HG1.out _ HI.out).mono ?_; rintro e w10 ⟨rfl, hb⟩; clear x0 x1 x2; clear c0 c1 c2 c3 c4 c5 c6 c7 z0 z1 z2 z3 z4 z5 z6 z7 z8 z9; replace HI := Aside.mk (HI.out.below hb); obtain ⟨c0, c1, c2, c3, c4, c5, c6, c7⟩ := box8 HI.out.sc; obtain ⟨z0, z1, z2, z3, z4, z5, z6, z7, z8, z9⟩ := box10 HI.out.sz; clear hb)
    | (go_at_call 41; refine (num19_any _ _).mono ?_; rintro e wn ⟨rfl, hb⟩; clear c0 c1 c2 c3 c4 c5 c6 c7 z0 z1 z2 z3 z4 z5 z6 z7 z8 z9; replace HI := Aside.mk (HI.out.below hb); obtain ⟨c0, c1, c2, c3, c4, c5, c6, c7⟩ := box8 HI.out.sc; obtain ⟨z0, z1, z2, z3, z4, z5, z6, z7, z8, z9⟩ := box10 HI.out.sz; clear hb))
  clear HXB HXV HH1 HG1 HG c0 c1 c2 c3 c4 c5 c6 c7 z0 z1 z2 z3 z4 z5 z6 z7 z8 z9
  go_wp2_with fail
  have HH9 := Aside.mk (fun W => zholds_any 99 0 zZero (fun e => by cases (show false = true from e)) (by decide) ⟨none, 0⟩ ⟨none, 0⟩ 0 (by decide) W)
  have h99 : holdB 99 0 zZero 0 = false ∧ holdE 99 0 ((0 : Nat) : Int) = 170 := hold_type (by decide)
  unfold HoldP at HH9
  rw [h99.1, h99.2] at HH9
  unfold HoldP at HH
  dsimp only [zV, zZero, List.length_nil] at HH9
  clear h99
  go_loopw [15] (fun iv wr => ∃ i : Nat, i ≤ r.length ∧ iv = .int .i64 (i : Int) ∧ Aside (HoI k s c z B D E X F L va w1.heap.size w3.heap.size w wr)) (fun iv _ => r.length - (intOf iv).toNat)
  case atStart => exact ⟨0, by omega, rfl, HI⟩
  case round =>
    clear HI
    obtain ⟨i, hi, rfl, HI⟩ := hrel
    obtain ⟨c0, c1, c2, c3, c4, c5, c6, c7⟩ := box8 HI.out.sc
    obtain ⟨z0, z1, z2, z3, z4, z5, z6, z7, z8, z9⟩ := box10 HI.out.sz
    have hr120 := HRL.out
    by_cases hlt : i < r.length
    · have hin : (i : Int) < c.n := by have := HF.out.n; omega
      have HNUL := Aside.mk (HF.out.nul i hlt)
      have HVAL := Aside.mk (HF.out.val i hlt)
      have HVOK := Aside.mk (HFE.out.2 _ (List.getElem_mem hlt))
      have HHE := Aside.mk (fun hn hw => hold_each HED.out (List.getElem_mem hlt) hn (HFE.out.2 _ (List.getElem_mem hlt)) HK.out hw)
      have HGN := Aside.mk (fun h => get_null c HF.out.cok B D E X va i HF.out.chk hin h wr HI.out.so.rd)
      have HGV := Aside.mk (fun h => get_value c HF.out.cok B D E X va i HF.out.chk hin h (own_addr HI.out.so.data) wr HI.out.so.rd)
      have hck := HF.out.k
      have hcs := HF.out.s
      have HWD := Aside.mk (fun W => by have := worded_any c.k c.s W; rw [show wordedB c.k = wordedB k by rw [hck]] at this; exact this)
      clear hck hcs
      dsimp only [colV] at HGN HGV
      generalize r[i] = u at *
      obtain ⟨un, ub, ut⟩ := u
      dsimp only at HNUL HVAL HHE
      cases un with
      | true =>
        have HG := Aside.mk (HGN.out HNUL.out)
        clear HGN HGV HVAL HHE
        have HHX := Aside.mk (fun W => HH.out 0 (by decide) W)
        generalize holdB k s z 0 = qb at *
        generalize holdE k s ((0 : Nat) : Int) = qe at *
        go_wp2_with (first
          | (go_at_call 61; refine HG.out.mono ?_; rintro e w11 ⟨rfl, hb⟩; clear c0 c1 c2 c3 c4 c5 c6 c7 z0 z1 z2 z3 z4 z5 z6 z7 z8 z9; replace HI := Aside.mk (HI.out.below hb); obtain ⟨c0, c1, c2, c3, c4, c5, c6, c7⟩ := box8 HI.out.sc; obtain ⟨z0, z1, z2, z3, z4, z5, z6, z7, z8, z9⟩ := box10 HI.out.sz; clear hb)
          | (go_at_call 58; refine (HHX.out _).mono ?_; rintro e w12 ⟨rfl, hb⟩; clear c0 c1 c2 c3 c4 c5 c6 c7 z0 z1 z2 z3 z4 z5 z6 z7 z8 z9; replace HI := Aside.mk (HI.out.below hb); obtain ⟨c0, c1, c2, c3, c4, c5, c6, c7⟩ := box8 HI.out.sc; obtain ⟨z0, z1, z2, z3, z4, z5, z6, z7, z8, z9⟩ := box10 HI.out.sz; clear hb))
        exact ⟨⟨i + 1, by omega, by simp, HI⟩, by simp [intOf]; omega⟩
      | false =>
        have HG := Aside.mk (HGV.out HNUL.out)
        rw [HVAL.out rfl] at HG
        have HHX := Aside.mk (fun W => HH.out ub HVOK.out.2.1 W)
        clear HGN HGV HVAL
        cases hw : wordedB k with
        | true =>
          rw [hw] at HWD
          clear hw HHE
          generalize holdB k s z ub = qb at *
          generalize holdE k s (ub : Int) = qe at *
          go_wp2_with (first
            | (go_at_call 61; refine HG.out.mono ?_; rintro e w11 ⟨ga, gc, rfl, hgo, hb⟩; clear c0 c1 c2 c3 c4 c5 c6 c7 z0 z1 z2 z3 z4 z5 z6 z7 z8 z9; replace HI := Aside.mk (HI.out.below hb); obtain ⟨c0, c1, c2, c3, c4, c5, c6, c7⟩ := box8 HI.out.sc; obtain ⟨z0, z1, z2, z3, z4, z5, z6, z7, z8, z9⟩ := box10 HI.out.sz; clear hb)
            | (go_at_call 58; refine (HHX.out _).mono ?_; rintro e w12 ⟨rfl, hb⟩; clear c0 c1 c2 c3 c4 c5 c6 c7 z0 z1 z2 z3 z4 z5 z6 z7 z8 z9; replace HI := Aside.mk (HI.out.below hb); obtain ⟨c0, c1, c2, c3, c4, c5, c6, c7⟩ := box8 HI.out.sc; obtain ⟨z0, z1, z2, z3, z4, z5, z6, z7, z8, z9⟩ := box10 HI.out.sz; clear hb)
            | (go_at_call 62; refine (HWD.out _).mono ?_; rintro e w13 ⟨rfl, hb⟩; clear c0 c1 c2 c3 c4 c5 c6 c7 z0 z1 z2 z3 z4 z5 z6 z7 z8 z9; replace HI := Aside.mk (HI.out.below hb); obtain ⟨c0, c1, c2, c3, c4, c5, c6, c7⟩ := box8 HI.out.sc; obtain ⟨z0, z1, z2, z3, z4, z5, z6, z7, z8, z9⟩ := box10 HI.out.sz; clear hb))
          exact ⟨⟨i + 1, by omega, by simp, HI⟩, by simp [intOf]; omega⟩
        | false =>
          rw [hw] at HWD
          obtain ⟨qh, qe⟩ := HHE.out rfl hw
          rw [qh, qe] at HHX
          clear hw HHE qh qe
          go_wp2_with (first
            | (go_at_call 61; refine HG.out.mono ?_; rintro e w11 ⟨ga, gc, rfl, hgo, hb⟩; clear c0 c1 c2 c3 c4 c5 c6 c7 z0 z1 z2 z3 z4 z5 z6 z7 z8 z9; replace HI := Aside.mk (HI.out.below hb); obtain ⟨c0, c1, c2, c3, c4, c5, c6, c7⟩ := box8 HI.out.sc; obtain ⟨z0, z1, z2, z3, z4, z5, z6, z7, z8, z9⟩ := box10 HI.out.sz; clear hb)
            | (go_at_call 58; refine (HHX.out _).mono ?_; rintro e w12 ⟨rfl, hb⟩; clear c0 c1 c2 c3 c4 c5 c6 c7 z0 z1 z2 z3 z4 z5 z6 z7 z8 z9; replace HI := Aside.mk (HI.out.below hb); obtain ⟨c0, c1, c2, c3, c4, c5, c6, c7⟩ := box8 HI.out.sc; obtain ⟨z0, z1, z2, z3, z4, z5, z6, z7, z8, z9⟩ := box10 HI.out.sz; clear hb)
            | (go_at_call 62; refine (HWD.out _).mono ?_; rintro e w13 ⟨rfl, hb⟩; clear c0 c1 c2 c3 c4 c5 c6 c7 z0 z1 z2 z3 z4 z5 z6 z7 z8 z9; replace HI := Aside.mk (HI.out.below hb); obtain ⟨c0, c1, c2, c3, c4, c5, c6, c7⟩ := box8 HI.out.sc; obtain ⟨z0, z1, z2, z3, z4, z5, z6, z7, z8, z9⟩ := box10 HI.out.sz; clear hb)
            | (go_at_call 41; refine (num19_any _ _).mono ?_; rintro e wn ⟨rfl, hb⟩; clear c0 c1 c2 c3 c4 c5 c6 c7 z0 z1 z2 z3 z4 z5 z6 z7 z8 z9; replace HI := Aside.mk (HI.out.below hb); obtain ⟨c0, c1, c2, c3, c4, c5, c6, c7⟩ := box8 HI.out.sc; obtain ⟨z0, z1, z2, z3, z4, z5, z6, z7, z8, z9⟩ := box10 HI.out.sz; clear hb))
          exact ⟨⟨i + 1, by omega, by simp, HI⟩, by simp [intOf]; omega⟩
    · obtain rfl : i = r.length := by omega
      have hcn : c.n = (r.length : Int) := HF.out.n
      go_wp2_with (first
        | (go_at_call 58; refine (HH9.out _).mono ?_; rintro e w12 ⟨rfl, hb⟩; clear c0 c1 c2 c3 c4 c5 c6 c7 z0 z1 z2 z3 z4 z5 z6 z7 z8 z9; replace HI := Aside.mk (HI.out.below hb); obtain ⟨c0, c1, c2, c3, c4, c5, c6, c7⟩ := box8 HI.out.sc; obtain ⟨z0, z1, z2, z3, z4, z5, z6, z7, z8, z9⟩ := box10 HI.out.sz; clear hb)
        | (go_at_call 41; refine (num19_any _ _).mono ?_; rintro e wn ⟨rfl, hb⟩; clear c0 c1 c2 c3 c4 c5 c6 c7 z0 z1 z2 z3 z4 z5 z6 z7 z8 z9; replace HI := Aside.mk (HI.out.below hb); obtain ⟨c0, c1, c2, c3, c4, c5, c6, c7⟩ := box8 HI.out.sc; obtain ⟨z0, z1, z2, z3, z4, z5, z6, z7, z8, z9⟩ := box10 HI.out.sz; clear hb)
        | (go_at_call 43; refine (wakes19_any _).mono ?_; rintro e w20 ⟨rfl, hb⟩; clear c0 c1 c2 c3 c4 c5 c6 c7 z0 z1 z2 z3 z4 z5 z6 z7 z8 z9; replace HI := Aside.mk (HI.out.below hb); obtain ⟨c0, c1, c2, c3, c4, c5, c6, c7⟩ := box8 HI.out.sc; obtain ⟨z0, z1, z2, z3, z4, z5, z6, z7, z8, z9⟩ := box10 HI.out.sz; clear hb))
      go_ret
      exact ⟨rfl, HI.out.bel⟩
end Go.Proofs.YtmhjjhaipcgbiaaGreat


namespace Go.Proofs.YtmhjjhaipcgbiaaGreat
open Go.RowKit
set_option linter.unusedVariables false
set_option linter.unusedSimpArgs false
theorem zoneHolds_row (w : World) (n : Int) (wn : (Lit.int .i64 n).wf = true) (a : Option Addr) (k c : Nat) (m : List (Sh.M shVal)) (h : Sh.Reads w (.sl shVal) (Value.slice a k c).cells.toList m) (v : Int) (wv : (Lit.int .u64 v).wf = true) : Calls Tryz.prog 8 #[.int .i64 n, .slice a k c, .int .u64 v] w fun e w' => e = .returned (.bool true) ∧ Below w.heap.size w w' := by
  obtain ⟨A, e, hr, hl, hb⟩ := rdvs_of_sl h
  have e2 : Value.slice a k c = .slice A.a (m.map toV).length A.c := by simpa [Value.cells] using e
  obtain ⟨h0, h1⟩ := u64_wf wv
  obtain ⟨u, rfl⟩ : ∃ u : Nat, v = (u : Int) := ⟨v.toNat, by omega⟩
  rw [e2]
  exact zoneHolds_walk n (m.map toV) hl hb A u (by omega) w hr
end Go.Proofs.YtmhjjhaipcgbiaaGreat
