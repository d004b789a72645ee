/- RationalField, walked: the law returns true. -/
import Derived.Test.YtnhjidbjibehpaaGreatDoorZy
namespace Go.Proofs.YtnhjidbjibehpaaGreatDoor.L4
open Go.Shelf Go.RowKit Go.Proofs.YtnhjidbjibehpaaGreatDoorW.PrintWords Go.Proofs.YtnhjidbjibehpaaGreatDoorW.PrintLast Go.Proofs.YtnhjidbjibehpaaGreatDoorW.PrintMore Yd L3
set_option linter.unusedVariables false
set_option linter.unusedSimpArgs false
attribute [local go_sem ↓] Go.wp_at_zero Go.wp_at_succ

set_option maxRecDepth 100000 in
set_option maxHeartbeats 64000000 in
/-- RationalField -/
theorem field_calls (x0 x1 x2 x3 y0 y1 y2 y3 z0 z1 : Int) (lg : Bool) (w : World) (hE : Env w) (h0 : I64 x0 ∧ I64 x1 ∧ I64 x2 ∧ I64 x3) (h1 : I64 y0 ∧ I64 y1 ∧ I64 y2 ∧ I64 y3) (h2 : I64 z0 ∧ I64 z1) :
    Calls Tryz.prog 8 #[.agg #[.int .i64 x0, .int .i64 x1, .int .i64 x2, .int .i64 x3], .agg #[.int .i64 y0, .int .i64 y1, .int .i64 y2, .int .i64 y3], .agg #[.int .i64 z0, .int .i64 z1], .bool lg] w fun e w' => e = .returned (.bool true) ∧ Below w.heap.size w w' := by
  have HE := Aside0.mk hE
  have HB0 := Aside0.mk h0
  have HB1 := Aside0.mk h1
  have HB2 := Aside0.mk h2
  clear hE h0 h1 h2
  go_enter Tryz.func8, Tryz.ntmps8
  go_wp2_with fail
  have hl0 := ((((Hq.nil w).push (.cells #[.int .i64 x0, .int .i64 x1, .int .i64 x2, .int .i64 x3] 24)).push (.cells #[.int .i64 y0, .int .i64 y1, .int .i64 y2, .int .i64 y3] 24)).push (.cells #[.int .i64 z0, .int .i64 z1] 47))
  try simp only [World.size_alloc] at hl0
  have hl : Hq [(w.heap.size + 1 + 1, .cells #[.int .i64 z0, .int .i64 z1] 47), (w.heap.size + 1, .cells #[.int .i64 y0, .int .i64 y1, .int .i64 y2, .int .i64 y3] 24), (w.heap.size, .cells #[.int .i64 x0, .int .i64 x1, .int .i64 x2, .int .i64 x3] 24)] w (((w.alloc (.cells #[.int .i64 x0, .int .i64 x1, .int .i64 x2, .int .i64 x3] 24)).alloc (.cells #[.int .i64 y0, .int .i64 y1, .int .i64 y2, .int .i64 y3] 24)).alloc (.cells #[.int .i64 z0, .int .i64 z1] 47)) := hl0
  clear hl0
  have HL := Aside0.mk hl
  clear hl
  generalize (((w.alloc (.cells #[.int .i64 x0, .int .i64 x1, .int .i64 x2, .int .i64 x3] 24)).alloc (.cells #[.int .i64 y0, .int .i64 y1, .int .i64 y2, .int .i64 y3] 24)).alloc (.cells #[.int .i64 z0, .int .i64 z1] 47)) = W0 at *
  refine (sane_calls _ (HL.out.env HE.out)).mono ?_
  rintro e V1 ⟨rfl, hb⟩
  have hl := HL.out.next hb
  clear HL hb
  obtain ⟨⟨c_x0, c_x1, c_x2, c_x3⟩, -⟩ := quad_facts (hl.at 2 rfl)
  have HL := Aside0.mk hl
  clear hl
  go_wp2_with fail
  have HA0 := Aside0.mk (fa_small x0 x1)
  obtain ⟨sa0, hsa0⟩ : ∃ u, tx (smallR x0 x1).num = u := ⟨_, rfl⟩
  obtain ⟨ta0, hta0⟩ : ∃ u, tx (smallR x0 x1).den = u := ⟨_, rfl⟩
  rw [hsa0, hta0] at HA0
  have HSA := Aside0.mk hsa0
  have HTA := Aside0.mk hta0
  clear hsa0 hta0
  have HA1 := Aside0.mk (fa_small y0 y1)
  obtain ⟨sb0, hsb0⟩ : ∃ u, tx (smallR y0 y1).num = u := ⟨_, rfl⟩
  obtain ⟨tb0, htb0⟩ : ∃ u, tx (smallR y0 y1).den = u := ⟨_, rfl⟩
  rw [hsb0, htb0] at HA1
  have HSB := Aside0.mk hsb0
  have HTB := Aside0.mk htb0
  clear hsb0 htb0
  have HA2 := Aside0.mk (fa_small z0 z1)
  obtain ⟨sc, hsc⟩ : ∃ u, tx (smallR z0 z1).num = u := ⟨_, rfl⟩
  obtain ⟨tc, htc⟩ : ∃ u, tx (smallR z0 z1).den = u := ⟨_, rfl⟩
  rw [hsc, htc] at HA2
  have HSC := Aside0.mk hsc
  have HTC := Aside0.mk htc
  clear hsc htc
  clear c_x0 c_x1 c_x2 c_x3
  refine (small_calls x0 x1 _ HB0.out.1.1 HB0.out.1.2 HB0.out.2.1.1 HB0.out.2.1.2).mono ?_
  rintro e V2 ⟨rfl, hb⟩
  rw [HSA.out, HTA.out]
  have hl := HL.out.next hb
  clear HL hb
  replace hl := (hl.push (.cells #[.string sa0, .string ta0] 23))
  try simp only [World.size_alloc] at hl
  replace hl : Hq [(V2.heap.size, .cells #[.string sa0, .string ta0] 23), (w.heap.size + 1 + 1, .cells #[.int .i64 z0, .int .i64 z1] 47), (w.heap.size + 1, .cells #[.int .i64 y0, .int .i64 y1, .int .i64 y2, .int .i64 y3] 24), (w.heap.size, .cells #[.int .i64 x0, .int .i64 x1, .int .i64 x2, .int .i64 x3] 24)] w (V2.alloc (.cells #[.string sa0, .string ta0] 23)) := hl
  obtain ⟨⟨c_y0, c_y1, c_y2, c_y3⟩, -⟩ := quad_facts (hl.at 2 rfl)
  have HL := Aside0.mk hl
  clear hl
  go_wp2_with fail
  generalize (V2.alloc (.cells #[.string sa0, .string ta0] 23)) = W2 at *
  generalize V2.heap.size = a_a at *
  clear c_y0 c_y1 c_y2 c_y3
  refine (small_calls y0 y1 _ HB1.out.1.1 HB1.out.1.2 HB1.out.2.1.1 HB1.out.2.1.2).mono ?_
  rintro e V3 ⟨rfl, hb⟩
  rw [HSB.out, HTB.out]
  have hl := HL.out.next hb
  clear HL hb
  replace hl := (hl.push (.cells #[.string sb0, .string tb0] 23))
  try simp only [World.size_alloc] at hl
  replace hl : Hq [(V3.heap.size, .cells #[.string sb0, .string tb0] 23), (a_a, .cells #[.string sa0, .string ta0] 23), (w.heap.size + 1 + 1, .cells #[.int .i64 z0, .int .i64 z1] 47), (w.heap.size + 1, .cells #[.int .i64 y0, .int .i64 y1, .int .i64 y2, .int .i64 y3] 24), (w.heap.size, .cells #[.int .i64 x0, .int .i64 x1, .int .i64 x2, .int .i64 x3] 24)] w (V3.alloc (.cells #[.string sb0, .string tb0] 23)) := hl
  obtain ⟨c_z0, c_z1, -, -⟩ := pair_facts (hl.at 2 rfl)
  have HL := Aside0.mk hl
  clear hl
  go_wp2_with fail
  generalize (V3.alloc (.cells #[.string sb0, .string tb0] 23)) = W3 at *
  generalize V3.heap.size = a_b at *
  clear c_z0 c_z1
  refine (small_calls z0 z1 _ HB2.out.1.1 HB2.out.1.2 HB2.out.2.1 HB2.out.2.2).mono ?_
  rintro e V4 ⟨rfl, hb⟩
  rw [HSC.out, HTC.out]
  have hl := HL.out.next hb
  clear HL hb
  replace hl := (hl.push (.cells #[.string sc, .string tc] 23))
  try simp only [World.size_alloc] at hl
  replace hl : Hq [(V4.heap.size, .cells #[.string sc, .string tc] 23), (a_b, .cells #[.string sb0, .string tb0] 23), (a_a, .cells #[.string sa0, .string ta0] 23), (w.heap.size + 1 + 1, .cells #[.int .i64 z0, .int .i64 z1] 47), (w.heap.size + 1, .cells #[.int .i64 y0, .int .i64 y1, .int .i64 y2, .int .i64 y3] 24), (w.heap.size, .cells #[.int .i64 x0, .int .i64 x1, .int .i64 x2, .int .i64 x3] 24)] w (V4.alloc (.cells #[.string sc, .string tc] 23)) := hl
  obtain ⟨⟨c_x0, c_x1, c_x2, c_x3⟩, -⟩ := quad_facts (hl.at 5 rfl)
  obtain ⟨c_a0, c_a1, f_a0, f_a1⟩ := pair_facts (hl.at 2 rfl)
  have HL := Aside0.mk hl
  clear hl
  go_upto_if 52 with fail
  generalize (V4.alloc (.cells #[.string sc, .string tc] 23)) = W4 at *
  generalize V4.heap.size = a_c at *
  go_cut [] (fun  wc => ∃ sa ta sb tb, Aside0 (FA lg sa ta) ∧ Aside0 (FA lg sb tb) ∧ Aside0 (Hq [(a_c, .cells #[.string sc, .string tc] 23), (a_b, .cells #[.string sb, .string tb] 23), (a_a, .cells #[.string sa, .string ta] 23), (w.heap.size + 1 + 1, .cells #[.int .i64 z0, .int .i64 z1] 47), (w.heap.size + 1, .cells #[.int .i64 y0, .int .i64 y1, .int .i64 y2, .int .i64 y3] 24), (w.heap.size, .cells #[.int .i64 x0, .int .i64 x1, .int .i64 x2, .int .i64 x3] 24)] w wc))
  case first =>
    as_aux_lemma =>
      cases lg
      · go_wp2_with fail
        go_meet
        case rel => exact ⟨_, _, _, _, HA0, HA1, HL⟩
      · go_wp2_with fail
        refine (long_calls x0 x1 x2 x3 _ HB0.out.1 HB0.out.2.1 HB0.out.2.2.1 HB0.out.2.2.2).mono ?_
        rintro e V51 ⟨⟨ra, hra, rfl⟩, hb⟩
        have hl := HL.out.next hb
        clear HL hb
        have HRA := Aside0.mk hra
        clear hra
        obtain ⟨c_a0, c_a1, f_a0, f_a1⟩ := pair_facts (hl.at 2 rfl)
        have HL := Aside0.mk hl
        clear hl
        have hl : Hq [(a_c, .cells #[.string sc, .string tc] 23), (a_b, .cells #[.string sb0, .string tb0] 23), (a_a, .cells #[.string (tx ra.num), .string (tx (ra.den : Int))] 23), (w.heap.size + 1 + 1, .cells #[.int .i64 z0, .int .i64 z1] 47), (w.heap.size + 1, .cells #[.int .i64 y0, .int .i64 y1, .int .i64 y2, .int .i64 y3] 24), (w.heap.size, .cells #[.int .i64 x0, .int .i64 x1, .int .i64 x2, .int .i64 x3] 24)] w ((V51.setCell ⟨a_a, 0, none⟩ (.string (tx ra.num))).setCell ⟨a_a, 1, none⟩ (.string (tx (ra.den : Int)))) := (HL.out.set 2 rfl 0 (.string (tx ra.num))).set 2 rfl 1 (.string (tx (ra.den : Int)))
        clear HL
        obtain ⟨⟨c_y0, c_y1, c_y2, c_y3⟩, -⟩ := quad_facts (hl.at 4 rfl)
        have HL := Aside0.mk hl
        clear hl
        go_wp2_with fail
        clear c_a0 c_a1 f_a0 f_a1
        generalize (V51.setCell ⟨a_a, 0, none⟩ (.string (tx ra.num))).setCell ⟨a_a, 1, none⟩ (.string (tx (ra.den : Int))) = W52 at *
        clear c_y0 c_y1 c_y2 c_y3
        refine (long_calls y0 y1 y2 y3 _ HB1.out.1 HB1.out.2.1 HB1.out.2.2.1 HB1.out.2.2.2).mono ?_
        rintro e V53 ⟨⟨rb, hrb, rfl⟩, hb⟩
        have hl := HL.out.next hb
        clear HL hb
        have HRB := Aside0.mk hrb
        clear hrb
        obtain ⟨c_b0, c_b1, f_b0, f_b1⟩ := pair_facts (hl.at 1 rfl)
        have HL := Aside0.mk hl
        clear hl
        go_wp2_with fail
        go_meet
        case rel => exact ⟨_, _, _, _, ⟨fa_long HRA.out⟩, ⟨fa_long HRB.out⟩, ⟨(HL.out.set 1 rfl 0 (.string (tx rb.num))).set 1 rfl 1 (.string (tx (rb.den : Int)))⟩⟩
  as_aux_lemma =>
  clear c_x0 c_x1 c_x2 c_x3 c_a0 c_a1 f_a0 f_a1
  obtain ⟨sa, ta, sb, tb, HFA, HFB, HL0⟩ := hcut
  clear HL
  have hl := HL0.out
  clear HL0
  generalize wc = V5 at *
  obtain ⟨c_a0, c_a1, -, -⟩ := pair_facts (hl.at 2 rfl)
  obtain ⟨c_b0, c_b1, -, -⟩ := pair_facts (hl.at 1 rfl)
  have HL := Aside0.mk hl
  clear hl
  go_wp2_with fail
  obtain ⟨p0, hp0⟩ : ∃ q, rbin radd (rvalB sa ta) (rvalB sb tb) = q := ⟨_, rfl⟩
  have HP0 := Aside0.mk hp0
  clear hp0
  obtain ⟨p1, hp1⟩ : ∃ q, rbin rsub (rvalB sa ta) (rvalB sb tb) = q := ⟨_, rfl⟩
  have HP1 := Aside0.mk hp1
  clear hp1
  obtain ⟨p2, hp2⟩ : ∃ q, rbin rmul (rvalB sa ta) (rvalB sb tb) = q := ⟨_, rfl⟩
  have HP2 := Aside0.mk hp2
  clear hp2
  obtain ⟨p3, hp3⟩ : ∃ q, rbin rdiv (rvalB sa ta) (rvalB sb tb) = q := ⟨_, rfl⟩
  have HP3 := Aside0.mk hp3
  clear hp3
  clear c_a0 c_a1 c_b0 c_b1
  refine (four_calls sa ta sb tb _ (HL.out.env HE.out)).mono ?_
  rintro e V6 ⟨rfl, hb⟩
  unfold fourV
  rw [HP0.out, HP1.out, HP2.out, HP3.out]
  have hl := HL.out.next hb
  clear HL hb
  replace hl := ((hl.push (.cells #[.string (oS p0), .string (oT p0), .string (oS p1), .string (oT p1), .string (oS p2), .string (oT p2), .string (oS p3), .string (oT p3)] 49)).push (.cells #[.int .i64 (oK p0), .int .i64 (oK p1), .int .i64 (oK p2), .int .i64 (oK p3)] 50))
  try simp only [World.size_alloc] at hl
  replace hl : Hq [(V6.heap.size + 1, .cells #[.int .i64 (oK p0), .int .i64 (oK p1), .int .i64 (oK p2), .int .i64 (oK p3)] 50), (V6.heap.size, .cells #[.string (oS p0), .string (oT p0), .string (oS p1), .string (oT p1), .string (oS p2), .string (oT p2), .string (oS p3), .string (oT p3)] 49), (a_c, .cells #[.string sc, .string tc] 23), (a_b, .cells #[.string sb, .string tb] 23), (a_a, .cells #[.string sa, .string ta] 23), (w.heap.size + 1 + 1, .cells #[.int .i64 z0, .int .i64 z1] 47), (w.heap.size + 1, .cells #[.int .i64 y0, .int .i64 y1, .int .i64 y2, .int .i64 y3] 24), (w.heap.size, .cells #[.int .i64 x0, .int .i64 x1, .int .i64 x2, .int .i64 x3] 24)] w ((V6.alloc (.cells #[.string (oS p0), .string (oT p0), .string (oS p1), .string (oT p1), .string (oS p2), .string (oT p2), .string (oS p3), .string (oT p3)] 49)).alloc (.cells #[.int .i64 (oK p0), .int .i64 (oK p1), .int .i64 (oK p2), .int .i64 (oK p3)] 50)) := hl
  obtain ⟨c_b0, c_b1, -, -⟩ := pair_facts (hl.at 3 rfl)
  obtain ⟨c_a0, c_a1, -, -⟩ := pair_facts (hl.at 4 rfl)
  have HL := Aside0.mk hl
  clear hl
  go_wp2_with fail
  generalize ((V6.alloc (.cells #[.string (oS p0), .string (oT p0), .string (oS p1), .string (oT p1), .string (oS p2), .string (oT p2), .string (oS p3), .string (oT p3)] 49)).alloc (.cells #[.int .i64 (oK p0), .int .i64 (oK p1), .int .i64 (oK p2), .int .i64 (oK p3)] 50)) = W6 at *
  generalize V6.heap.size + 1 = a_e at *
  generalize V6.heap.size = a_r at *
  have HC0 := Aside0.mk ((rbin_comm radd_comm (rvalB sb tb) (rvalB sa ta)).trans HP0.out)
  have HC2 := Aside0.mk ((rbin_comm rmul_comm (rvalB sb tb) (rvalB sa ta)).trans HP2.out)
  obtain ⟨s1, hs1⟩ : ∃ q, rbin rsub (rvalB sb tb) (rvalB sa ta) = q := ⟨_, rfl⟩
  have HS1 := Aside0.mk hs1
  clear hs1
  obtain ⟨t3, ht3⟩ : ∃ q, rbin rdiv (rvalB sb tb) (rvalB sa ta) = q := ⟨_, rfl⟩
  have HT3 := Aside0.mk ht3
  clear ht3
  clear c_b0 c_b1 c_a0 c_a1
  refine (four_calls sb tb sa ta _ (HL.out.env HE.out)).mono ?_
  rintro e V7 ⟨rfl, hb⟩
  unfold fourV
  rw [HC0.out, HS1.out, HC2.out, HT3.out]
  have hl := HL.out.next hb
  clear HL hb
  replace hl := ((hl.push (.cells #[.string (oS p0), .string (oT p0), .string (oS s1), .string (oT s1), .string (oS p2), .string (oT p2), .string (oS t3), .string (oT t3)] 49)).push (.cells #[.int .i64 (oK p0), .int .i64 (oK s1), .int .i64 (oK p2), .int .i64 (oK t3)] 50))
  try simp only [World.size_alloc] at hl
  replace hl : Hq [(V7.heap.size + 1, .cells #[.int .i64 (oK p0), .int .i64 (oK s1), .int .i64 (oK p2), .int .i64 (oK t3)] 50), (V7.heap.size, .cells #[.string (oS p0), .string (oT p0), .string (oS s1), .string (oT s1), .string (oS p2), .string (oT p2), .string (oS t3), .string (oT t3)] 49), (a_e, .cells #[.int .i64 (oK p0), .int .i64 (oK p1), .int .i64 (oK p2), .int .i64 (oK p3)] 50), (a_r, .cells #[.string (oS p0), .string (oT p0), .string (oS p1), .string (oT p1), .string (oS p2), .string (oT p2), .string (oS p3), .string (oT p3)] 49), (a_c, .cells #[.string sc, .string tc] 23), (a_b, .cells #[.string sb, .string tb] 23), (a_a, .cells #[.string sa, .string ta] 23), (w.heap.size + 1 + 1, .cells #[.int .i64 z0, .int .i64 z1] 47), (w.heap.size + 1, .cells #[.int .i64 y0, .int .i64 y1, .int .i64 y2, .int .i64 y3] 24), (w.heap.size, .cells #[.int .i64 x0, .int .i64 x1, .int .i64 x2, .int .i64 x3] 24)] w ((V7.alloc (.cells #[.string (oS p0), .string (oT p0), .string (oS s1), .string (oT s1), .string (oS p2), .string (oT p2), .string (oS t3), .string (oT t3)] 49)).alloc (.cells #[.int .i64 (oK p0), .int .i64 (oK s1), .int .i64 (oK p2), .int .i64 (oK t3)] 50)) := hl
  obtain ⟨⟨c_r0, c_r1, c_r2, c_r3, c_r4, c_r5, c_r6, c_r7⟩, -⟩ := oct_facts (hl.at 3 rfl)
  obtain ⟨⟨c_e0, c_e1, c_e2, c_e3⟩, -⟩ := quad_facts (hl.at 2 rfl)
  obtain ⟨⟨c_s0, c_s1, c_s2, c_s3, c_s4, c_s5, c_s6, c_s7⟩, -⟩ := oct_facts (hl.at 1 rfl)
  obtain ⟨⟨c_f0, c_f1, c_f2, c_f3⟩, -⟩ := quad_facts (hl.at 0 rfl)
  have HL := Aside0.mk hl
  clear hl
  go_upto_region 10 with (fail)
  generalize ((V7.alloc (.cells #[.string (oS p0), .string (oT p0), .string (oS s1), .string (oT s1), .string (oS p2), .string (oT p2), .string (oS t3), .string (oT t3)] 49)).alloc (.cells #[.int .i64 (oK p0), .int .i64 (oK s1), .int .i64 (oK p2), .int .i64 (oK t3)] 50)) = W7 at *
  generalize V7.heap.size + 1 = a_f at *
  generalize V7.heap.size = a_s at *
  go_cut [108] (fun v108 wc => v108 = .bool false ∧ Aside0 (Hq [(a_f, .cells #[.int .i64 (oK p0), .int .i64 (oK s1), .int .i64 (oK p2), .int .i64 (oK t3)] 50), (a_s, .cells #[.string (oS p0), .string (oT p0), .string (oS s1), .string (oT s1), .string (oS p2), .string (oT p2), .string (oS t3), .string (oT t3)] 49), (a_e, .cells #[.int .i64 (oK p0), .int .i64 (oK p1), .int .i64 (oK p2), .int .i64 (oK p3)] 50), (a_r, .cells #[.string (oS p0), .string (oT p0), .string (oS p1), .string (oT p1), .string (oS p2), .string (oT p2), .string (oS p3), .string (oT p3)] 49), (a_c, .cells #[.string sc, .string tc] 23), (a_b, .cells #[.string sb, .string tb] 23), (a_a, .cells #[.string sa, .string ta] 23), (w.heap.size + 1 + 1, .cells #[.int .i64 z0, .int .i64 z1] 47), (w.heap.size + 1, .cells #[.int .i64 y0, .int .i64 y1, .int .i64 y2, .int .i64 y3] 24), (w.heap.size, .cells #[.int .i64 x0, .int .i64 x1, .int .i64 x2, .int .i64 x3] 24)] w wc))
  case first =>
    as_aux_lemma =>
      cases lg
      · obtain ⟨k0, k2⟩ := f_small HFA.out HFB.out rfl
        rw [HP0.out] at k0
        rw [HP2.out] at k2
        have t0 : (oK p0 == 0) = true := by rw [k0]; rfl
        have t2 : (oK p2 == 0) = true := by rw [k2]; rfl
        have t0' : (oK p0 != 0) = false := by rw [k0]; rfl
        have t2' : (oK p2 != 0) = false := by rw [k2]; rfl
        clear k0 k2
        go_wp2_with fail
        go_meet
        case rel => exact ⟨rfl, HL⟩
      · go_wp2_with fail
        go_meet
        case rel => exact ⟨rfl, HL⟩
  as_aux_lemma =>
  clear c_r0 c_r1 c_r2 c_r3 c_r4 c_r5 c_r6 c_r7 c_e0 c_e1 c_e2 c_e3 c_s0 c_s1 c_s2 c_s3 c_s4 c_s5 c_s6 c_s7 c_f0 c_f1 c_f2 c_f3
  obtain ⟨rfl, HL0⟩ := hcut
  clear HL
  have hl := HL0.out
  clear HL0
  generalize wc = V8 at *
  obtain ⟨c_b0, c_b1, -, -⟩ := pair_facts (hl.at 5 rfl)
  obtain ⟨c_c0, c_c1, -, -⟩ := pair_facts (hl.at 4 rfl)
  have HL := Aside0.mk hl
  clear hl
  go_wp2_with fail
  obtain ⟨g0, hg0⟩ : ∃ q, rbin radd (rvalB sb tb) (rvalB sc tc) = q := ⟨_, rfl⟩
  have HG0 := Aside0.mk hg0
  clear hg0
  obtain ⟨g1, hg1⟩ : ∃ q, rbin rsub (rvalB sb tb) (rvalB sc tc) = q := ⟨_, rfl⟩
  have HG1 := Aside0.mk hg1
  clear hg1
  obtain ⟨g2, hg2⟩ : ∃ q, rbin rmul (rvalB sb tb) (rvalB sc tc) = q := ⟨_, rfl⟩
  have HG2 := Aside0.mk hg2
  clear hg2
  obtain ⟨g3, hg3⟩ : ∃ q, rbin rdiv (rvalB sb tb) (rvalB sc tc) = q := ⟨_, rfl⟩
  have HG3 := Aside0.mk hg3
  clear hg3
  clear c_b0 c_b1 c_c0 c_c1
  refine (four_calls sb tb sc tc _ (HL.out.env HE.out)).mono ?_
  rintro e V9 ⟨rfl, hb⟩
  unfold fourV
  rw [HG0.out, HG1.out, HG2.out, HG3.out]
  have hl := HL.out.next hb
  clear HL hb
  replace hl := ((hl.push (.cells #[.string (oS g0), .string (oT g0), .string (oS g1), .string (oT g1), .string (oS g2), .string (oT g2), .string (oS g3), .string (oT g3)] 49)).push (.cells #[.int .i64 (oK g0), .int .i64 (oK g1), .int .i64 (oK g2), .int .i64 (oK g3)] 50))
  try simp only [World.size_alloc] at hl
  replace hl : Hq [(V9.heap.size + 1, .cells #[.int .i64 (oK g0), .int .i64 (oK g1), .int .i64 (oK g2), .int .i64 (oK g3)] 50), (V9.heap.size, .cells #[.string (oS g0), .string (oT g0), .string (oS g1), .string (oT g1), .string (oS g2), .string (oT g2), .string (oS g3), .string (oT g3)] 49), (a_f, .cells #[.int .i64 (oK p0), .int .i64 (oK s1), .int .i64 (oK p2), .int .i64 (oK t3)] 50), (a_s, .cells #[.string (oS p0), .string (oT p0), .string (oS s1), .string (oT s1), .string (oS p2), .string (oT p2), .string (oS t3), .string (oT t3)] 49), (a_e, .cells #[.int .i64 (oK p0), .int .i64 (oK p1), .int .i64 (oK p2), .int .i64 (oK p3)] 50), (a_r, .cells #[.string (oS p0), .string (oT p0), .string (oS p1), .string (oT p1), .string (oS p2), .string (oT p2), .string (oS p3), .string (oT p3)] 49), (a_c, .cells #[.string sc, .string tc] 23), (a_b, .cells #[.string sb, .string tb] 23), (a_a, .cells #[.string sa, .string ta] 23), (w.heap.size + 1 + 1, .cells #[.int .i64 z0, .int .i64 z1] 47), (w.heap.size + 1, .cells #[.int .i64 y0, .int .i64 y1, .int .i64 y2, .int .i64 y3] 24), (w.heap.size, .cells #[.int .i64 x0, .int .i64 x1, .int .i64 x2, .int .i64 x3] 24)] w ((V9.alloc (.cells #[.string (oS g0), .string (oT g0), .string (oS g1), .string (oT g1), .string (oS g2), .string (oT g2), .string (oS g3), .string (oT g3)] 49)).alloc (.cells #[.int .i64 (oK g0), .int .i64 (oK g1), .int .i64 (oK g2), .int .i64 (oK g3)] 50)) := hl
  obtain ⟨⟨c_r0, c_r1, c_r2, c_r3, c_r4, c_r5, c_r6, c_r7⟩, -⟩ := oct_facts (hl.at 5 rfl)
  obtain ⟨c_c0, c_c1, -, -⟩ := pair_facts (hl.at 6 rfl)
  have HL := Aside0.mk hl
  clear hl
  go_wp2_with fail
  generalize ((V9.alloc (.cells #[.string (oS g0), .string (oT g0), .string (oS g1), .string (oT g1), .string (oS g2), .string (oT g2), .string (oS g3), .string (oT g3)] 49)).alloc (.cells #[.int .i64 (oK g0), .int .i64 (oK g1), .int .i64 (oK g2), .int .i64 (oK g3)] 50)) = W9 at *
  generalize V9.heap.size + 1 = a_ge at *
  generalize V9.heap.size = a_g at *
  obtain ⟨h0, hh0⟩ : ∃ q, rbin radd (rvalB (oS p0) (oT p0)) (rvalB sc tc) = q := ⟨_, rfl⟩
  have HH0 := Aside0.mk hh0
  clear hh0
  obtain ⟨h1, hh1⟩ : ∃ q, rbin rsub (rvalB (oS p0) (oT p0)) (rvalB sc tc) = q := ⟨_, rfl⟩
  have HH1 := Aside0.mk hh1
  clear hh1
  obtain ⟨h2, hh2⟩ : ∃ q, rbin rmul (rvalB (oS p0) (oT p0)) (rvalB sc tc) = q := ⟨_, rfl⟩
  have HH2 := Aside0.mk hh2
  clear hh2
  obtain ⟨h3, hh3⟩ : ∃ q, rbin rdiv (rvalB (oS p0) (oT p0)) (rvalB sc tc) = q := ⟨_, rfl⟩
  have HH3 := Aside0.mk hh3
  clear hh3
  clear c_r0 c_r1 c_r2 c_r3 c_r4 c_r5 c_r6 c_r7 c_c0 c_c1
  refine (four_calls (oS p0) (oT p0) sc tc _ (HL.out.env HE.out)).mono ?_
  rintro e V10 ⟨rfl, hb⟩
  unfold fourV
  rw [HH0.out, HH1.out, HH2.out, HH3.out]
  have hl := HL.out.next hb
  clear HL hb
  replace hl := ((hl.push (.cells #[.string (oS h0), .string (oT h0), .string (oS h1), .string (oT h1), .string (oS h2), .string (oT h2), .string (oS h3), .string (oT h3)] 49)).push (.cells #[.int .i64 (oK h0), .int .i64 (oK h1), .int .i64 (oK h2), .int .i64 (oK h3)] 50))
  try simp only [World.size_alloc] at hl
  replace hl : Hq [(V10.heap.size + 1, .cells #[.int .i64 (oK h0), .int .i64 (oK h1), .int .i64 (oK h2), .int .i64 (oK h3)] 50), (V10.heap.size, .cells #[.string (oS h0), .string (oT h0), .string (oS h1), .string (oT h1), .string (oS h2), .string (oT h2), .string (oS h3), .string (oT h3)] 49), (a_ge, .cells #[.int .i64 (oK g0), .int .i64 (oK g1), .int .i64 (oK g2), .int .i64 (oK g3)] 50), (a_g, .cells #[.string (oS g0), .string (oT g0), .string (oS g1), .string (oT g1), .string (oS g2), .string (oT g2), .string (oS g3), .string (oT g3)] 49), (a_f, .cells #[.int .i64 (oK p0), .int .i64 (oK s1), .int .i64 (oK p2), .int .i64 (oK t3)] 50), (a_s, .cells #[.string (oS p0), .string (oT p0), .string (oS s1), .string (oT s1), .string (oS p2), .string (oT p2), .string (oS t3), .string (oT t3)] 49), (a_e, .cells #[.int .i64 (oK p0), .int .i64 (oK p1), .int .i64 (oK p2), .int .i64 (oK p3)] 50), (a_r, .cells #[.string (oS p0), .string (oT p0), .string (oS p1), .string (oT p1), .string (oS p2), .string (oT p2), .string (oS p3), .string (oT p3)] 49), (a_c, .cells #[.string sc, .string tc] 23), (a_b, .cells #[.string sb, .string tb] 23), (a_a, .cells #[.string sa, .string ta] 23), (w.heap.size + 1 + 1, .cells #[.int .i64 z0, .int .i64 z1] 47), (w.heap.size + 1, .cells #[.int .i64 y0, .int .i64 y1, .int .i64 y2, .int .i64 y3] 24), (w.heap.size, .cells #[.int .i64 x0, .int .i64 x1, .int .i64 x2, .int .i64 x3] 24)] w ((V10.alloc (.cells #[.string (oS h0), .string (oT h0), .string (oS h1), .string (oT h1), .string (oS h2), .string (oT h2), .string (oS h3), .string (oT h3)] 49)).alloc (.cells #[.int .i64 (oK h0), .int .i64 (oK h1), .int .i64 (oK h2), .int .i64 (oK h3)] 50)) := hl
  obtain ⟨c_a0, c_a1, -, -⟩ := pair_facts (hl.at 10 rfl)
  obtain ⟨⟨c_g0, c_g1, c_g2, c_g3, c_g4, c_g5, c_g6, c_g7⟩, -⟩ := oct_facts (hl.at 3 rfl)
  have HL := Aside0.mk hl
  clear hl
  go_wp2_with fail
  generalize ((V10.alloc (.cells #[.string (oS h0), .string (oT h0), .string (oS h1), .string (oT h1), .string (oS h2), .string (oT h2), .string (oS h3), .string (oT h3)] 49)).alloc (.cells #[.int .i64 (oK h0), .int .i64 (oK h1), .int .i64 (oK h2), .int .i64 (oK h3)] 50)) = W10 at *
  generalize V10.heap.size + 1 = a_he at *
  generalize V10.heap.size = a_ab at *
  obtain ⟨i0, hi0⟩ : ∃ q, rbin radd (rvalB sa ta) (rvalB (oS g0) (oT g0)) = q := ⟨_, rfl⟩
  have HI0 := Aside0.mk hi0
  clear hi0
  clear c_a0 c_a1 c_g0 c_g1 c_g2 c_g3 c_g4 c_g5 c_g6 c_g7
  refine (p_add sa ta (oS g0) (oT g0) _ (HL.out.env HE.out)).mono ?_
  rintro e V11 ⟨rfl, hb⟩
  rw [HI0.out, ratO_parts]
  unfold ratV
  have hl := HL.out.next hb
  clear HL hb
  replace hl := (hl.push (.cells #[.string (oS i0), .string (oT i0)] 23))
  try simp only [World.size_alloc] at hl
  replace hl : Hq [(V11.heap.size, .cells #[.string (oS i0), .string (oT i0)] 23), (a_he, .cells #[.int .i64 (oK h0), .int .i64 (oK h1), .int .i64 (oK h2), .int .i64 (oK h3)] 50), (a_ab, .cells #[.string (oS h0), .string (oT h0), .string (oS h1), .string (oT h1), .string (oS h2), .string (oT h2), .string (oS h3), .string (oT h3)] 49), (a_ge, .cells #[.int .i64 (oK g0), .int .i64 (oK g1), .int .i64 (oK g2), .int .i64 (oK g3)] 50), (a_g, .cells #[.string (oS g0), .string (oT g0), .string (oS g1), .string (oT g1), .string (oS g2), .string (oT g2), .string (oS g3), .string (oT g3)] 49), (a_f, .cells #[.int .i64 (oK p0), .int .i64 (oK s1), .int .i64 (oK p2), .int .i64 (oK t3)] 50), (a_s, .cells #[.string (oS p0), .string (oT p0), .string (oS s1), .string (oT s1), .string (oS p2), .string (oT p2), .string (oS t3), .string (oT t3)] 49), (a_e, .cells #[.int .i64 (oK p0), .int .i64 (oK p1), .int .i64 (oK p2), .int .i64 (oK p3)] 50), (a_r, .cells #[.string (oS p0), .string (oT p0), .string (oS p1), .string (oT p1), .string (oS p2), .string (oT p2), .string (oS p3), .string (oT p3)] 49), (a_c, .cells #[.string sc, .string tc] 23), (a_b, .cells #[.string sb, .string tb] 23), (a_a, .cells #[.string sa, .string ta] 23), (w.heap.size + 1 + 1, .cells #[.int .i64 z0, .int .i64 z1] 47), (w.heap.size + 1, .cells #[.int .i64 y0, .int .i64 y1, .int .i64 y2, .int .i64 y3] 24), (w.heap.size, .cells #[.int .i64 x0, .int .i64 x1, .int .i64 x2, .int .i64 x3] 24)] w (V11.alloc (.cells #[.string (oS i0), .string (oT i0)] 23)) := hl
  obtain ⟨⟨c_e0, c_e1, c_e2, c_e3⟩, -⟩ := quad_facts (hl.at 7 rfl)
  obtain ⟨⟨c_ge0, c_ge1, c_ge2, c_ge3⟩, -⟩ := quad_facts (hl.at 3 rfl)
  obtain ⟨⟨c_he0, c_he1, c_he2, c_he3⟩, -⟩ := quad_facts (hl.at 1 rfl)
  obtain ⟨⟨c_ab0, c_ab1, c_ab2, c_ab3, c_ab4, c_ab5, c_ab6, c_ab7⟩, -⟩ := oct_facts (hl.at 2 rfl)
  obtain ⟨c_one0, c_one1, -, -⟩ := pair_facts (hl.at 0 rfl)
  have HL := Aside0.mk hl
  clear hl
  go_upto_region 15 with (fail)
  generalize (V11.alloc (.cells #[.string (oS i0), .string (oT i0)] 23)) = W11 at *
  generalize V11.heap.size = a_one at *
  go_cut [151] (fun v151 wc => v151 = .bool false ∧ Aside0 (Hq [(a_one, .cells #[.string (oS i0), .string (oT i0)] 23), (a_he, .cells #[.int .i64 (oK h0), .int .i64 (oK h1), .int .i64 (oK h2), .int .i64 (oK h3)] 50), (a_ab, .cells #[.string (oS h0), .string (oT h0), .string (oS h1), .string (oT h1), .string (oS h2), .string (oT h2), .string (oS h3), .string (oT h3)] 49), (a_ge, .cells #[.int .i64 (oK g0), .int .i64 (oK g1), .int .i64 (oK g2), .int .i64 (oK g3)] 50), (a_g, .cells #[.string (oS g0), .string (oT g0), .string (oS g1), .string (oT g1), .string (oS g2), .string (oT g2), .string (oS g3), .string (oT g3)] 49), (a_f, .cells #[.int .i64 (oK p0), .int .i64 (oK s1), .int .i64 (oK p2), .int .i64 (oK t3)] 50), (a_s, .cells #[.string (oS p0), .string (oT p0), .string (oS s1), .string (oT s1), .string (oS p2), .string (oT p2), .string (oS t3), .string (oT t3)] 49), (a_e, .cells #[.int .i64 (oK p0), .int .i64 (oK p1), .int .i64 (oK p2), .int .i64 (oK p3)] 50), (a_r, .cells #[.string (oS p0), .string (oT p0), .string (oS p1), .string (oT p1), .string (oS p2), .string (oT p2), .string (oS p3), .string (oT p3)] 49), (a_c, .cells #[.string sc, .string tc] 23), (a_b, .cells #[.string sb, .string tb] 23), (a_a, .cells #[.string sa, .string ta] 23), (w.heap.size + 1 + 1, .cells #[.int .i64 z0, .int .i64 z1] 47), (w.heap.size + 1, .cells #[.int .i64 y0, .int .i64 y1, .int .i64 y2, .int .i64 y3] 24), (w.heap.size, .cells #[.int .i64 x0, .int .i64 x1, .int .i64 x2, .int .i64 x3] 24)] w wc))
  case first =>
    as_aux_lemma =>
      rcases oK_tests p0 with ⟨k_p0, t_p0, t_p0'⟩ | ⟨k_p0, t_p0, t_p0'⟩
      · as_aux_lemma =>
          rcases oK_tests g0 with ⟨k_g0, t_g0, t_g0'⟩ | ⟨k_g0, t_g0, t_g0'⟩
          · as_aux_lemma =>
              rcases oK_tests h0 with ⟨k_h0, t_h0, t_h0'⟩ | ⟨k_h0, t_h0, t_h0'⟩
              · as_aux_lemma =>
                  rcases oK_tests i0 with ⟨k_i0, t_i0, t_i0'⟩ | ⟨k_i0, t_i0, t_i0'⟩
                  · as_aux_lemma =>
                      have hxy := f_sum HP0.out HG0.out HH0.out HI0.out k_p0 k_g0 k_h0 k_i0
                      clear k_p0 k_g0 k_h0 k_i0
                      subst hxy
                      go_wp2_with fail
                      go_meet
                      case rel => exact ⟨rfl, HL⟩
                  · as_aux_lemma =>
                      clear k_p0 k_g0 k_h0 k_i0
                      go_wp2_with fail
                      go_meet
                      case rel => exact ⟨rfl, HL⟩
              · as_aux_lemma =>
                  clear k_p0 k_g0 k_h0
                  go_wp2_with fail
                  go_meet
                  case rel => exact ⟨rfl, HL⟩
          · as_aux_lemma =>
              clear k_p0 k_g0
              go_wp2_with fail
              go_meet
              case rel => exact ⟨rfl, HL⟩
      · as_aux_lemma =>
          clear k_p0
          go_wp2_with fail
          go_meet
          case rel => exact ⟨rfl, HL⟩
  as_aux_lemma =>
  clear c_e0 c_e1 c_e2 c_e3 c_ge0 c_ge1 c_ge2 c_ge3 c_he0 c_he1 c_he2 c_he3 c_ab0 c_ab1 c_ab2 c_ab3 c_ab4 c_ab5 c_ab6 c_ab7 c_one0 c_one1
  obtain ⟨rfl, HL0⟩ := hcut
  clear HL
  have hl := HL0.out
  clear HL0
  generalize wc = V12 at *
  obtain ⟨c_a0, c_a1, -, -⟩ := pair_facts (hl.at 11 rfl)
  obtain ⟨⟨c_g0, c_g1, c_g2, c_g3, c_g4, c_g5, c_g6, c_g7⟩, -⟩ := oct_facts (hl.at 4 rfl)
  have HL := Aside0.mk hl
  clear hl
  go_wp2_with fail
  obtain ⟨j0, hj0⟩ : ∃ q, rbin rmul (rvalB sa ta) (rvalB (oS g2) (oT g2)) = q := ⟨_, rfl⟩
  have HJ0 := Aside0.mk hj0
  clear hj0
  clear c_a0 c_a1 c_g0 c_g1 c_g2 c_g3 c_g4 c_g5 c_g6 c_g7
  refine (p_mul sa ta (oS g2) (oT g2) _ (HL.out.env HE.out)).mono ?_
  rintro e V13 ⟨rfl, hb⟩
  rw [HJ0.out, ratO_parts]
  unfold ratV
  have hl := HL.out.next hb
  clear HL hb
  replace hl := (hl.push (.cells #[.string (oS j0), .string (oT j0)] 23))
  try simp only [World.size_alloc] at hl
  replace hl : Hq [(V13.heap.size, .cells #[.string (oS j0), .string (oT j0)] 23), (a_one, .cells #[.string (oS i0), .string (oT i0)] 23), (a_he, .cells #[.int .i64 (oK h0), .int .i64 (oK h1), .int .i64 (oK h2), .int .i64 (oK h3)] 50), (a_ab, .cells #[.string (oS h0), .string (oT h0), .string (oS h1), .string (oT h1), .string (oS h2), .string (oT h2), .string (oS h3), .string (oT h3)] 49), (a_ge, .cells #[.int .i64 (oK g0), .int .i64 (oK g1), .int .i64 (oK g2), .int .i64 (oK g3)] 50), (a_g, .cells #[.string (oS g0), .string (oT g0), .string (oS g1), .string (oT g1), .string (oS g2), .string (oT g2), .string (oS g3), .string (oT g3)] 49), (a_f, .cells #[.int .i64 (oK p0), .int .i64 (oK s1), .int .i64 (oK p2), .int .i64 (oK t3)] 50), (a_s, .cells #[.string (oS p0), .string (oT p0), .string (oS s1), .string (oT s1), .string (oS p2), .string (oT p2), .string (oS t3), .string (oT t3)] 49), (a_e, .cells #[.int .i64 (oK p0), .int .i64 (oK p1), .int .i64 (oK p2), .int .i64 (oK p3)] 50), (a_r, .cells #[.string (oS p0), .string (oT p0), .string (oS p1), .string (oT p1), .string (oS p2), .string (oT p2), .string (oS p3), .string (oT p3)] 49), (a_c, .cells #[.string sc, .string tc] 23), (a_b, .cells #[.string sb, .string tb] 23), (a_a, .cells #[.string sa, .string ta] 23), (w.heap.size + 1 + 1, .cells #[.int .i64 z0, .int .i64 z1] 47), (w.heap.size + 1, .cells #[.int .i64 y0, .int .i64 y1, .int .i64 y2, .int .i64 y3] 24), (w.heap.size, .cells #[.int .i64 x0, .int .i64 x1, .int .i64 x2, .int .i64 x3] 24)] w (V13.alloc (.cells #[.string (oS j0), .string (oT j0)] 23)) := hl
  obtain ⟨⟨c_r0, c_r1, c_r2, c_r3, c_r4, c_r5, c_r6, c_r7⟩, -⟩ := oct_facts (hl.at 9 rfl)
  obtain ⟨c_c0, c_c1, -, -⟩ := pair_facts (hl.at 10 rfl)
  have HL := Aside0.mk hl
  clear hl
  go_wp2_with fail
  generalize (V13.alloc (.cells #[.string (oS j0), .string (oT j0)] 23)) = W13 at *
  generalize V13.heap.size = a_two at *
  obtain ⟨l0, hl0⟩ : ∃ q, rbin rmul (rvalB (oS p2) (oT p2)) (rvalB sc tc) = q := ⟨_, rfl⟩
  have HL0 := Aside0.mk hl0
  clear hl0
  clear c_r0 c_r1 c_r2 c_r3 c_r4 c_r5 c_r6 c_r7 c_c0 c_c1
  refine (p_mul (oS p2) (oT p2) sc tc _ (HL.out.env HE.out)).mono ?_
  rintro e V14 ⟨rfl, hb⟩
  rw [HL0.out, ratO_parts]
  unfold ratV
  have hl := HL.out.next hb
  clear HL hb
  replace hl := (hl.push (.cells #[.string (oS l0), .string (oT l0)] 23))
  try simp only [World.size_alloc] at hl
  replace hl : Hq [(V14.heap.size, .cells #[.string (oS l0), .string (oT l0)] 23), (a_two, .cells #[.string (oS j0), .string (oT j0)] 23), (a_one, .cells #[.string (oS i0), .string (oT i0)] 23), (a_he, .cells #[.int .i64 (oK h0), .int .i64 (oK h1), .int .i64 (oK h2), .int .i64 (oK h3)] 50), (a_ab, .cells #[.string (oS h0), .string (oT h0), .string (oS h1), .string (oT h1), .string (oS h2), .string (oT h2), .string (oS h3), .string (oT h3)] 49), (a_ge, .cells #[.int .i64 (oK g0), .int .i64 (oK g1), .int .i64 (oK g2), .int .i64 (oK g3)] 50), (a_g, .cells #[.string (oS g0), .string (oT g0), .string (oS g1), .string (oT g1), .string (oS g2), .string (oT g2), .string (oS g3), .string (oT g3)] 49), (a_f, .cells #[.int .i64 (oK p0), .int .i64 (oK s1), .int .i64 (oK p2), .int .i64 (oK t3)] 50), (a_s, .cells #[.string (oS p0), .string (oT p0), .string (oS s1), .string (oT s1), .string (oS p2), .string (oT p2), .string (oS t3), .string (oT t3)] 49), (a_e, .cells #[.int .i64 (oK p0), .int .i64 (oK p1), .int .i64 (oK p2), .int .i64 (oK p3)] 50), (a_r, .cells #[.string (oS p0), .string (oT p0), .string (oS p1), .string (oT p1), .string (oS p2), .string (oT p2), .string (oS p3), .string (oT p3)] 49), (a_c, .cells #[.string sc, .string tc] 23), (a_b, .cells #[.string sb, .string tb] 23), (a_a, .cells #[.string sa, .string ta] 23), (w.heap.size + 1 + 1, .cells #[.int .i64 z0, .int .i64 z1] 47), (w.heap.size + 1, .cells #[.int .i64 y0, .int .i64 y1, .int .i64 y2, .int .i64 y3] 24), (w.heap.size, .cells #[.int .i64 x0, .int .i64 x1, .int .i64 x2, .int .i64 x3] 24)] w (V14.alloc (.cells #[.string (oS l0), .string (oT l0)] 23)) := hl
  obtain ⟨⟨c_e0, c_e1, c_e2, c_e3⟩, -⟩ := quad_facts (hl.at 9 rfl)
  obtain ⟨⟨c_ge0, c_ge1, c_ge2, c_ge3⟩, -⟩ := quad_facts (hl.at 5 rfl)
  obtain ⟨c_two0, c_two1, -, -⟩ := pair_facts (hl.at 1 rfl)
  obtain ⟨c_left0, c_left1, -, -⟩ := pair_facts (hl.at 0 rfl)
  have HL := Aside0.mk hl
  clear hl
  go_upto_region 19 with (fail)
  generalize (V14.alloc (.cells #[.string (oS l0), .string (oT l0)] 23)) = W14 at *
  generalize V14.heap.size = a_left at *
  go_cut [186] (fun v186 wc => v186 = .bool false ∧ Aside0 (Hq [(a_left, .cells #[.string (oS l0), .string (oT l0)] 23), (a_two, .cells #[.string (oS j0), .string (oT j0)] 23), (a_one, .cells #[.string (oS i0), .string (oT i0)] 23), (a_he, .cells #[.int .i64 (oK h0), .int .i64 (oK h1), .int .i64 (oK h2), .int .i64 (oK h3)] 50), (a_ab, .cells #[.string (oS h0), .string (oT h0), .string (oS h1), .string (oT h1), .string (oS h2), .string (oT h2), .string (oS h3), .string (oT h3)] 49), (a_ge, .cells #[.int .i64 (oK g0), .int .i64 (oK g1), .int .i64 (oK g2), .int .i64 (oK g3)] 50), (a_g, .cells #[.string (oS g0), .string (oT g0), .string (oS g1), .string (oT g1), .string (oS g2), .string (oT g2), .string (oS g3), .string (oT g3)] 49), (a_f, .cells #[.int .i64 (oK p0), .int .i64 (oK s1), .int .i64 (oK p2), .int .i64 (oK t3)] 50), (a_s, .cells #[.string (oS p0), .string (oT p0), .string (oS s1), .string (oT s1), .string (oS p2), .string (oT p2), .string (oS t3), .string (oT t3)] 49), (a_e, .cells #[.int .i64 (oK p0), .int .i64 (oK p1), .int .i64 (oK p2), .int .i64 (oK p3)] 50), (a_r, .cells #[.string (oS p0), .string (oT p0), .string (oS p1), .string (oT p1), .string (oS p2), .string (oT p2), .string (oS p3), .string (oT p3)] 49), (a_c, .cells #[.string sc, .string tc] 23), (a_b, .cells #[.string sb, .string tb] 23), (a_a, .cells #[.string sa, .string ta] 23), (w.heap.size + 1 + 1, .cells #[.int .i64 z0, .int .i64 z1] 47), (w.heap.size + 1, .cells #[.int .i64 y0, .int .i64 y1, .int .i64 y2, .int .i64 y3] 24), (w.heap.size, .cells #[.int .i64 x0, .int .i64 x1, .int .i64 x2, .int .i64 x3] 24)] w wc))
  case first =>
    as_aux_lemma =>
      rcases oK_tests p2 with ⟨k_p2, t_p2, t_p2'⟩ | ⟨k_p2, t_p2, t_p2'⟩
      · as_aux_lemma =>
          rcases oK_tests g2 with ⟨k_g2, t_g2, t_g2'⟩ | ⟨k_g2, t_g2, t_g2'⟩
          · as_aux_lemma =>
              rcases oK_tests j0 with ⟨k_j0, t_j0, t_j0'⟩ | ⟨k_j0, t_j0, t_j0'⟩
              · as_aux_lemma =>
                  rcases oK_tests l0 with ⟨k_l0, t_l0, t_l0'⟩ | ⟨k_l0, t_l0, t_l0'⟩
                  · as_aux_lemma =>
                      have hxy := f_mul HP2.out HG2.out HJ0.out HL0.out k_p2 k_g2 k_j0 k_l0
                      clear k_p2 k_g2 k_j0 k_l0
                      subst hxy
                      go_wp2_with fail
                      go_meet
                      case rel => exact ⟨rfl, HL⟩
                  · as_aux_lemma =>
                      clear k_p2 k_g2 k_j0 k_l0
                      go_wp2_with fail
                      go_meet
                      case rel => exact ⟨rfl, HL⟩
              · as_aux_lemma =>
                  clear k_p2 k_g2 k_j0
                  go_wp2_with fail
                  go_meet
                  case rel => exact ⟨rfl, HL⟩
          · as_aux_lemma =>
              clear k_p2 k_g2
              go_wp2_with fail
              go_meet
              case rel => exact ⟨rfl, HL⟩
      · as_aux_lemma =>
          clear k_p2
          go_wp2_with fail
          go_meet
          case rel => exact ⟨rfl, HL⟩
  as_aux_lemma =>
  clear c_e0 c_e1 c_e2 c_e3 c_ge0 c_ge1 c_ge2 c_ge3 c_two0 c_two1 c_left0 c_left1
  obtain ⟨rfl, HL0⟩ := hcut
  clear HL
  have hl := HL0.out
  clear HL0
  generalize wc = V15 at *
  obtain ⟨c_a0, c_a1, -, -⟩ := pair_facts (hl.at 13 rfl)
  obtain ⟨c_c0, c_c1, -, -⟩ := pair_facts (hl.at 11 rfl)
  have HL := Aside0.mk hl
  clear hl
  go_wp2_with fail
  obtain ⟨m0, hm0⟩ : ∃ q, rbin rmul (rvalB sa ta) (rvalB sc tc) = q := ⟨_, rfl⟩
  have HM0 := Aside0.mk hm0
  clear hm0
  clear c_a0 c_a1 c_c0 c_c1
  refine (p_mul sa ta sc tc _ (HL.out.env HE.out)).mono ?_
  rintro e V16 ⟨rfl, hb⟩
  rw [HM0.out, ratO_parts]
  unfold ratV
  have hl := HL.out.next hb
  clear HL hb
  replace hl := (hl.push (.cells #[.string (oS m0), .string (oT m0)] 23))
  try simp only [World.size_alloc] at hl
  replace hl : Hq [(V16.heap.size, .cells #[.string (oS m0), .string (oT m0)] 23), (a_left, .cells #[.string (oS l0), .string (oT l0)] 23), (a_two, .cells #[.string (oS j0), .string (oT j0)] 23), (a_one, .cells #[.string (oS i0), .string (oT i0)] 23), (a_he, .cells #[.int .i64 (oK h0), .int .i64 (oK h1), .int .i64 (oK h2), .int .i64 (oK h3)] 50), (a_ab, .cells #[.string (oS h0), .string (oT h0), .string (oS h1), .string (oT h1), .string (oS h2), .string (oT h2), .string (oS h3), .string (oT h3)] 49), (a_ge, .cells #[.int .i64 (oK g0), .int .i64 (oK g1), .int .i64 (oK g2), .int .i64 (oK g3)] 50), (a_g, .cells #[.string (oS g0), .string (oT g0), .string (oS g1), .string (oT g1), .string (oS g2), .string (oT g2), .string (oS g3), .string (oT g3)] 49), (a_f, .cells #[.int .i64 (oK p0), .int .i64 (oK s1), .int .i64 (oK p2), .int .i64 (oK t3)] 50), (a_s, .cells #[.string (oS p0), .string (oT p0), .string (oS s1), .string (oT s1), .string (oS p2), .string (oT p2), .string (oS t3), .string (oT t3)] 49), (a_e, .cells #[.int .i64 (oK p0), .int .i64 (oK p1), .int .i64 (oK p2), .int .i64 (oK p3)] 50), (a_r, .cells #[.string (oS p0), .string (oT p0), .string (oS p1), .string (oT p1), .string (oS p2), .string (oT p2), .string (oS p3), .string (oT p3)] 49), (a_c, .cells #[.string sc, .string tc] 23), (a_b, .cells #[.string sb, .string tb] 23), (a_a, .cells #[.string sa, .string ta] 23), (w.heap.size + 1 + 1, .cells #[.int .i64 z0, .int .i64 z1] 47), (w.heap.size + 1, .cells #[.int .i64 y0, .int .i64 y1, .int .i64 y2, .int .i64 y3] 24), (w.heap.size, .cells #[.int .i64 x0, .int .i64 x1, .int .i64 x2, .int .i64 x3] 24)] w (V16.alloc (.cells #[.string (oS m0), .string (oT m0)] 23)) := hl
  obtain ⟨c_ac0, c_ac1, -, -⟩ := pair_facts (hl.at 0 rfl)
  obtain ⟨⟨c_g0, c_g1, c_g2, c_g3, c_g4, c_g5, c_g6, c_g7⟩, -⟩ := oct_facts (hl.at 7 rfl)
  have HL := Aside0.mk hl
  clear hl
  go_wp2_with fail
  generalize (V16.alloc (.cells #[.string (oS m0), .string (oT m0)] 23)) = W16 at *
  generalize V16.heap.size = a_ac at *
  obtain ⟨n0, hn0⟩ : ∃ q, rbin radd (rvalB (oS m0) (oT m0)) (rvalB (oS g2) (oT g2)) = q := ⟨_, rfl⟩
  have HN0 := Aside0.mk hn0
  clear hn0
  clear c_ac0 c_ac1 c_g0 c_g1 c_g2 c_g3 c_g4 c_g5 c_g6 c_g7
  refine (p_add (oS m0) (oT m0) (oS g2) (oT g2) _ (HL.out.env HE.out)).mono ?_
  rintro e V17 ⟨rfl, hb⟩
  rw [HN0.out, ratO_parts]
  unfold ratV
  have hl := HL.out.next hb
  clear HL hb
  replace hl := (hl.push (.cells #[.string (oS n0), .string (oT n0)] 23))
  try simp only [World.size_alloc] at hl
  replace hl : Hq [(V17.heap.size, .cells #[.string (oS n0), .string (oT n0)] 23), (a_ac, .cells #[.string (oS m0), .string (oT m0)] 23), (a_left, .cells #[.string (oS l0), .string (oT l0)] 23), (a_two, .cells #[.string (oS j0), .string (oT j0)] 23), (a_one, .cells #[.string (oS i0), .string (oT i0)] 23), (a_he, .cells #[.int .i64 (oK h0), .int .i64 (oK h1), .int .i64 (oK h2), .int .i64 (oK h3)] 50), (a_ab, .cells #[.string (oS h0), .string (oT h0), .string (oS h1), .string (oT h1), .string (oS h2), .string (oT h2), .string (oS h3), .string (oT h3)] 49), (a_ge, .cells #[.int .i64 (oK g0), .int .i64 (oK g1), .int .i64 (oK g2), .int .i64 (oK g3)] 50), (a_g, .cells #[.string (oS g0), .string (oT g0), .string (oS g1), .string (oT g1), .string (oS g2), .string (oT g2), .string (oS g3), .string (oT g3)] 49), (a_f, .cells #[.int .i64 (oK p0), .int .i64 (oK s1), .int .i64 (oK p2), .int .i64 (oK t3)] 50), (a_s, .cells #[.string (oS p0), .string (oT p0), .string (oS s1), .string (oT s1), .string (oS p2), .string (oT p2), .string (oS t3), .string (oT t3)] 49), (a_e, .cells #[.int .i64 (oK p0), .int .i64 (oK p1), .int .i64 (oK p2), .int .i64 (oK p3)] 50), (a_r, .cells #[.string (oS p0), .string (oT p0), .string (oS p1), .string (oT p1), .string (oS p2), .string (oT p2), .string (oS p3), .string (oT p3)] 49), (a_c, .cells #[.string sc, .string tc] 23), (a_b, .cells #[.string sb, .string tb] 23), (a_a, .cells #[.string sa, .string ta] 23), (w.heap.size + 1 + 1, .cells #[.int .i64 z0, .int .i64 z1] 47), (w.heap.size + 1, .cells #[.int .i64 y0, .int .i64 y1, .int .i64 y2, .int .i64 y3] 24), (w.heap.size, .cells #[.int .i64 x0, .int .i64 x1, .int .i64 x2, .int .i64 x3] 24)] w (V17.alloc (.cells #[.string (oS n0), .string (oT n0)] 23)) := hl
  obtain ⟨⟨c_r0, c_r1, c_r2, c_r3, c_r4, c_r5, c_r6, c_r7⟩, -⟩ := oct_facts (hl.at 12 rfl)
  obtain ⟨c_c0, c_c1, -, -⟩ := pair_facts (hl.at 13 rfl)
  have HL := Aside0.mk hl
  clear hl
  go_wp2_with fail
  generalize (V17.alloc (.cells #[.string (oS n0), .string (oT n0)] 23)) = W17 at *
  generalize V17.heap.size = a_sum at *
  obtain ⟨o0, ho0⟩ : ∃ q, rbin rmul (rvalB (oS p0) (oT p0)) (rvalB sc tc) = q := ⟨_, rfl⟩
  have HO0 := Aside0.mk ho0
  clear ho0
  clear c_r0 c_r1 c_r2 c_r3 c_r4 c_r5 c_r6 c_r7 c_c0 c_c1
  refine (p_mul (oS p0) (oT p0) sc tc _ (HL.out.env HE.out)).mono ?_
  rintro e V18 ⟨rfl, hb⟩
  rw [HO0.out, ratO_parts]
  unfold ratV
  have hl := HL.out.next hb
  clear HL hb
  replace hl := (hl.push (.cells #[.string (oS o0), .string (oT o0)] 23))
  try simp only [World.size_alloc] at hl
  replace hl : Hq [(V18.heap.size, .cells #[.string (oS o0), .string (oT o0)] 23), (a_sum, .cells #[.string (oS n0), .string (oT n0)] 23), (a_ac, .cells #[.string (oS m0), .string (oT m0)] 23), (a_left, .cells #[.string (oS l0), .string (oT l0)] 23), (a_two, .cells #[.string (oS j0), .string (oT j0)] 23), (a_one, .cells #[.string (oS i0), .string (oT i0)] 23), (a_he, .cells #[.int .i64 (oK h0), .int .i64 (oK h1), .int .i64 (oK h2), .int .i64 (oK h3)] 50), (a_ab, .cells #[.string (oS h0), .string (oT h0), .string (oS h1), .string (oT h1), .string (oS h2), .string (oT h2), .string (oS h3), .string (oT h3)] 49), (a_ge, .cells #[.int .i64 (oK g0), .int .i64 (oK g1), .int .i64 (oK g2), .int .i64 (oK g3)] 50), (a_g, .cells #[.string (oS g0), .string (oT g0), .string (oS g1), .string (oT g1), .string (oS g2), .string (oT g2), .string (oS g3), .string (oT g3)] 49), (a_f, .cells #[.int .i64 (oK p0), .int .i64 (oK s1), .int .i64 (oK p2), .int .i64 (oK t3)] 50), (a_s, .cells #[.string (oS p0), .string (oT p0), .string (oS s1), .string (oT s1), .string (oS p2), .string (oT p2), .string (oS t3), .string (oT t3)] 49), (a_e, .cells #[.int .i64 (oK p0), .int .i64 (oK p1), .int .i64 (oK p2), .int .i64 (oK p3)] 50), (a_r, .cells #[.string (oS p0), .string (oT p0), .string (oS p1), .string (oT p1), .string (oS p2), .string (oT p2), .string (oS p3), .string (oT p3)] 49), (a_c, .cells #[.string sc, .string tc] 23), (a_b, .cells #[.string sb, .string tb] 23), (a_a, .cells #[.string sa, .string ta] 23), (w.heap.size + 1 + 1, .cells #[.int .i64 z0, .int .i64 z1] 47), (w.heap.size + 1, .cells #[.int .i64 y0, .int .i64 y1, .int .i64 y2, .int .i64 y3] 24), (w.heap.size, .cells #[.int .i64 x0, .int .i64 x1, .int .i64 x2, .int .i64 x3] 24)] w (V18.alloc (.cells #[.string (oS o0), .string (oT o0)] 23)) := hl
  obtain ⟨⟨c_e0, c_e1, c_e2, c_e3⟩, -⟩ := quad_facts (hl.at 12 rfl)
  obtain ⟨⟨c_ge0, c_ge1, c_ge2, c_ge3⟩, -⟩ := quad_facts (hl.at 8 rfl)
  obtain ⟨c_sum0, c_sum1, -, -⟩ := pair_facts (hl.at 1 rfl)
  obtain ⟨c_whole0, c_whole1, -, -⟩ := pair_facts (hl.at 0 rfl)
  have HL := Aside0.mk hl
  clear hl
  go_upto_region 24 with (fail)
  generalize (V18.alloc (.cells #[.string (oS o0), .string (oT o0)] 23)) = W18 at *
  generalize V18.heap.size = a_whole at *
  go_cut [231] (fun v231 wc => v231 = .bool false ∧ Aside0 (Hq [(a_whole, .cells #[.string (oS o0), .string (oT o0)] 23), (a_sum, .cells #[.string (oS n0), .string (oT n0)] 23), (a_ac, .cells #[.string (oS m0), .string (oT m0)] 23), (a_left, .cells #[.string (oS l0), .string (oT l0)] 23), (a_two, .cells #[.string (oS j0), .string (oT j0)] 23), (a_one, .cells #[.string (oS i0), .string (oT i0)] 23), (a_he, .cells #[.int .i64 (oK h0), .int .i64 (oK h1), .int .i64 (oK h2), .int .i64 (oK h3)] 50), (a_ab, .cells #[.string (oS h0), .string (oT h0), .string (oS h1), .string (oT h1), .string (oS h2), .string (oT h2), .string (oS h3), .string (oT h3)] 49), (a_ge, .cells #[.int .i64 (oK g0), .int .i64 (oK g1), .int .i64 (oK g2), .int .i64 (oK g3)] 50), (a_g, .cells #[.string (oS g0), .string (oT g0), .string (oS g1), .string (oT g1), .string (oS g2), .string (oT g2), .string (oS g3), .string (oT g3)] 49), (a_f, .cells #[.int .i64 (oK p0), .int .i64 (oK s1), .int .i64 (oK p2), .int .i64 (oK t3)] 50), (a_s, .cells #[.string (oS p0), .string (oT p0), .string (oS s1), .string (oT s1), .string (oS p2), .string (oT p2), .string (oS t3), .string (oT t3)] 49), (a_e, .cells #[.int .i64 (oK p0), .int .i64 (oK p1), .int .i64 (oK p2), .int .i64 (oK p3)] 50), (a_r, .cells #[.string (oS p0), .string (oT p0), .string (oS p1), .string (oT p1), .string (oS p2), .string (oT p2), .string (oS p3), .string (oT p3)] 49), (a_c, .cells #[.string sc, .string tc] 23), (a_b, .cells #[.string sb, .string tb] 23), (a_a, .cells #[.string sa, .string ta] 23), (w.heap.size + 1 + 1, .cells #[.int .i64 z0, .int .i64 z1] 47), (w.heap.size + 1, .cells #[.int .i64 y0, .int .i64 y1, .int .i64 y2, .int .i64 y3] 24), (w.heap.size, .cells #[.int .i64 x0, .int .i64 x1, .int .i64 x2, .int .i64 x3] 24)] w wc))
  case first =>
    as_aux_lemma =>
      rcases oK_tests p0 with ⟨k_p0, t_p0, t_p0'⟩ | ⟨k_p0, t_p0, t_p0'⟩
      · as_aux_lemma =>
          rcases oK_tests m0 with ⟨k_m0, t_m0, t_m0'⟩ | ⟨k_m0, t_m0, t_m0'⟩
          · as_aux_lemma =>
              rcases oK_tests g2 with ⟨k_g2, t_g2, t_g2'⟩ | ⟨k_g2, t_g2, t_g2'⟩
              · as_aux_lemma =>
                  rcases oK_tests n0 with ⟨k_n0, t_n0, t_n0'⟩ | ⟨k_n0, t_n0, t_n0'⟩
                  · as_aux_lemma =>
                      rcases oK_tests o0 with ⟨k_o0, t_o0, t_o0'⟩ | ⟨k_o0, t_o0, t_o0'⟩
                      · as_aux_lemma =>
                          have hxy := f_distr HP0.out HM0.out HG2.out HN0.out HO0.out k_p0 k_m0 k_g2 k_n0 k_o0
                          clear k_p0 k_m0 k_g2 k_n0 k_o0
                          subst hxy
                          go_wp2_with fail
                          go_meet
                          case rel => exact ⟨rfl, HL⟩
                      · as_aux_lemma =>
                          clear k_p0 k_m0 k_g2 k_n0 k_o0
                          go_wp2_with fail
                          go_meet
                          case rel => exact ⟨rfl, HL⟩
                  · as_aux_lemma =>
                      clear k_p0 k_m0 k_g2 k_n0
                      go_wp2_with fail
                      go_meet
                      case rel => exact ⟨rfl, HL⟩
              · as_aux_lemma =>
                  clear k_p0 k_m0 k_g2
                  go_wp2_with fail
                  go_meet
                  case rel => exact ⟨rfl, HL⟩
          · as_aux_lemma =>
              clear k_p0 k_m0
              go_wp2_with fail
              go_meet
              case rel => exact ⟨rfl, HL⟩
      · as_aux_lemma =>
          clear k_p0
          go_wp2_with fail
          go_meet
          case rel => exact ⟨rfl, HL⟩
  as_aux_lemma =>
  clear c_e0 c_e1 c_e2 c_e3 c_ge0 c_ge1 c_ge2 c_ge3 c_sum0 c_sum1 c_whole0 c_whole1
  obtain ⟨rfl, HL0⟩ := hcut
  clear HL
  have hl := HL0.out
  clear HL0
  generalize wc = V19 at *
  obtain ⟨⟨c_r0, c_r1, c_r2, c_r3, c_r4, c_r5, c_r6, c_r7⟩, -⟩ := oct_facts (hl.at 13 rfl)
  obtain ⟨c_b0, c_b1, -, -⟩ := pair_facts (hl.at 15 rfl)
  have HL := Aside0.mk hl
  clear hl
  go_wp2_with fail
  obtain ⟨u0, hu0⟩ : ∃ q, rbin rsub (rvalB (oS p0) (oT p0)) (rvalB sb tb) = q := ⟨_, rfl⟩
  have HU0 := Aside0.mk hu0
  clear hu0
  clear c_r0 c_r1 c_r2 c_r3 c_r4 c_r5 c_r6 c_r7 c_b0 c_b1
  refine (p_sub (oS p0) (oT p0) sb tb _ (HL.out.env HE.out)).mono ?_
  rintro e V20 ⟨rfl, hb⟩
  rw [HU0.out, ratO_parts]
  unfold ratV
  have hl := HL.out.next hb
  clear HL hb
  replace hl := (hl.push (.cells #[.string (oS u0), .string (oT u0)] 23))
  try simp only [World.size_alloc] at hl
  replace hl : Hq [(V20.heap.size, .cells #[.string (oS u0), .string (oT u0)] 23), (a_whole, .cells #[.string (oS o0), .string (oT o0)] 23), (a_sum, .cells #[.string (oS n0), .string (oT n0)] 23), (a_ac, .cells #[.string (oS m0), .string (oT m0)] 23), (a_left, .cells #[.string (oS l0), .string (oT l0)] 23), (a_two, .cells #[.string (oS j0), .string (oT j0)] 23), (a_one, .cells #[.string (oS i0), .string (oT i0)] 23), (a_he, .cells #[.int .i64 (oK h0), .int .i64 (oK h1), .int .i64 (oK h2), .int .i64 (oK h3)] 50), (a_ab, .cells #[.string (oS h0), .string (oT h0), .string (oS h1), .string (oT h1), .string (oS h2), .string (oT h2), .string (oS h3), .string (oT h3)] 49), (a_ge, .cells #[.int .i64 (oK g0), .int .i64 (oK g1), .int .i64 (oK g2), .int .i64 (oK g3)] 50), (a_g, .cells #[.string (oS g0), .string (oT g0), .string (oS g1), .string (oT g1), .string (oS g2), .string (oT g2), .string (oS g3), .string (oT g3)] 49), (a_f, .cells #[.int .i64 (oK p0), .int .i64 (oK s1), .int .i64 (oK p2), .int .i64 (oK t3)] 50), (a_s, .cells #[.string (oS p0), .string (oT p0), .string (oS s1), .string (oT s1), .string (oS p2), .string (oT p2), .string (oS t3), .string (oT t3)] 49), (a_e, .cells #[.int .i64 (oK p0), .int .i64 (oK p1), .int .i64 (oK p2), .int .i64 (oK p3)] 50), (a_r, .cells #[.string (oS p0), .string (oT p0), .string (oS p1), .string (oT p1), .string (oS p2), .string (oT p2), .string (oS p3), .string (oT p3)] 49), (a_c, .cells #[.string sc, .string tc] 23), (a_b, .cells #[.string sb, .string tb] 23), (a_a, .cells #[.string sa, .string ta] 23), (w.heap.size + 1 + 1, .cells #[.int .i64 z0, .int .i64 z1] 47), (w.heap.size + 1, .cells #[.int .i64 y0, .int .i64 y1, .int .i64 y2, .int .i64 y3] 24), (w.heap.size, .cells #[.int .i64 x0, .int .i64 x1, .int .i64 x2, .int .i64 x3] 24)] w (V20.alloc (.cells #[.string (oS u0), .string (oT u0)] 23)) := hl
  obtain ⟨⟨c_r0, c_r1, c_r2, c_r3, c_r4, c_r5, c_r6, c_r7⟩, -⟩ := oct_facts (hl.at 14 rfl)
  obtain ⟨c_b0, c_b1, -, -⟩ := pair_facts (hl.at 16 rfl)
  have HL := Aside0.mk hl
  clear hl
  go_wp2_with fail
  generalize (V20.alloc (.cells #[.string (oS u0), .string (oT u0)] 23)) = W20 at *
  generalize V20.heap.size = a_back at *
  obtain ⟨w0, hw0⟩ : ∃ q, rbin rmul (rvalB (oS p3) (oT p3)) (rvalB sb tb) = q := ⟨_, rfl⟩
  have HW0 := Aside0.mk hw0
  clear hw0
  clear c_r0 c_r1 c_r2 c_r3 c_r4 c_r5 c_r6 c_r7 c_b0 c_b1
  refine (p_mul (oS p3) (oT p3) sb tb _ (HL.out.env HE.out)).mono ?_
  rintro e V21 ⟨rfl, hb⟩
  rw [HW0.out, ratO_parts]
  unfold ratV
  have hl := HL.out.next hb
  clear HL hb
  replace hl := (hl.push (.cells #[.string (oS w0), .string (oT w0)] 23))
  try simp only [World.size_alloc] at hl
  replace hl : Hq [(V21.heap.size, .cells #[.string (oS w0), .string (oT w0)] 23), (a_back, .cells #[.string (oS u0), .string (oT u0)] 23), (a_whole, .cells #[.string (oS o0), .string (oT o0)] 23), (a_sum, .cells #[.string (oS n0), .string (oT n0)] 23), (a_ac, .cells #[.string (oS m0), .string (oT m0)] 23), (a_left, .cells #[.string (oS l0), .string (oT l0)] 23), (a_two, .cells #[.string (oS j0), .string (oT j0)] 23), (a_one, .cells #[.string (oS i0), .string (oT i0)] 23), (a_he, .cells #[.int .i64 (oK h0), .int .i64 (oK h1), .int .i64 (oK h2), .int .i64 (oK h3)] 50), (a_ab, .cells #[.string (oS h0), .string (oT h0), .string (oS h1), .string (oT h1), .string (oS h2), .string (oT h2), .string (oS h3), .string (oT h3)] 49), (a_ge, .cells #[.int .i64 (oK g0), .int .i64 (oK g1), .int .i64 (oK g2), .int .i64 (oK g3)] 50), (a_g, .cells #[.string (oS g0), .string (oT g0), .string (oS g1), .string (oT g1), .string (oS g2), .string (oT g2), .string (oS g3), .string (oT g3)] 49), (a_f, .cells #[.int .i64 (oK p0), .int .i64 (oK s1), .int .i64 (oK p2), .int .i64 (oK t3)] 50), (a_s, .cells #[.string (oS p0), .string (oT p0), .string (oS s1), .string (oT s1), .string (oS p2), .string (oT p2), .string (oS t3), .string (oT t3)] 49), (a_e, .cells #[.int .i64 (oK p0), .int .i64 (oK p1), .int .i64 (oK p2), .int .i64 (oK p3)] 50), (a_r, .cells #[.string (oS p0), .string (oT p0), .string (oS p1), .string (oT p1), .string (oS p2), .string (oT p2), .string (oS p3), .string (oT p3)] 49), (a_c, .cells #[.string sc, .string tc] 23), (a_b, .cells #[.string sb, .string tb] 23), (a_a, .cells #[.string sa, .string ta] 23), (w.heap.size + 1 + 1, .cells #[.int .i64 z0, .int .i64 z1] 47), (w.heap.size + 1, .cells #[.int .i64 y0, .int .i64 y1, .int .i64 y2, .int .i64 y3] 24), (w.heap.size, .cells #[.int .i64 x0, .int .i64 x1, .int .i64 x2, .int .i64 x3] 24)] w (V21.alloc (.cells #[.string (oS w0), .string (oT w0)] 23)) := hl
  obtain ⟨⟨c_e0, c_e1, c_e2, c_e3⟩, -⟩ := quad_facts (hl.at 14 rfl)
  obtain ⟨c_back0, c_back1, -, -⟩ := pair_facts (hl.at 1 rfl)
  obtain ⟨c_again0, c_again1, -, -⟩ := pair_facts (hl.at 0 rfl)
  obtain ⟨c_a0, c_a1, -, -⟩ := pair_facts (hl.at 18 rfl)
  have HL := Aside0.mk hl
  clear hl
  go_upto_region 28 with (fail)
  generalize (V21.alloc (.cells #[.string (oS w0), .string (oT w0)] 23)) = W21 at *
  generalize V21.heap.size = a_again at *
  rcases oK_tests p0 with ⟨k_p0, t_p0, t_p0'⟩ | ⟨k_p0, t_p0, t_p0'⟩
  · as_aux_lemma =>
      rcases oK_tests u0 with ⟨k_u0, t_u0, t_u0'⟩ | ⟨k_u0, t_u0, t_u0'⟩
      · as_aux_lemma =>
          obtain ⟨e1, e2⟩ := f_back HFA.out HP0.out HU0.out k_p0 k_u0
          rw [e1] at c_back0
          rw [e2] at c_back1
          clear k_p0 k_u0 e1 e2
          rcases oK_tests p3 with ⟨k_p3, t_p3, t_p3'⟩ | ⟨k_p3, t_p3, t_p3'⟩
          · as_aux_lemma =>
              rcases oK_tests w0 with ⟨k_w0, t_w0, t_w0'⟩ | ⟨k_w0, t_w0, t_w0'⟩
              · as_aux_lemma =>
                  obtain ⟨e3, e4⟩ := f_again HFA.out HP3.out HW0.out k_p3 k_w0
                  rw [e3] at c_again0
                  rw [e4] at c_again1
                  clear k_p3 k_w0 e3 e4
                  go_wp2_with fail
                  go_ret
                  exact ⟨rfl, HL.out.bl⟩
              · as_aux_lemma =>
                  clear k_p3 k_w0
                  go_wp2_with fail
                  go_ret
                  exact ⟨rfl, HL.out.bl⟩
          · as_aux_lemma =>
              clear k_p3
              go_wp2_with fail
              go_ret
              exact ⟨rfl, HL.out.bl⟩
      · as_aux_lemma =>
          clear k_p0 k_u0
          rcases oK_tests p3 with ⟨k_p3, t_p3, t_p3'⟩ | ⟨k_p3, t_p3, t_p3'⟩
          · as_aux_lemma =>
              rcases oK_tests w0 with ⟨k_w0, t_w0, t_w0'⟩ | ⟨k_w0, t_w0, t_w0'⟩
              · as_aux_lemma =>
                  obtain ⟨e3, e4⟩ := f_again HFA.out HP3.out HW0.out k_p3 k_w0
                  rw [e3] at c_again0
                  rw [e4] at c_again1
                  clear k_p3 k_w0 e3 e4
                  go_wp2_with fail
                  go_ret
                  exact ⟨rfl, HL.out.bl⟩
              · as_aux_lemma =>
                  clear k_p3 k_w0
                  go_wp2_with fail
                  go_ret
                  exact ⟨rfl, HL.out.bl⟩
          · as_aux_lemma =>
              clear k_p3
              go_wp2_with fail
              go_ret
              exact ⟨rfl, HL.out.bl⟩
  · as_aux_lemma =>
      clear k_p0
      rcases oK_tests p3 with ⟨k_p3, t_p3, t_p3'⟩ | ⟨k_p3, t_p3, t_p3'⟩
      · as_aux_lemma =>
          rcases oK_tests w0 with ⟨k_w0, t_w0, t_w0'⟩ | ⟨k_w0, t_w0, t_w0'⟩
          · as_aux_lemma =>
              obtain ⟨e3, e4⟩ := f_again HFA.out HP3.out HW0.out k_p3 k_w0
              rw [e3] at c_again0
              rw [e4] at c_again1
              clear k_p3 k_w0 e3 e4
              go_wp2_with fail
              go_ret
              exact ⟨rfl, HL.out.bl⟩
          · as_aux_lemma =>
              clear k_p3 k_w0
              go_wp2_with fail
              go_ret
              exact ⟨rfl, HL.out.bl⟩
      · as_aux_lemma =>
          clear k_p3
          go_wp2_with fail
          go_ret
          exact ⟨rfl, HL.out.bl⟩

end Go.Proofs.YtnhjidbjibehpaaGreatDoor.L4

/- RationalField: for all arguments the law returns true, and its arguments read as they did; under the row's conditions (the package-level variables that the row lists hold what the program's text lays). The tied card. -/
namespace Go.Proofs.YtnhjidbjibehpaaGreatDoor.RationalFieldC
open Go.ChangeShapes Go.WideShapes Go.ChangeAt Go.RowKit

set_option maxRecDepth 100000 in
theorem lifted (os : Os) (started : os.Started) (H : Type) (enc : TypeId × Value → H) :
    ReturnsInHanded {} Tryz.checked os 8 .any (fun w args => (Rows.rationalFieldSpec.pre enc Tryz.prog Tryz.f8 Rows.rationalFieldRow.domain false w args ∧ laidMetH Tryz.prog lst w) ∧ sizedMet enc Tryz.prog Tryz.f8 (OpenSpec.ofChange Rows.rationalFieldSpec) false w args)
      (Rows.rationalFieldSpec.post enc Tryz.prog Tryz.f8 false true false false) := by
  refine framed (C := Tryz.checked) (X := fun w _ => laidMetH Tryz.prog lst w) (fun _ _ _ hh h => h.of_heap hh) own started (by kernel_rfl) Tryz.func8
    (ChangeSpec.witness_shaped (enc := enc) (C := Tryz.checked) (os := os) (X := fun w _ => laidMetH Tryz.prog lst w) false (World.laidAll Tryz.prog os lst) #[.agg #[.int .i64 0, .int .i64 0, .int .i64 0, .int .i64 0], .agg #[.int .i64 0, .int .i64 0, .int .i64 0, .int .i64 0], .agg #[.int .i64 0, .int .i64 0], .bool false] 8 (World.laidAll_os _ _ _)
      (World.shaped_of_ZipB (by kernel_rfl) (by kernel_rfl)) (by kernel_rfl) (by kernel_rfl) (by kernel_rfl)
      (by rw [MakeChecks.laidMetH_plain _ _ _ (by kernel_rfl)]; exact laidMet_laidAll _ (by kernel_rfl) (by kernel_rfl))) ?_
  intro W base args ds gs before hval0 hW hsz0 hL hsh
  have hE := env_of hL hsh
  have hval : ∀ (j : Nat) t v, Tryz.f8.params[j]? = some t → args[j]? = some v → Value.okWide Tryz.prog W .any base t v := hval0
  have hW' := hW
  obtain ⟨p, q, hA0, hV, rfl, hfz, hnd⟩ := hW
  have hA : DataW.TrodAll enc Tryz.prog W 0 (fun _ => true) true Tryz.f8.params.toList args.toList ds p := hA0
  rw [Tryz.params8] at hA hval
  obtain ⟨v0, vs0, d0, ds0, p0, q0, hargs, rfl, rfl, h0, r0⟩ := trodAll_cons hA
  obtain ⟨v1, vs1, d1, ds1, p1, q1, rfl, rfl, rfl, h1, r1⟩ := trodAll_cons r0
  obtain ⟨v2, vs2, d2, ds2, p2, q2, rfl, rfl, rfl, h2, r2⟩ := trodAll_cons r1
  obtain ⟨v3, vs3, d3, ds3, p3, q3, rfl, rfl, rfl, h3, r3⟩ := trodAll_cons r2
  obtain ⟨rfl, rfl, rfl⟩ := trodAll_nil r3
  obtain rfl : args = #[v0, v1, v2, v3] := by cases args; simp_all
  obtain ⟨rfl, rfl⟩ := trodVars_none hV
  have c1 : Tryz.prog.cellsOf 3 = 1 := by kernel_rfl
  have c4 : Tryz.prog.cellsOf 24 = 4 := by kernel_rfl
  have c2 : Tryz.prog.cellsOf 47 = 2 := by kernel_rfl
  obtain ⟨a0, b0, e0, g0, rfl, rfl, rfl, w0⟩ := open_arr4 Tryz.underlying24 Tryz.underlying3 c1 c4 (hval 0 24 v0 rfl rfl) h0
  obtain ⟨a1, b1, e1, g1, rfl, rfl, rfl, w1⟩ := open_arr4 Tryz.underlying24 Tryz.underlying3 c1 c4 (hval 1 24 v1 rfl rfl) h1
  obtain ⟨a2, b2, rfl, rfl, rfl, w2⟩ := open_arr2 Tryz.underlying47 Tryz.underlying3 c1 c2 (hval 2 47 v2 rfl rfl) h2
  obtain ⟨a3, rfl, rfl, rfl⟩ := open_bool Tryz.underlying4 (hval 3 4 v3 rfl rfl) h3
  clear hA0 hval0 hsz0
  refine (L4.field_calls a0 b0 e0 g0 a1 b1 e1 g1 a2 b2 a3 W hE ⟨i64_bounds w0.1, i64_bounds w0.2.1, i64_bounds w0.2.2.1, i64_bounds w0.2.2.2⟩ ⟨i64_bounds w1.1, i64_bounds w1.2.1, i64_bounds w1.2.2.1, i64_bounds w1.2.2.2⟩ ⟨i64_bounds w2.1, i64_bounds w2.2⟩).mono fun e W' ⟨he, bel⟩ => ?_
  subst he
  exact ⟨_, rfl, _, _, _, [], _, [], hW', trodAll_mk1 (shut_bool Tryz.underlying4 _), (trodAll_cons_mk (shut_arr4 Tryz.underlying24 Tryz.underlying3 c1 c4 w0) (trodAll_cons_mk (shut_arr4 Tryz.underlying24 Tryz.underlying3 c1 c4 w1) (trodAll_cons_mk (shut_arr2 Tryz.underlying47 Tryz.underlying3 c1 c2 w2) (trodAll_cons_mk (shut_bool Tryz.underlying4 a3) trodAll_mk0)))), rfl, bel.frame _, fun h => by cases h⟩
theorem over : Rows.rationalFieldRow.holds Tryz.pinned (OpenSpec.ofChange Rows.rationalFieldSpec) :=
  OpenClaim.holds_of_wide 8 Tryz.f8 rfl rfl rfl rfl rfl rfl rfl ⟨rfl, rfl, rfl, rfl, rfl⟩ rfl rfl rfl rfl rfl (by kernel_rfl) Tryz.func8 (by kernel_rfl)
    (of_decide_eq_true (by kernel_rfl)) (by unfold Func.isWrapper; first | (rw [if_pos (by decide +kernel)]; kernel_rfl) | (rw [if_neg (by decide +kernel)]; exact ⟨rfl, rfl⟩))
    (fun os started H enc _ => lifted os started H enc)

theorem card : Rows.RationalFieldCardSaid :=
  Claim7.holds_tied_plain_at .later [] [.data, .data, .data, .data, .sentinel, .sentinel, .pinned] true (true, "4dc10a88129ae4622e584b13318755c8b0b35b8a8bca651b717609842bef8677") true
    over (fun _ h => by cases h) (by kernel_rfl) (fun _ h => by cases h) rationalField_row_tie rfl ⟨rfl, rfl⟩ (by kernel_rfl) rfl
    (fun f fn hf hfn => by
      obtain rfl : f = 8 := Option.some.inj ((show Tryz.prog.funcNamed "yardstick/yardsticklaw04.RationalField" = some 8 by kernel_rfl).symm.trans hf) |>.symm
      obtain rfl : fn = Tryz.f8 := (Option.some.inj (Tryz.func8.symm.trans hfn)).symm
      exact ⟨by kernel_rfl, fun j t ht => by
        rw [Tryz.params8] at ht
        have hm : t ∈ [24, 24, 47, 4] := by simpa using Array.mem_of_getElem? ht
        have hall : ([24, 24, 47, 4].all fun u => !Tryz.prog.wantsStandIn u) = true := by kernel_rfl
        exact (show Tryz.prog.wantsStandIn t = false by simpa using List.all_eq_true.1 hall t hm)⟩)
    (by kernel_rfl)
#print axioms card

end Go.Proofs.YtnhjidbjibehpaaGreatDoor.RationalFieldC
namespace Go.Proofs.YtnhjidbjibehpaaGreatDoor
/-- The card, under a short name, for the claim. -/
theorem rationalField_card : Rows.RationalFieldCardSaid := RationalFieldC.card
end Go.Proofs.YtnhjidbjibehpaaGreatDoor
