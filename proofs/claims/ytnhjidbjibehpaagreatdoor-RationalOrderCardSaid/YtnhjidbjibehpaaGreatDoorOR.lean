/- RationalOrder, walked: the law returns true. -/
import Derived.Test.YtnhjidbjibehpaaGreatDoorZy
namespace Go.Proofs.YtnhjidbjibehpaaGreatDoor.L4
open Go.Shelf Go.RowKit Go.Proofs.YtnhjidbjibehpaaGreatDoorW.PrintWords Go.Proofs.YtnhjidbjibehpaaGreatDoorW.PrintLast Go.Proofs.YtnhjidbjibehpaaGreatDoorW.PrintMore Yd L3
set_option linter.unusedVariables false
set_option linter.unusedSimpArgs false
attribute [local go_sem ↓] Go.wp_at_zero Go.wp_at_succ

/-- what a maker has made: two texts, and the fraction that they are -/
structure FV (s t : ByteArray) (r : Rat) : Prop where
  v : rvalB s t = some r
  s : s = tx r.num
  t : t = tx r.den
theorem fv_of {s t : ByteArray} {lg : Bool} (h : FA lg s t) : ∃ r, FV s t r := by
  obtain ⟨r, a, b, c, _, _⟩ := h
  exact ⟨r, a, b, c⟩
theorem cmp_of {sa ta sb tb : ByteArray} {a b : Rat} (ha : FV sa ta a) (hb : FV sb tb b) : rcmpO (rvalB sa ta) (rvalB sb tb) = rcmp a b := by rw [ha.v, hb.v]; rfl
theorem fv_eq {sa ta sb tb : ByteArray} {a b : Rat} (ha : FV sa ta a) (hb : FV sb tb b) (h : a = b) : sa = sb ∧ ta = tb := by
  subst h; exact ⟨ha.s.trans hb.s.symm, ha.t.trans hb.t.symm⟩
theorem fv_ne {sa ta sb tb : ByteArray} {a b : Rat} (ha : FV sa ta a) (hb : FV sb tb b) (h : a ≠ b) : (sa.toList == sb.toList && ta.toList == tb.toList) = false := by
  rw [Bool.eq_false_iff]
  intro hc
  rw [Bool.and_eq_true, beq_iff_eq, beq_iff_eq, Ref.tl_data, Ref.tl_data, Ref.tl_data, Ref.tl_data] at hc
  have e1 := ba_ext hc.1
  have e2 := ba_ext hc.2
  subst e1 e2
  have := ha.v.symm.trans hb.v
  injection this with this
  exact h this
theorem fv_ne2 {sa ta sb tb : ByteArray} {a b : Rat} (ha : FV sa ta a) (hb : FV sb tb b) (h : a ≠ b) : (sa.toList == sb.toList) = false ∨ ((sa.toList == sb.toList) = true ∧ (ta.toList == tb.toList) = false) := by
  have := fv_ne ha hb h
  cases h1 : (sa.toList == sb.toList)
  · exact .inl rfl
  · rw [h1, Bool.true_and] at this; exact .inr ⟨rfl, this⟩
theorem rv_zero : rvalB ⟨#[48]⟩ ⟨#[49]⟩ = some 0 := by kernel_rfl
theorem o_sub {sa ta sb tb : ByteArray} {a b : Rat} {d : Option Rat} (ha : FV sa ta a) (hb : FV sb tb b) (hd : rbin rsub (rvalB sa ta) (rvalB sb tb) = d) (k : oK d = 0) : rcmpO (rvalB (oS d) (oT d)) (rvalB ⟨#[48]⟩ ⟨#[49]⟩) = rcmp a b := by
  obtain ⟨r, e⟩ := oK_zero k
  subst e
  rw [ha.v, hb.v] at hd
  have h := RL_sub (show rsub a b = some r from hd)
  rw [rv_o h.1, rv_zero, h.2]
  exact rcmp_sub a b
theorem o_add {sa ta sb tb st tt : ByteArray} {a b t : Rat} {p q : Option Rat} (ha : FV sa ta a) (hb : FV sb tb b) (ht : FV st tt t) (hp : rbin radd (rvalB sa ta) (rvalB st tt) = p) (hq : rbin radd (rvalB sb tb) (rvalB st tt) = q) (k : oK p = 0) (k' : oK q = 0) : rcmpO (rvalB (oS p) (oT p)) (rvalB (oS q) (oT q)) = rcmp a b := by
  obtain ⟨r, e⟩ := oK_zero k
  obtain ⟨r', e'⟩ := oK_zero k'
  subst e e'
  rw [ha.v, ht.v] at hp
  rw [hb.v, ht.v] at hq
  have h := RL_add (show radd a t = some r from hp)
  have h' := RL_add (show radd b t = some r' from hq)
  rw [rv_o h.1, rv_o h'.1, h.2, h'.2]
  exact rcmp_add a b t
theorem o_mul {sa ta sb tb st tt : ByteArray} {a b t : Rat} {p q : Option Rat} (ha : FV sa ta a) (hb : FV sb tb b) (ht : FV st tt t) (hp : rbin rmul (rvalB sa ta) (rvalB st tt) = p) (hq : rbin rmul (rvalB sb tb) (rvalB st tt) = q) (k : oK p = 0) (k' : oK q = 0) : rcmpO (rvalB (oS p) (oT p)) (rvalB (oS q) (oT q)) = rcmp a b * rcmp t 0 := by
  obtain ⟨r, e⟩ := oK_zero k
  obtain ⟨r', e'⟩ := oK_zero k'
  subst e e'
  rw [ha.v, ht.v] at hp
  rw [hb.v, ht.v] at hq
  have h := RL_mul (show rmul a t = some r from hp)
  have h' := RL_mul (show rmul b t = some r' from hq)
  rw [rv_o h.1, rv_o h'.1, h.2, h'.2]
  exact rcmp_mul a b t
theorem o_sgn {st tt : ByteArray} {t : Rat} (ht : FV st tt t) : rcmpO (rvalB st tt) (rvalB ⟨#[48]⟩ ⟨#[49]⟩) = rcmp t 0 := by rw [ht.v, rv_zero]; rfl
theorem rcmp_three (a b : Rat) : rcmp a b = -1 ∨ rcmp a b = 0 ∨ rcmp a b = 1 := by rcases rcmp_cases a b with ⟨_, h⟩ | ⟨_, h⟩ | ⟨_, h⟩ <;> simp [h]

set_option maxRecDepth 100000 in
set_option maxHeartbeats 64000000 in
/-- RationalOrder -/
theorem order_calls (x0 x1 x2 x3 y0 y1 y2 y3 z0 z1 z2 z3 s0 s1 : Int) (w : World) (hE : Env w) (h0 : I64 x0 ∧ I64 x1 ∧ I64 x2 ∧ I64 x3) (h1 : I64 y0 ∧ I64 y1 ∧ I64 y2 ∧ I64 y3) (h2 : I64 z0 ∧ I64 z1 ∧ I64 z2 ∧ I64 z3) (h3 : I64 s0 ∧ I64 s1) :
    Calls Tryz.prog 9 #[.agg #[.int .i64 x0, .int .i64 x1, .int .i64 x2, .int .i64 x3], .agg #[.int .i64 y0, .int .i64 y1, .int .i64 y2, .int .i64 y3], .agg #[.int .i64 z0, .int .i64 z1, .int .i64 z2, .int .i64 z3], .agg #[.int .i64 s0, .int .i64 s1]] w fun e w' => e = .returned (.bool true) ∧ Below w.heap.size w w' := by
  have HE := Aside0.mk hE
  have HB0 := Aside0.mk h0
  have HB1 := Aside0.mk h1
  have HB2 := Aside0.mk h2
  have HB3 := Aside0.mk h3
  clear hE h0 h1 h2 h3
  go_enter Tryz.func9, Tryz.ntmps9
  go_wp2_with fail
  have hl0 := (((((Hq.nil w).push (.cells #[.int .i64 x0, .int .i64 x1, .int .i64 x2, .int .i64 x3] 24)).push (.cells #[.int .i64 y0, .int .i64 y1, .int .i64 y2, .int .i64 y3] 24)).push (.cells #[.int .i64 z0, .int .i64 z1, .int .i64 z2, .int .i64 z3] 24)).push (.cells #[.int .i64 s0, .int .i64 s1] 47))
  try simp only [World.size_alloc] at hl0
  have hl : Hq [(w.heap.size + 1 + 1 + 1, .cells #[.int .i64 s0, .int .i64 s1] 47), (w.heap.size + 1 + 1, .cells #[.int .i64 z0, .int .i64 z1, .int .i64 z2, .int .i64 z3] 24), (w.heap.size + 1, .cells #[.int .i64 y0, .int .i64 y1, .int .i64 y2, .int .i64 y3] 24), (w.heap.size, .cells #[.int .i64 x0, .int .i64 x1, .int .i64 x2, .int .i64 x3] 24)] w ((((w.alloc (.cells #[.int .i64 x0, .int .i64 x1, .int .i64 x2, .int .i64 x3] 24)).alloc (.cells #[.int .i64 y0, .int .i64 y1, .int .i64 y2, .int .i64 y3] 24)).alloc (.cells #[.int .i64 z0, .int .i64 z1, .int .i64 z2, .int .i64 z3] 24)).alloc (.cells #[.int .i64 s0, .int .i64 s1] 47)) := hl0
  clear hl0
  have HL := Aside0.mk hl
  clear hl
  generalize ((((w.alloc (.cells #[.int .i64 x0, .int .i64 x1, .int .i64 x2, .int .i64 x3] 24)).alloc (.cells #[.int .i64 y0, .int .i64 y1, .int .i64 y2, .int .i64 y3] 24)).alloc (.cells #[.int .i64 z0, .int .i64 z1, .int .i64 z2, .int .i64 z3] 24)).alloc (.cells #[.int .i64 s0, .int .i64 s1] 47)) = W0 at *
  refine (sane_calls _ (HL.out.env HE.out)).mono ?_
  rintro e V1 ⟨rfl, hb⟩
  have hl := HL.out.next hb
  clear HL hb
  obtain ⟨⟨c_x0, c_x1, c_x2, c_x3⟩, -⟩ := quad_facts (hl.at 3 rfl)
  have HL := Aside0.mk hl
  clear hl
  go_wp2_with fail
  clear c_x0 c_x1 c_x2 c_x3
  refine (long_calls x0 x1 x2 x3 _ HB0.out.1 HB0.out.2.1 HB0.out.2.2.1 HB0.out.2.2.2).mono ?_
  rintro e V2 ⟨⟨ra, hra, rfl⟩, hb⟩
  have hl := HL.out.next hb
  clear HL hb
  have hfa := fa_long hra
  obtain ⟨sa, hsa⟩ : ∃ u, tx ra.num = u := ⟨_, rfl⟩
  obtain ⟨ta, hta⟩ : ∃ u, tx (ra.den : Int) = u := ⟨_, rfl⟩
  rw [hsa, hta] at hfa ⊢
  obtain ⟨qa, hq⟩ := fv_of hfa
  have HVa := Aside0.mk hq
  clear hfa hsa hta hq hra
  replace hl := (hl.push (.cells #[.string sa, .string ta] 23))
  try simp only [World.size_alloc] at hl
  replace hl : Hq [(V2.heap.size, .cells #[.string sa, .string ta] 23), (w.heap.size + 1 + 1 + 1, .cells #[.int .i64 s0, .int .i64 s1] 47), (w.heap.size + 1 + 1, .cells #[.int .i64 z0, .int .i64 z1, .int .i64 z2, .int .i64 z3] 24), (w.heap.size + 1, .cells #[.int .i64 y0, .int .i64 y1, .int .i64 y2, .int .i64 y3] 24), (w.heap.size, .cells #[.int .i64 x0, .int .i64 x1, .int .i64 x2, .int .i64 x3] 24)] w (V2.alloc (.cells #[.string sa, .string ta] 23)) := hl
  obtain ⟨⟨c_y0, c_y1, c_y2, c_y3⟩, -⟩ := quad_facts (hl.at 3 rfl)
  have HL := Aside0.mk hl
  clear hl
  go_wp2_with fail
  generalize (V2.alloc (.cells #[.string sa, .string ta] 23)) = W2 at *
  generalize V2.heap.size = a_a at *
  clear c_y0 c_y1 c_y2 c_y3
  refine (long_calls y0 y1 y2 y3 _ HB1.out.1 HB1.out.2.1 HB1.out.2.2.1 HB1.out.2.2.2).mono ?_
  rintro e V3 ⟨⟨rb, hrb, rfl⟩, hb⟩
  have hl := HL.out.next hb
  clear HL hb
  have hfa := fa_long hrb
  obtain ⟨sb, hsb⟩ : ∃ u, tx rb.num = u := ⟨_, rfl⟩
  obtain ⟨tb, htb⟩ : ∃ u, tx (rb.den : Int) = u := ⟨_, rfl⟩
  rw [hsb, htb] at hfa ⊢
  obtain ⟨qb, hq⟩ := fv_of hfa
  have HVb := Aside0.mk hq
  clear hfa hsb htb hq hrb
  replace hl := (hl.push (.cells #[.string sb, .string tb] 23))
  try simp only [World.size_alloc] at hl
  replace hl : Hq [(V3.heap.size, .cells #[.string sb, .string tb] 23), (a_a, .cells #[.string sa, .string ta] 23), (w.heap.size + 1 + 1 + 1, .cells #[.int .i64 s0, .int .i64 s1] 47), (w.heap.size + 1 + 1, .cells #[.int .i64 z0, .int .i64 z1, .int .i64 z2, .int .i64 z3] 24), (w.heap.size + 1, .cells #[.int .i64 y0, .int .i64 y1, .int .i64 y2, .int .i64 y3] 24), (w.heap.size, .cells #[.int .i64 x0, .int .i64 x1, .int .i64 x2, .int .i64 x3] 24)] w (V3.alloc (.cells #[.string sb, .string tb] 23)) := hl
  obtain ⟨⟨c_z0, c_z1, c_z2, c_z3⟩, -⟩ := quad_facts (hl.at 3 rfl)
  have HL := Aside0.mk hl
  clear hl
  go_wp2_with fail
  generalize (V3.alloc (.cells #[.string sb, .string tb] 23)) = W3 at *
  generalize V3.heap.size = a_b at *
  clear c_z0 c_z1 c_z2 c_z3
  refine (long_calls z0 z1 z2 z3 _ HB2.out.1 HB2.out.2.1 HB2.out.2.2.1 HB2.out.2.2.2).mono ?_
  rintro e V4 ⟨⟨rc, hrc, rfl⟩, hb⟩
  have hl := HL.out.next hb
  clear HL hb
  have hfa := fa_long hrc
  obtain ⟨sc, hsc⟩ : ∃ u, tx rc.num = u := ⟨_, rfl⟩
  obtain ⟨tc, htc⟩ : ∃ u, tx (rc.den : Int) = u := ⟨_, rfl⟩
  rw [hsc, htc] at hfa ⊢
  obtain ⟨qc, hq⟩ := fv_of hfa
  have HVc := Aside0.mk hq
  clear hfa hsc htc hq hrc
  replace hl := (hl.push (.cells #[.string sc, .string tc] 23))
  try simp only [World.size_alloc] at hl
  replace hl : Hq [(V4.heap.size, .cells #[.string sc, .string tc] 23), (a_b, .cells #[.string sb, .string tb] 23), (a_a, .cells #[.string sa, .string ta] 23), (w.heap.size + 1 + 1 + 1, .cells #[.int .i64 s0, .int .i64 s1] 47), (w.heap.size + 1 + 1, .cells #[.int .i64 z0, .int .i64 z1, .int .i64 z2, .int .i64 z3] 24), (w.heap.size + 1, .cells #[.int .i64 y0, .int .i64 y1, .int .i64 y2, .int .i64 y3] 24), (w.heap.size, .cells #[.int .i64 x0, .int .i64 x1, .int .i64 x2, .int .i64 x3] 24)] w (V4.alloc (.cells #[.string sc, .string tc] 23)) := hl
  obtain ⟨c_s0, c_s1, -, -⟩ := pair_facts (hl.at 3 rfl)
  have HL := Aside0.mk hl
  clear hl
  go_wp2_with fail
  generalize (V4.alloc (.cells #[.string sc, .string tc] 23)) = W4 at *
  generalize V4.heap.size = a_c at *
  obtain ⟨ss, hss⟩ : ∃ u, tx (smallR s0 s1).num = u := ⟨_, rfl⟩
  obtain ⟨ts, hts⟩ : ∃ u, tx (smallR s0 s1).den = u := ⟨_, rfl⟩
  have hfa := fa_small s0 s1
  rw [hss, hts] at hfa
  obtain ⟨qs, hq⟩ := fv_of hfa
  have HVs := Aside0.mk hq
  have HSS := Aside0.mk hss
  have HTS := Aside0.mk hts
  clear hss hts hfa hq
  clear c_s0 c_s1
  refine (small_calls s0 s1 _ HB3.out.1.1 HB3.out.1.2 HB3.out.2.1 HB3.out.2.2).mono ?_
  rintro e V5 ⟨rfl, hb⟩
  rw [HSS.out, HTS.out]
  have hl := HL.out.next hb
  clear HL hb
  replace hl := (hl.push (.cells #[.string ss, .string ts] 23))
  try simp only [World.size_alloc] at hl
  replace hl : Hq [(V5.heap.size, .cells #[.string ss, .string ts] 23), (a_c, .cells #[.string sc, .string tc] 23), (a_b, .cells #[.string sb, .string tb] 23), (a_a, .cells #[.string sa, .string ta] 23), (w.heap.size + 1 + 1 + 1, .cells #[.int .i64 s0, .int .i64 s1] 47), (w.heap.size + 1 + 1, .cells #[.int .i64 z0, .int .i64 z1, .int .i64 z2, .int .i64 z3] 24), (w.heap.size + 1, .cells #[.int .i64 y0, .int .i64 y1, .int .i64 y2, .int .i64 y3] 24), (w.heap.size, .cells #[.int .i64 x0, .int .i64 x1, .int .i64 x2, .int .i64 x3] 24)] w (V5.alloc (.cells #[.string ss, .string ts] 23)) := hl
  obtain ⟨c_a0, c_a1, -, -⟩ := pair_facts (hl.at 3 rfl)
  obtain ⟨c_b0, c_b1, -, -⟩ := pair_facts (hl.at 2 rfl)
  have HL := Aside0.mk hl
  clear hl
  go_wp2_with fail
  generalize (V5.alloc (.cells #[.string ss, .string ts] 23)) = W5 at *
  generalize V5.heap.size = a_t at *
  obtain ⟨m, hm⟩ : ∃ u, rcmp qa qb = u := ⟨_, rfl⟩
  have HM := Aside0.mk hm
  clear hm
  clear c_a0 c_a1 c_b0 c_b1
  refine (p_cmp sa ta sb tb _ (HL.out.env HE.out)).mono ?_
  rintro e V6 ⟨rfl, hb⟩
  rw [cmp_of HVa.out HVb.out, HM.out]
  have hl := HL.out.next hb
  clear HL hb
  obtain ⟨c_b0, c_b1, -, -⟩ := pair_facts (hl.at 2 rfl)
  obtain ⟨c_c0, c_c1, -, -⟩ := pair_facts (hl.at 1 rfl)
  have HL := Aside0.mk hl
  clear hl
  go_wp2_with fail
  obtain ⟨n, hn⟩ : ∃ u, rcmp qb qc = u := ⟨_, rfl⟩
  have HN := Aside0.mk hn
  clear hn
  clear c_b0 c_b1 c_c0 c_c1
  refine (p_cmp sb tb sc tc _ (HL.out.env HE.out)).mono ?_
  rintro e V7 ⟨rfl, hb⟩
  rw [cmp_of HVb.out HVc.out, HN.out]
  have hl := HL.out.next hb
  clear HL hb
  obtain ⟨c_a0, c_a1, -, -⟩ := pair_facts (hl.at 3 rfl)
  obtain ⟨c_c0, c_c1, -, -⟩ := pair_facts (hl.at 1 rfl)
  have HL := Aside0.mk hl
  clear hl
  go_wp2_with fail
  obtain ⟨o, ho⟩ : ∃ u, rcmp qa qc = u := ⟨_, rfl⟩
  have HO := Aside0.mk ho
  clear ho
  clear c_a0 c_a1 c_c0 c_c1
  refine (p_cmp sa ta sc tc _ (HL.out.env HE.out)).mono ?_
  rintro e V8 ⟨rfl, hb⟩
  rw [cmp_of HVa.out HVc.out, HO.out]
  have hl := HL.out.next hb
  clear HL hb
  obtain ⟨c_a0, c_a1, -, -⟩ := pair_facts (hl.at 3 rfl)
  obtain ⟨c_b0, c_b1, -, -⟩ := pair_facts (hl.at 2 rfl)
  have HL := Aside0.mk hl
  clear hl
  go_upto_region 9 with (fail)
  go_cut [92] (fun v92 wc => v92 = .bool false ∧ Aside0 (Hq [(a_t, .cells #[.string ss, .string ts] 23), (a_c, .cells #[.string sc, .string tc] 23), (a_b, .cells #[.string sb, .string tb] 23), (a_a, .cells #[.string sa, .string ta] 23), (w.heap.size + 1 + 1 + 1, .cells #[.int .i64 s0, .int .i64 s1] 47), (w.heap.size + 1 + 1, .cells #[.int .i64 z0, .int .i64 z1, .int .i64 z2, .int .i64 z3] 24), (w.heap.size + 1, .cells #[.int .i64 y0, .int .i64 y1, .int .i64 y2, .int .i64 y3] 24), (w.heap.size, .cells #[.int .i64 x0, .int .i64 x1, .int .i64 x2, .int .i64 x3] 24)] w wc))
  case first =>
    as_aux_lemma =>
      have h3 := rcmp_three qa qb
      rw [HM.out] at h3
      have hsw := rcmp_swap qa qb
      rw [HM.out] at hsw
      have HSW := Aside0.mk hsw
      have HLE : Aside0 (m ≤ 0 → n ≤ 0 → o ≤ 0) := ⟨fun h h' => by rw [← HM.out] at h; rw [← HN.out] at h'; rw [← HO.out]; exact rcmp_trans h h'⟩
      have HLT : Aside0 (m ≤ 0 → n < 0 → o < 0) := ⟨fun h h' => by rw [← HM.out] at h; rw [← HN.out] at h'; rw [← HO.out]; exact rcmp_trans_lt h h'⟩
      have HN3 := Aside0.mk (rcmp_three qb qc)
      rw [HN.out] at HN3
      clear hsw
      rcases h3 with h3 | h3 | h3
      · subst h3
        rcases HN3.out with hn | hn | hn
        · subst hn
          have hl0 : o < 0 := HLT.out (by omega) (by omega)
          have d1 : decide (0 < o) = false := decide_eq_false (by omega)
          have d2 : decide (0 ≤ o) = false := decide_eq_false (by omega)
          have d3 : decide (o < 0) = true := decide_eq_true hl0
          have d4 : decide (o ≤ 0) = true := decide_eq_true (by omega)
          rcases fv_ne2 HVa.out HVb.out (by have h := HM.out; intro e; rw [rcmp_eq.2 e] at h; omega) with hne | ⟨hne, hne'⟩
          · as_aux_lemma =>
              go_wp2_with fail
              refine (p_cmp sb tb sa ta _ (HL.out.env HE.out)).mono ?_
              rintro e V70 ⟨rfl, hb⟩
              rw [cmp_of HVb.out HVa.out, HSW.out]
              have hl := HL.out.next hb
              clear HL hb c_a0 c_a1 c_b0 c_b1
              obtain ⟨c_a0, c_a1, -, -⟩ := pair_facts (hl.at 3 rfl)
              obtain ⟨c_b0, c_b1, -, -⟩ := pair_facts (hl.at 2 rfl)
              have HL := Aside0.mk hl
              clear hl
              go_wp2_with fail
              refine (p_cmp sa ta sa ta _ (HL.out.env HE.out)).mono ?_
              rintro e V71 ⟨rfl, hb⟩
              rw [cmp_of HVa.out HVa.out, rcmp_self]
              have hl := HL.out.next hb
              clear HL hb c_a0 c_a1 c_b0 c_b1
              have HL := Aside0.mk hl
              clear hl
              go_wp2_with fail
              go_meet
              case rel => exact ⟨rfl, HL⟩
          · as_aux_lemma =>
              go_wp2_with fail
              refine (p_cmp sb tb sa ta _ (HL.out.env HE.out)).mono ?_
              rintro e V70 ⟨rfl, hb⟩
              rw [cmp_of HVb.out HVa.out, HSW.out]
              have hl := HL.out.next hb
              clear HL hb c_a0 c_a1 c_b0 c_b1
              obtain ⟨c_a0, c_a1, -, -⟩ := pair_facts (hl.at 3 rfl)
              obtain ⟨c_b0, c_b1, -, -⟩ := pair_facts (hl.at 2 rfl)
              have HL := Aside0.mk hl
              clear hl
              go_wp2_with fail
              refine (p_cmp sa ta sa ta _ (HL.out.env HE.out)).mono ?_
              rintro e V71 ⟨rfl, hb⟩
              rw [cmp_of HVa.out HVa.out, rcmp_self]
              have hl := HL.out.next hb
              clear HL hb c_a0 c_a1 c_b0 c_b1
              have HL := Aside0.mk hl
              clear hl
              go_wp2_with fail
              go_meet
              case rel => exact ⟨rfl, HL⟩
        · subst hn
          have hl0 : o ≤ 0 := HLE.out (by omega) (by omega)
          have d1 : decide (0 < o) = false := decide_eq_false (by omega)
          have d4 : decide (o ≤ 0) = true := decide_eq_true (by omega)
          rcases fv_ne2 HVa.out HVb.out (by have h := HM.out; intro e; rw [rcmp_eq.2 e] at h; omega) with hne | ⟨hne, hne'⟩
          · as_aux_lemma =>
              go_wp2_with fail
              refine (p_cmp sb tb sa ta _ (HL.out.env HE.out)).mono ?_
              rintro e V70 ⟨rfl, hb⟩
              rw [cmp_of HVb.out HVa.out, HSW.out]
              have hl := HL.out.next hb
              clear HL hb c_a0 c_a1 c_b0 c_b1
              obtain ⟨c_a0, c_a1, -, -⟩ := pair_facts (hl.at 3 rfl)
              obtain ⟨c_b0, c_b1, -, -⟩ := pair_facts (hl.at 2 rfl)
              have HL := Aside0.mk hl
              clear hl
              go_wp2_with fail
              refine (p_cmp sa ta sa ta _ (HL.out.env HE.out)).mono ?_
              rintro e V71 ⟨rfl, hb⟩
              rw [cmp_of HVa.out HVa.out, rcmp_self]
              have hl := HL.out.next hb
              clear HL hb c_a0 c_a1 c_b0 c_b1
              have HL := Aside0.mk hl
              clear hl
              go_wp2_with fail
              go_meet
              case rel => exact ⟨rfl, HL⟩
          · as_aux_lemma =>
              go_wp2_with fail
              refine (p_cmp sb tb sa ta _ (HL.out.env HE.out)).mono ?_
              rintro e V70 ⟨rfl, hb⟩
              rw [cmp_of HVb.out HVa.out, HSW.out]
              have hl := HL.out.next hb
              clear HL hb c_a0 c_a1 c_b0 c_b1
              obtain ⟨c_a0, c_a1, -, -⟩ := pair_facts (hl.at 3 rfl)
              obtain ⟨c_b0, c_b1, -, -⟩ := pair_facts (hl.at 2 rfl)
              have HL := Aside0.mk hl
              clear hl
              go_wp2_with fail
              refine (p_cmp sa ta sa ta _ (HL.out.env HE.out)).mono ?_
              rintro e V71 ⟨rfl, hb⟩
              rw [cmp_of HVa.out HVa.out, rcmp_self]
              have hl := HL.out.next hb
              clear HL hb c_a0 c_a1 c_b0 c_b1
              have HL := Aside0.mk hl
              clear hl
              go_wp2_with fail
              go_meet
              case rel => exact ⟨rfl, HL⟩
        · subst hn
          rcases fv_ne2 HVa.out HVb.out (by have h := HM.out; intro e; rw [rcmp_eq.2 e] at h; omega) with hne | ⟨hne, hne'⟩
          · as_aux_lemma =>
              go_wp2_with fail
              refine (p_cmp sb tb sa ta _ (HL.out.env HE.out)).mono ?_
              rintro e V70 ⟨rfl, hb⟩
              rw [cmp_of HVb.out HVa.out, HSW.out]
              have hl := HL.out.next hb
              clear HL hb c_a0 c_a1 c_b0 c_b1
              obtain ⟨c_a0, c_a1, -, -⟩ := pair_facts (hl.at 3 rfl)
              obtain ⟨c_b0, c_b1, -, -⟩ := pair_facts (hl.at 2 rfl)
              have HL := Aside0.mk hl
              clear hl
              go_wp2_with fail
              refine (p_cmp sa ta sa ta _ (HL.out.env HE.out)).mono ?_
              rintro e V71 ⟨rfl, hb⟩
              rw [cmp_of HVa.out HVa.out, rcmp_self]
              have hl := HL.out.next hb
              clear HL hb c_a0 c_a1 c_b0 c_b1
              have HL := Aside0.mk hl
              clear hl
              go_wp2_with fail
              go_meet
              case rel => exact ⟨rfl, HL⟩
          · as_aux_lemma =>
              go_wp2_with fail
              refine (p_cmp sb tb sa ta _ (HL.out.env HE.out)).mono ?_
              rintro e V70 ⟨rfl, hb⟩
              rw [cmp_of HVb.out HVa.out, HSW.out]
              have hl := HL.out.next hb
              clear HL hb c_a0 c_a1 c_b0 c_b1
              obtain ⟨c_a0, c_a1, -, -⟩ := pair_facts (hl.at 3 rfl)
              obtain ⟨c_b0, c_b1, -, -⟩ := pair_facts (hl.at 2 rfl)
              have HL := Aside0.mk hl
              clear hl
              go_wp2_with fail
              refine (p_cmp sa ta sa ta _ (HL.out.env HE.out)).mono ?_
              rintro e V71 ⟨rfl, hb⟩
              rw [cmp_of HVa.out HVa.out, rcmp_self]
              have hl := HL.out.next hb
              clear HL hb c_a0 c_a1 c_b0 c_b1
              have HL := Aside0.mk hl
              clear hl
              go_wp2_with fail
              go_meet
              case rel => exact ⟨rfl, HL⟩
      · subst h3
        rcases HN3.out with hn | hn | hn
        · subst hn
          have hl0 : o < 0 := HLT.out (by omega) (by omega)
          have d1 : decide (0 < o) = false := decide_eq_false (by omega)
          have d2 : decide (0 ≤ o) = false := decide_eq_false (by omega)
          have d3 : decide (o < 0) = true := decide_eq_true hl0
          have d4 : decide (o ≤ 0) = true := decide_eq_true (by omega)
          obtain ⟨e1, e2⟩ := fv_eq HVa.out HVb.out (rcmp_eq.1 HM.out)
          subst e1 e2
          go_wp2_with fail
          refine (p_cmp sa ta sa ta _ (HL.out.env HE.out)).mono ?_
          rintro e V70 ⟨rfl, hb⟩
          rw [cmp_of HVb.out HVa.out, HSW.out]
          have hl := HL.out.next hb
          clear HL hb c_a0 c_a1 c_b0 c_b1
          obtain ⟨c_a0, c_a1, -, -⟩ := pair_facts (hl.at 3 rfl)
          obtain ⟨c_b0, c_b1, -, -⟩ := pair_facts (hl.at 2 rfl)
          have HL := Aside0.mk hl
          clear hl
          go_wp2_with fail
          refine (p_cmp sa ta sa ta _ (HL.out.env HE.out)).mono ?_
          rintro e V71 ⟨rfl, hb⟩
          rw [cmp_of HVa.out HVa.out, rcmp_self]
          have hl := HL.out.next hb
          clear HL hb c_a0 c_a1 c_b0 c_b1
          have HL := Aside0.mk hl
          clear hl
          go_wp2_with fail
          go_meet
          case rel => exact ⟨rfl, HL⟩
        · subst hn
          have hl0 : o ≤ 0 := HLE.out (by omega) (by omega)
          have d1 : decide (0 < o) = false := decide_eq_false (by omega)
          have d4 : decide (o ≤ 0) = true := decide_eq_true (by omega)
          obtain ⟨e1, e2⟩ := fv_eq HVa.out HVb.out (rcmp_eq.1 HM.out)
          subst e1 e2
          go_wp2_with fail
          refine (p_cmp sa ta sa ta _ (HL.out.env HE.out)).mono ?_
          rintro e V70 ⟨rfl, hb⟩
          rw [cmp_of HVb.out HVa.out, HSW.out]
          have hl := HL.out.next hb
          clear HL hb c_a0 c_a1 c_b0 c_b1
          obtain ⟨c_a0, c_a1, -, -⟩ := pair_facts (hl.at 3 rfl)
          obtain ⟨c_b0, c_b1, -, -⟩ := pair_facts (hl.at 2 rfl)
          have HL := Aside0.mk hl
          clear hl
          go_wp2_with fail
          refine (p_cmp sa ta sa ta _ (HL.out.env HE.out)).mono ?_
          rintro e V71 ⟨rfl, hb⟩
          rw [cmp_of HVa.out HVa.out, rcmp_self]
          have hl := HL.out.next hb
          clear HL hb c_a0 c_a1 c_b0 c_b1
          have HL := Aside0.mk hl
          clear hl
          go_wp2_with fail
          go_meet
          case rel => exact ⟨rfl, HL⟩
        · subst hn
          obtain ⟨e1, e2⟩ := fv_eq HVa.out HVb.out (rcmp_eq.1 HM.out)
          subst e1 e2
          go_wp2_with fail
          refine (p_cmp sa ta sa ta _ (HL.out.env HE.out)).mono ?_
          rintro e V70 ⟨rfl, hb⟩
          rw [cmp_of HVb.out HVa.out, HSW.out]
          have hl := HL.out.next hb
          clear HL hb c_a0 c_a1 c_b0 c_b1
          obtain ⟨c_a0, c_a1, -, -⟩ := pair_facts (hl.at 3 rfl)
          obtain ⟨c_b0, c_b1, -, -⟩ := pair_facts (hl.at 2 rfl)
          have HL := Aside0.mk hl
          clear hl
          go_wp2_with fail
          refine (p_cmp sa ta sa ta _ (HL.out.env HE.out)).mono ?_
          rintro e V71 ⟨rfl, hb⟩
          rw [cmp_of HVa.out HVa.out, rcmp_self]
          have hl := HL.out.next hb
          clear HL hb c_a0 c_a1 c_b0 c_b1
          have HL := Aside0.mk hl
          clear hl
          go_wp2_with fail
          go_meet
          case rel => exact ⟨rfl, HL⟩
      · subst h3
        rcases fv_ne2 HVa.out HVb.out (by have h := HM.out; intro e; rw [rcmp_eq.2 e] at h; omega) with hne | ⟨hne, hne'⟩
        · as_aux_lemma =>
            go_wp2_with fail
            refine (p_cmp sb tb sa ta _ (HL.out.env HE.out)).mono ?_
            rintro e V70 ⟨rfl, hb⟩
            rw [cmp_of HVb.out HVa.out, HSW.out]
            have hl := HL.out.next hb
            clear HL hb c_a0 c_a1 c_b0 c_b1
            obtain ⟨c_a0, c_a1, -, -⟩ := pair_facts (hl.at 3 rfl)
            obtain ⟨c_b0, c_b1, -, -⟩ := pair_facts (hl.at 2 rfl)
            have HL := Aside0.mk hl
            clear hl
            go_wp2_with fail
            refine (p_cmp sa ta sa ta _ (HL.out.env HE.out)).mono ?_
            rintro e V71 ⟨rfl, hb⟩
            rw [cmp_of HVa.out HVa.out, rcmp_self]
            have hl := HL.out.next hb
            clear HL hb c_a0 c_a1 c_b0 c_b1
            have HL := Aside0.mk hl
            clear hl
            go_wp2_with fail
            go_meet
            case rel => exact ⟨rfl, HL⟩
        · as_aux_lemma =>
            go_wp2_with fail
            refine (p_cmp sb tb sa ta _ (HL.out.env HE.out)).mono ?_
            rintro e V70 ⟨rfl, hb⟩
            rw [cmp_of HVb.out HVa.out, HSW.out]
            have hl := HL.out.next hb
            clear HL hb c_a0 c_a1 c_b0 c_b1
            obtain ⟨c_a0, c_a1, -, -⟩ := pair_facts (hl.at 3 rfl)
            obtain ⟨c_b0, c_b1, -, -⟩ := pair_facts (hl.at 2 rfl)
            have HL := Aside0.mk hl
            clear hl
            go_wp2_with fail
            refine (p_cmp sa ta sa ta _ (HL.out.env HE.out)).mono ?_
            rintro e V71 ⟨rfl, hb⟩
            rw [cmp_of HVa.out HVa.out, rcmp_self]
            have hl := HL.out.next hb
            clear HL hb c_a0 c_a1 c_b0 c_b1
            have HL := Aside0.mk hl
            clear hl
            go_wp2_with fail
            go_meet
            case rel => exact ⟨rfl, HL⟩
  as_aux_lemma =>
  clear c_a0 c_a1 c_b0 c_b1
  obtain ⟨rfl, HL0⟩ := hcut
  clear HL
  have hl := HL0.out
  clear HL0
  generalize wc = V9 at *
  obtain ⟨c_a0, c_a1, -, -⟩ := pair_facts (hl.at 3 rfl)
  obtain ⟨c_b0, c_b1, -, -⟩ := pair_facts (hl.at 2 rfl)
  have HL := Aside0.mk hl
  clear hl
  go_wp2_with fail
  obtain ⟨d0, hd0⟩ : ∃ q, rbin rsub (rvalB sa ta) (rvalB sb tb) = q := ⟨_, rfl⟩
  have HD0 := Aside0.mk hd0
  clear hd0
  clear c_a0 c_a1 c_b0 c_b1
  refine (p_sub sa ta sb tb _ (HL.out.env HE.out)).mono ?_
  rintro e V10 ⟨rfl, hb⟩
  rw [HD0.out, ratO_parts]
  unfold ratV
  have hl := HL.out.next hb
  clear HL hb
  replace hl := (hl.push (.cells #[.string (oS d0), .string (oT d0)] 23))
  try simp only [World.size_alloc] at hl
  replace hl : Hq [(V10.heap.size, .cells #[.string (oS d0), .string (oT d0)] 23), (a_t, .cells #[.string ss, .string ts] 23), (a_c, .cells #[.string sc, .string tc] 23), (a_b, .cells #[.string sb, .string tb] 23), (a_a, .cells #[.string sa, .string ta] 23), (w.heap.size + 1 + 1 + 1, .cells #[.int .i64 s0, .int .i64 s1] 47), (w.heap.size + 1 + 1, .cells #[.int .i64 z0, .int .i64 z1, .int .i64 z2, .int .i64 z3] 24), (w.heap.size + 1, .cells #[.int .i64 y0, .int .i64 y1, .int .i64 y2, .int .i64 y3] 24), (w.heap.size, .cells #[.int .i64 x0, .int .i64 x1, .int .i64 x2, .int .i64 x3] 24)] w (V10.alloc (.cells #[.string (oS d0), .string (oT d0)] 23)) := hl
  obtain ⟨c_d0, c_d1, -, -⟩ := pair_facts (hl.at 0 rfl)
  have HL := Aside0.mk hl
  clear hl
  go_upto_region 12 with (fail)
  generalize (V10.alloc (.cells #[.string (oS d0), .string (oT d0)] 23)) = W10 at *
  generalize V10.heap.size = a_d at *
  go_cut [107] (fun v107 wc => v107 = .bool false ∧ Aside0 (Hq [(a_d, .cells #[.string (oS d0), .string (oT d0)] 23), (a_t, .cells #[.string ss, .string ts] 23), (a_c, .cells #[.string sc, .string tc] 23), (a_b, .cells #[.string sb, .string tb] 23), (a_a, .cells #[.string sa, .string ta] 23), (w.heap.size + 1 + 1 + 1, .cells #[.int .i64 s0, .int .i64 s1] 47), (w.heap.size + 1 + 1, .cells #[.int .i64 z0, .int .i64 z1, .int .i64 z2, .int .i64 z3] 24), (w.heap.size + 1, .cells #[.int .i64 y0, .int .i64 y1, .int .i64 y2, .int .i64 y3] 24), (w.heap.size, .cells #[.int .i64 x0, .int .i64 x1, .int .i64 x2, .int .i64 x3] 24)] w wc))
  case first =>
    as_aux_lemma =>
      rcases oK_tests d0 with ⟨k_d0, t_d0, t_d0'⟩ | ⟨k_d0, t_d0, t_d0'⟩
      · as_aux_lemma =>
          have hc := o_sub HVa.out HVb.out HD0.out k_d0
          rw [HM.out] at hc
          have HC := Aside0.mk hc
          clear hc k_d0
          have hl := HL.out.drew
          clear HL
          have HL := Aside0.mk hl
          clear hl
          go_region_held3 (fun w' => w'.cell? ⟨a_d, 0, none⟩ = some (.string (oS d0)) ∧ w'.cell? ⟨a_d, 1, none⟩ = some (.string (oT d0))) (first | exact ⟨c_d0, c_d1⟩ | go_keep) (first
            | (go_at_call 24; (with_reducible refine (p_is ⟨#[48]⟩ ⟨#[49]⟩ _).mono ?_); rintro e V90 ⟨rfl, hb⟩; have hl := HL.out.next hb; clear HL c_d0 c_d1; obtain ⟨c_d0, c_d1, -, -⟩ := pair_facts (hl.at 0 rfl); have HL := Aside0.mk hl; clear hb hl)
            | (go_at_call 23; (with_reducible refine (p_cmp (oS d0) (oT d0) ⟨#[48]⟩ ⟨#[49]⟩ _ (HL.out.env HE.out)).mono ?_); rintro e V90 ⟨rfl, hb⟩; have hl := HL.out.next hb; clear HL c_d0 c_d1; rw [HC.out]; obtain ⟨c_d0, c_d1, -, -⟩ := pair_facts (hl.at 0 rfl); have HL := Aside0.mk hl; clear hb hl))
          all_goals
            go_wp2_with fail
            go_meet
            case rel => exact ⟨rfl, HL⟩
      · as_aux_lemma =>
          clear k_d0
          go_region
          all_goals
            go_wp2_with fail
            go_meet
            case rel => exact ⟨rfl, ⟨HL.out.drew⟩⟩
  as_aux_lemma =>
  clear c_d0 c_d1
  obtain ⟨rfl, HL0⟩ := hcut
  clear HL
  have hl := HL0.out
  clear HL0
  generalize wc = V11 at *
  obtain ⟨c_a0, c_a1, -, -⟩ := pair_facts (hl.at 4 rfl)
  obtain ⟨c_t0, c_t1, -, -⟩ := pair_facts (hl.at 1 rfl)
  have HL := Aside0.mk hl
  clear hl
  go_wp2_with fail
  obtain ⟨p0, hp0⟩ : ∃ q, rbin radd (rvalB sa ta) (rvalB ss ts) = q := ⟨_, rfl⟩
  have HP0 := Aside0.mk hp0
  clear hp0
  clear c_a0 c_a1 c_t0 c_t1
  refine (p_add sa ta ss ts _ (HL.out.env HE.out)).mono ?_
  rintro e V12 ⟨rfl, hb⟩
  rw [HP0.out, ratO_parts]
  unfold ratV
  have hl := HL.out.next hb
  clear HL hb
  replace hl := (hl.push (.cells #[.string (oS p0), .string (oT p0)] 23))
  try simp only [World.size_alloc] at hl
  replace hl : Hq [(V12.heap.size, .cells #[.string (oS p0), .string (oT p0)] 23), (a_d, .cells #[.string (oS d0), .string (oT d0)] 23), (a_t, .cells #[.string ss, .string ts] 23), (a_c, .cells #[.string sc, .string tc] 23), (a_b, .cells #[.string sb, .string tb] 23), (a_a, .cells #[.string sa, .string ta] 23), (w.heap.size + 1 + 1 + 1, .cells #[.int .i64 s0, .int .i64 s1] 47), (w.heap.size + 1 + 1, .cells #[.int .i64 z0, .int .i64 z1, .int .i64 z2, .int .i64 z3] 24), (w.heap.size + 1, .cells #[.int .i64 y0, .int .i64 y1, .int .i64 y2, .int .i64 y3] 24), (w.heap.size, .cells #[.int .i64 x0, .int .i64 x1, .int .i64 x2, .int .i64 x3] 24)] w (V12.alloc (.cells #[.string (oS p0), .string (oT p0)] 23)) := hl
  obtain ⟨c_b0, c_b1, -, -⟩ := pair_facts (hl.at 4 rfl)
  obtain ⟨c_t0, c_t1, -, -⟩ := pair_facts (hl.at 2 rfl)
  have HL := Aside0.mk hl
  clear hl
  go_wp2_with fail
  generalize (V12.alloc (.cells #[.string (oS p0), .string (oT p0)] 23)) = W12 at *
  generalize V12.heap.size = a_p at *
  obtain ⟨q0, hq0⟩ : ∃ q, rbin radd (rvalB sb tb) (rvalB ss ts) = q := ⟨_, rfl⟩
  have HQ0 := Aside0.mk hq0
  clear hq0
  clear c_b0 c_b1 c_t0 c_t1
  refine (p_add sb tb ss ts _ (HL.out.env HE.out)).mono ?_
  rintro e V13 ⟨rfl, hb⟩
  rw [HQ0.out, ratO_parts]
  unfold ratV
  have hl := HL.out.next hb
  clear HL hb
  replace hl := (hl.push (.cells #[.string (oS q0), .string (oT q0)] 23))
  try simp only [World.size_alloc] at hl
  replace hl : Hq [(V13.heap.size, .cells #[.string (oS q0), .string (oT q0)] 23), (a_p, .cells #[.string (oS p0), .string (oT p0)] 23), (a_d, .cells #[.string (oS d0), .string (oT d0)] 23), (a_t, .cells #[.string ss, .string ts] 23), (a_c, .cells #[.string sc, .string tc] 23), (a_b, .cells #[.string sb, .string tb] 23), (a_a, .cells #[.string sa, .string ta] 23), (w.heap.size + 1 + 1 + 1, .cells #[.int .i64 s0, .int .i64 s1] 47), (w.heap.size + 1 + 1, .cells #[.int .i64 z0, .int .i64 z1, .int .i64 z2, .int .i64 z3] 24), (w.heap.size + 1, .cells #[.int .i64 y0, .int .i64 y1, .int .i64 y2, .int .i64 y3] 24), (w.heap.size, .cells #[.int .i64 x0, .int .i64 x1, .int .i64 x2, .int .i64 x3] 24)] w (V13.alloc (.cells #[.string (oS q0), .string (oT q0)] 23)) := hl
  obtain ⟨c_p0, c_p1, -, -⟩ := pair_facts (hl.at 1 rfl)
  obtain ⟨c_q0, c_q1, -, -⟩ := pair_facts (hl.at 0 rfl)
  have HL := Aside0.mk hl
  clear hl
  go_upto_region 16 with (fail)
  generalize (V13.alloc (.cells #[.string (oS q0), .string (oT q0)] 23)) = W13 at *
  generalize V13.heap.size = a_q at *
  go_cut [132] (fun v132 wc => v132 = .bool false ∧ Aside0 (Hq [(a_q, .cells #[.string (oS q0), .string (oT q0)] 23), (a_p, .cells #[.string (oS p0), .string (oT p0)] 23), (a_d, .cells #[.string (oS d0), .string (oT d0)] 23), (a_t, .cells #[.string ss, .string ts] 23), (a_c, .cells #[.string sc, .string tc] 23), (a_b, .cells #[.string sb, .string tb] 23), (a_a, .cells #[.string sa, .string ta] 23), (w.heap.size + 1 + 1 + 1, .cells #[.int .i64 s0, .int .i64 s1] 47), (w.heap.size + 1 + 1, .cells #[.int .i64 z0, .int .i64 z1, .int .i64 z2, .int .i64 z3] 24), (w.heap.size + 1, .cells #[.int .i64 y0, .int .i64 y1, .int .i64 y2, .int .i64 y3] 24), (w.heap.size, .cells #[.int .i64 x0, .int .i64 x1, .int .i64 x2, .int .i64 x3] 24)] w wc))
  case first =>
    as_aux_lemma =>
      rcases oK_tests p0 with ⟨k_p0, t_p0, t_p0'⟩ | ⟨k_p0, t_p0, t_p0'⟩
      · as_aux_lemma =>
          rcases oK_tests q0 with ⟨k_q0, t_q0, t_q0'⟩ | ⟨k_q0, t_q0, t_q0'⟩
          · as_aux_lemma =>
              have hc := o_add HVa.out HVb.out HVs.out HP0.out HQ0.out k_p0 k_q0
              rw [HM.out] at hc
              have HC := Aside0.mk hc
              clear hc k_p0 k_q0
              go_wp2_with fail
              refine (p_cmp (oS p0) (oT p0) (oS q0) (oT q0) _ (HL.out.env HE.out)).mono ?_
              rintro e V91 ⟨rfl, hb⟩
              rw [HC.out]
              have hl := HL.out.next hb
              clear HL hb c_p0 c_p1 c_q0 c_q1
              have HL := Aside0.mk hl
              clear hl
              go_wp2_with fail
              go_meet
              case rel => exact ⟨rfl, HL⟩
          · as_aux_lemma =>
              clear k_p0 k_q0
              go_wp2_with fail
              go_meet
              case rel => exact ⟨rfl, HL⟩
      · as_aux_lemma =>
          clear k_p0
          go_wp2_with fail
          go_meet
          case rel => exact ⟨rfl, HL⟩
  as_aux_lemma =>
  clear c_p0 c_p1 c_q0 c_q1
  obtain ⟨rfl, HL0⟩ := hcut
  clear HL
  have hl := HL0.out
  clear HL0
  generalize wc = V14 at *
  obtain ⟨c_a0, c_a1, -, -⟩ := pair_facts (hl.at 6 rfl)
  obtain ⟨c_t0, c_t1, -, -⟩ := pair_facts (hl.at 3 rfl)
  have HL := Aside0.mk hl
  clear hl
  go_wp2_with fail
  obtain ⟨p1, hp1⟩ : ∃ q, rbin rmul (rvalB sa ta) (rvalB ss ts) = q := ⟨_, rfl⟩
  have HP1 := Aside0.mk hp1
  clear hp1
  obtain ⟨q1, hq1⟩ : ∃ q, rbin rmul (rvalB sb tb) (rvalB ss ts) = q := ⟨_, rfl⟩
  have HQ1 := Aside0.mk hq1
  clear hq1
  clear c_a0 c_a1 c_t0 c_t1
  refine (p_mul sa ta ss ts _ (HL.out.env HE.out)).mono ?_
  rintro e V15 ⟨rfl, hb⟩
  rw [HP1.out, ratO_parts]
  unfold ratV
  have hl := HL.out.next hb
  clear HL hb
  obtain ⟨c_p0, c_p1, f_p0, f_p1⟩ := pair_facts (hl.at 1 rfl)
  have HL := Aside0.mk hl
  clear hl
  have hl : Hq [(a_q, .cells #[.string (oS q0), .string (oT q0)] 23), (a_p, .cells #[.string (oS p1), .string (oT p1)] 23), (a_d, .cells #[.string (oS d0), .string (oT d0)] 23), (a_t, .cells #[.string ss, .string ts] 23), (a_c, .cells #[.string sc, .string tc] 23), (a_b, .cells #[.string sb, .string tb] 23), (a_a, .cells #[.string sa, .string ta] 23), (w.heap.size + 1 + 1 + 1, .cells #[.int .i64 s0, .int .i64 s1] 47), (w.heap.size + 1 + 1, .cells #[.int .i64 z0, .int .i64 z1, .int .i64 z2, .int .i64 z3] 24), (w.heap.size + 1, .cells #[.int .i64 y0, .int .i64 y1, .int .i64 y2, .int .i64 y3] 24), (w.heap.size, .cells #[.int .i64 x0, .int .i64 x1, .int .i64 x2, .int .i64 x3] 24)] w ((V15.setCell ⟨a_p, 0, none⟩ (.string (oS p1))).setCell ⟨a_p, 1, none⟩ (.string (oT p1))) := (HL.out.set 1 rfl 0 (.string (oS p1))).set 1 rfl 1 (.string (oT p1))
  clear HL
  obtain ⟨c_b0, c_b1, -, -⟩ := pair_facts (hl.at 5 rfl)
  obtain ⟨c_t0, c_t1, -, -⟩ := pair_facts (hl.at 3 rfl)
  have HL := Aside0.mk hl
  clear hl
  go_wp2_with fail
  clear c_p0 c_p1 f_p0 f_p1
  generalize (V15.setCell ⟨a_p, 0, none⟩ (.string (oS p1))).setCell ⟨a_p, 1, none⟩ (.string (oT p1)) = W16 at *
  clear c_b0 c_b1 c_t0 c_t1
  refine (p_mul sb tb ss ts _ (HL.out.env HE.out)).mono ?_
  rintro e V17 ⟨rfl, hb⟩
  rw [HQ1.out, ratO_parts]
  unfold ratV
  have hl := HL.out.next hb
  clear HL hb
  obtain ⟨c_q0, c_q1, f_q0, f_q1⟩ := pair_facts (hl.at 0 rfl)
  have HL := Aside0.mk hl
  clear hl
  have hl : Hq [(a_q, .cells #[.string (oS q1), .string (oT q1)] 23), (a_p, .cells #[.string (oS p1), .string (oT p1)] 23), (a_d, .cells #[.string (oS d0), .string (oT d0)] 23), (a_t, .cells #[.string ss, .string ts] 23), (a_c, .cells #[.string sc, .string tc] 23), (a_b, .cells #[.string sb, .string tb] 23), (a_a, .cells #[.string sa, .string ta] 23), (w.heap.size + 1 + 1 + 1, .cells #[.int .i64 s0, .int .i64 s1] 47), (w.heap.size + 1 + 1, .cells #[.int .i64 z0, .int .i64 z1, .int .i64 z2, .int .i64 z3] 24), (w.heap.size + 1, .cells #[.int .i64 y0, .int .i64 y1, .int .i64 y2, .int .i64 y3] 24), (w.heap.size, .cells #[.int .i64 x0, .int .i64 x1, .int .i64 x2, .int .i64 x3] 24)] w ((V17.setCell ⟨a_q, 0, none⟩ (.string (oS q1))).setCell ⟨a_q, 1, none⟩ (.string (oT q1))) := (HL.out.set 0 rfl 0 (.string (oS q1))).set 0 rfl 1 (.string (oT q1))
  clear HL
  have oc_q0 := c_q0
  clear c_q0
  have oc_q1 := c_q1
  clear c_q1
  have of_q0 := f_q0
  clear f_q0
  have of_q1 := f_q1
  clear f_q1
  obtain ⟨c_p0, c_p1, -, -⟩ := pair_facts (hl.at 1 rfl)
  obtain ⟨c_q0, c_q1, -, -⟩ := pair_facts (hl.at 0 rfl)
  obtain ⟨c_t0, c_t1, -, -⟩ := pair_facts (hl.at 3 rfl)
  have HL := Aside0.mk hl
  clear hl
  go_upto_region 20 with (fail)
  clear oc_q0 oc_q1 of_q0 of_q1
  generalize (V17.setCell ⟨a_q, 0, none⟩ (.string (oS q1))).setCell ⟨a_q, 1, none⟩ (.string (oT q1)) = W18 at *
  rcases oK_tests p1 with ⟨k_p1, t_p1, t_p1'⟩ | ⟨k_p1, t_p1, t_p1'⟩
  · as_aux_lemma =>
      rcases oK_tests q1 with ⟨k_q1, t_q1, t_q1'⟩ | ⟨k_q1, t_q1, t_q1'⟩
      · as_aux_lemma =>
          have hc := o_mul HVa.out HVb.out HVs.out HP1.out HQ1.out k_p1 k_q1
          rw [HM.out] at hc
          have ht := o_sgn HVs.out
          have h1 := rcmp_three qa qb
          rw [HM.out] at h1
          have h2 := rcmp_three qs 0
          generalize rcmp qs 0 = k at *
          clear k_p1 k_q1
          have HT := Aside0.mk ht
          have HC0 := Aside0.mk hc
          clear hc ht
          have HW : Aside0 (m * k = -1 ∨ m * k = 0 ∨ m * k = 1) := ⟨by rcases h1 with h1 | h1 | h1 <;> rcases h2 with h2 | h2 | h2 <;> subst h1 h2 <;> simp⟩
          have hw : IntKind.i64.wrap (m * k) = m * k := IntWalk.i64_in _ (by have := HW.out; generalize m * k = z at *; omega)
          have HC := HC0
          clear h1 h2 HM HC0 HW
          have hl := HL.out.drew
          clear HL
          have HL := Aside0.mk hl
          clear hl
          go_region_held3 (fun w' => w'.cell? ⟨a_p, 0, none⟩ = some (.string (oS p1)) ∧ w'.cell? ⟨a_p, 1, none⟩ = some (.string (oT p1)) ∧ w'.cell? ⟨a_q, 0, none⟩ = some (.string (oS q1)) ∧ w'.cell? ⟨a_q, 1, none⟩ = some (.string (oT q1)) ∧ w'.cell? ⟨a_t, 0, none⟩ = some (.string ss) ∧ w'.cell? ⟨a_t, 1, none⟩ = some (.string ts)) (first | exact ⟨c_p0, c_p1, c_q0, c_q1, c_t0, c_t1⟩ | go_keep) (first
            | (go_at_call 24; (with_reducible refine (p_is ⟨#[48]⟩ ⟨#[49]⟩ _).mono ?_); rintro e V90 ⟨rfl, hb⟩; have hl := HL.out.next hb; clear HL c_p0 c_p1 c_q0 c_q1 c_t0 c_t1; obtain ⟨c_p0, c_p1, -, -⟩ := pair_facts (hl.at 1 rfl); obtain ⟨c_q0, c_q1, -, -⟩ := pair_facts (hl.at 0 rfl); obtain ⟨c_t0, c_t1, -, -⟩ := pair_facts (hl.at 3 rfl); have HL := Aside0.mk hl; clear hb hl)
            | (go_at_call 23; (with_reducible refine (p_cmp (oS p1) (oT p1) (oS q1) (oT q1) _ (HL.out.env HE.out)).mono ?_); rintro e V90 ⟨rfl, hb⟩; have hl := HL.out.next hb; clear HL c_p0 c_p1 c_q0 c_q1 c_t0 c_t1; rw [HC.out]; obtain ⟨c_p0, c_p1, -, -⟩ := pair_facts (hl.at 1 rfl); obtain ⟨c_q0, c_q1, -, -⟩ := pair_facts (hl.at 0 rfl); obtain ⟨c_t0, c_t1, -, -⟩ := pair_facts (hl.at 3 rfl); have HL := Aside0.mk hl; clear hb hl)
            | (go_at_call 23; (with_reducible refine (p_cmp ss ts ⟨#[48]⟩ ⟨#[49]⟩ _ (HL.out.env HE.out)).mono ?_); rintro e V90 ⟨rfl, hb⟩; have hl := HL.out.next hb; clear HL c_p0 c_p1 c_q0 c_q1 c_t0 c_t1; rw [HT.out]; obtain ⟨c_p0, c_p1, -, -⟩ := pair_facts (hl.at 1 rfl); obtain ⟨c_q0, c_q1, -, -⟩ := pair_facts (hl.at 0 rfl); obtain ⟨c_t0, c_t1, -, -⟩ := pair_facts (hl.at 3 rfl); have HL := Aside0.mk hl; clear hb hl))
          all_goals
            go_wp2_with fail
            go_ret
            exact ⟨rfl, HL.out.bl⟩
      · as_aux_lemma =>
          clear k_p1 k_q1
          go_region
          all_goals
            go_wp2_with fail
            go_ret
            exact ⟨rfl, HL.out.drew.bl⟩
  · as_aux_lemma =>
      clear k_p1
      go_region
      all_goals
        go_wp2_with fail
        go_ret
        exact ⟨rfl, HL.out.drew.bl⟩

end Go.Proofs.YtnhjidbjibehpaaGreatDoor.L4

/- RationalOrder: for all arguments the law returns true, and its arguments read as they did; under the row's conditions (the package-level variables that the row lists hold what the program's text lays). The tied card. -/
namespace Go.Proofs.YtnhjidbjibehpaaGreatDoor.RationalOrderC
open Go.ChangeShapes Go.WideShapes Go.ChangeAt Go.RowKit

set_option maxRecDepth 100000 in
theorem lifted (os : Os) (started : os.Started) (H : Type) (enc : TypeId × Value → H) :
    ReturnsInHanded {} Tryz.checked os 9 .any (fun w args => (Rows.rationalOrderSpec.pre enc Tryz.prog Tryz.f9 Rows.rationalOrderRow.domain false w args ∧ laidMetH Tryz.prog lst w) ∧ sizedMet enc Tryz.prog Tryz.f9 (OpenSpec.ofChange Rows.rationalOrderSpec) false w args)
      (Rows.rationalOrderSpec.post enc Tryz.prog Tryz.f9 false true false false) := by
  refine framed (C := Tryz.checked) (X := fun w _ => laidMetH Tryz.prog lst w) (fun _ _ _ hh h => h.of_heap hh) own started (by kernel_rfl) Tryz.func9
    (ChangeSpec.witness_shaped (enc := enc) (C := Tryz.checked) (os := os) (X := fun w _ => laidMetH Tryz.prog lst w) false (World.laidAll Tryz.prog os lst) #[.agg #[.int .i64 0, .int .i64 0, .int .i64 0, .int .i64 0], .agg #[.int .i64 0, .int .i64 0, .int .i64 0, .int .i64 0], .agg #[.int .i64 0, .int .i64 0, .int .i64 0, .int .i64 0], .agg #[.int .i64 0, .int .i64 0]] 8 (World.laidAll_os _ _ _)
      (World.shaped_of_ZipB (by kernel_rfl) (by kernel_rfl)) (by kernel_rfl) (by kernel_rfl) (by kernel_rfl)
      (by rw [MakeChecks.laidMetH_plain _ _ _ (by kernel_rfl)]; exact laidMet_laidAll _ (by kernel_rfl) (by kernel_rfl))) ?_
  intro W base args ds gs before hval0 hW hsz0 hL hsh
  have hE := env_of hL hsh
  have hval : ∀ (j : Nat) t v, Tryz.f9.params[j]? = some t → args[j]? = some v → Value.okWide Tryz.prog W .any base t v := hval0
  have hW' := hW
  obtain ⟨p, q, hA0, hV, rfl, hfz, hnd⟩ := hW
  have hA : DataW.TrodAll enc Tryz.prog W 0 (fun _ => true) true Tryz.f9.params.toList args.toList ds p := hA0
  rw [Tryz.params9] at hA hval
  obtain ⟨v0, vs0, d0, ds0, p0, q0, hargs, rfl, rfl, h0, r0⟩ := trodAll_cons hA
  obtain ⟨v1, vs1, d1, ds1, p1, q1, rfl, rfl, rfl, h1, r1⟩ := trodAll_cons r0
  obtain ⟨v2, vs2, d2, ds2, p2, q2, rfl, rfl, rfl, h2, r2⟩ := trodAll_cons r1
  obtain ⟨v3, vs3, d3, ds3, p3, q3, rfl, rfl, rfl, h3, r3⟩ := trodAll_cons r2
  obtain ⟨rfl, rfl, rfl⟩ := trodAll_nil r3
  obtain rfl : args = #[v0, v1, v2, v3] := by cases args; simp_all
  obtain ⟨rfl, rfl⟩ := trodVars_none hV
  have c1 : Tryz.prog.cellsOf 3 = 1 := by kernel_rfl
  have c4 : Tryz.prog.cellsOf 24 = 4 := by kernel_rfl
  have c2 : Tryz.prog.cellsOf 47 = 2 := by kernel_rfl
  obtain ⟨a0, b0, e0, g0, rfl, rfl, rfl, w0⟩ := open_arr4 Tryz.underlying24 Tryz.underlying3 c1 c4 (hval 0 24 v0 rfl rfl) h0
  obtain ⟨a1, b1, e1, g1, rfl, rfl, rfl, w1⟩ := open_arr4 Tryz.underlying24 Tryz.underlying3 c1 c4 (hval 1 24 v1 rfl rfl) h1
  obtain ⟨a2, b2, e2, g2, rfl, rfl, rfl, w2⟩ := open_arr4 Tryz.underlying24 Tryz.underlying3 c1 c4 (hval 2 24 v2 rfl rfl) h2
  obtain ⟨a3, b3, rfl, rfl, rfl, w3⟩ := open_arr2 Tryz.underlying47 Tryz.underlying3 c1 c2 (hval 3 47 v3 rfl rfl) h3
  clear hA0 hval0 hsz0
  refine (L4.order_calls a0 b0 e0 g0 a1 b1 e1 g1 a2 b2 e2 g2 a3 b3 W hE ⟨i64_bounds w0.1, i64_bounds w0.2.1, i64_bounds w0.2.2.1, i64_bounds w0.2.2.2⟩ ⟨i64_bounds w1.1, i64_bounds w1.2.1, i64_bounds w1.2.2.1, i64_bounds w1.2.2.2⟩ ⟨i64_bounds w2.1, i64_bounds w2.2.1, i64_bounds w2.2.2.1, i64_bounds w2.2.2.2⟩ ⟨i64_bounds w3.1, i64_bounds w3.2⟩).mono fun e W' ⟨he, bel⟩ => ?_
  subst he
  exact ⟨_, rfl, _, _, _, [], _, [], hW', trodAll_mk1 (shut_bool Tryz.underlying4 _), (trodAll_cons_mk (shut_arr4 Tryz.underlying24 Tryz.underlying3 c1 c4 w0) (trodAll_cons_mk (shut_arr4 Tryz.underlying24 Tryz.underlying3 c1 c4 w1) (trodAll_cons_mk (shut_arr4 Tryz.underlying24 Tryz.underlying3 c1 c4 w2) (trodAll_cons_mk (shut_arr2 Tryz.underlying47 Tryz.underlying3 c1 c2 w3) trodAll_mk0)))), rfl, bel.frame _, fun h => by cases h⟩
theorem over : Rows.rationalOrderRow.holds Tryz.pinned (OpenSpec.ofChange Rows.rationalOrderSpec) :=
  OpenClaim.holds_of_wide 9 Tryz.f9 rfl rfl rfl rfl rfl rfl rfl ⟨rfl, rfl, rfl, rfl, rfl⟩ rfl rfl rfl rfl rfl (by kernel_rfl) Tryz.func9 (by kernel_rfl)
    (of_decide_eq_true (by kernel_rfl)) (by unfold Func.isWrapper; first | (rw [if_pos (by decide +kernel)]; kernel_rfl) | (rw [if_neg (by decide +kernel)]; exact ⟨rfl, rfl⟩))
    (fun os started H enc _ => lifted os started H enc)

theorem card : Rows.RationalOrderCardSaid :=
  Claim7.holds_tied_plain_at .later [] [.data, .data, .data, .data, .sentinel, .sentinel, .pinned] true (true, "4dc10a88129ae4622e584b13318755c8b0b35b8a8bca651b717609842bef8677") true
    over (fun _ h => by cases h) (by kernel_rfl) (fun _ h => by cases h) rationalOrder_row_tie rfl ⟨rfl, rfl⟩ (by kernel_rfl) rfl
    (fun f fn hf hfn => by
      obtain rfl : f = 9 := Option.some.inj ((show Tryz.prog.funcNamed "yardstick/yardsticklaw04.RationalOrder" = some 9 by kernel_rfl).symm.trans hf) |>.symm
      obtain rfl : fn = Tryz.f9 := (Option.some.inj (Tryz.func9.symm.trans hfn)).symm
      exact ⟨by kernel_rfl, fun j t ht => by
        rw [Tryz.params9] at ht
        have hm : t ∈ [24, 24, 24, 47] := by simpa using Array.mem_of_getElem? ht
        have hall : ([24, 24, 24, 47].all fun u => !Tryz.prog.wantsStandIn u) = true := by kernel_rfl
        exact (show Tryz.prog.wantsStandIn t = false by simpa using List.all_eq_true.1 hall t hm)⟩)
    (by kernel_rfl)
#print axioms card

end Go.Proofs.YtnhjidbjibehpaaGreatDoor.RationalOrderC
namespace Go.Proofs.YtnhjidbjibehpaaGreatDoor
/-- The card, under a short name, for the claim. -/
theorem rationalOrder_card : Rows.RationalOrderCardSaid := RationalOrderC.card
end Go.Proofs.YtnhjidbjibehpaaGreatDoor
