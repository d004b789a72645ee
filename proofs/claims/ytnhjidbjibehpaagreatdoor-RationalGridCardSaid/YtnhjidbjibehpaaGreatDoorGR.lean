/- RationalGrid, walked: the law returns true. -/
import Derived.Test.YtnhjidbjibehpaaGreatDoorZz
import Derived.Test.YtnhjidbjibehpaaGreatDoorZy
namespace Go.Proofs.YtnhjidbjibehpaaGreatDoor.L4
open Go.Shelf Go.RowKit Go.Proofs.YtnhjidbjibehpaaGreatDoorW.PrintWords Go.Proofs.YtnhjidbjibehpaaGreatDoorW.PrintLast Go.Proofs.YtnhjidbjibehpaaGreatDoorW.PrintMore Yd L3
set_option linter.unusedVariables false
set_option linter.unusedSimpArgs false
attribute [local go_sem ↓] Go.wp_at_zero Go.wp_at_succ

set_option maxRecDepth 100000 in
set_option maxHeartbeats 64000000 in
/-- RationalGrid -/
theorem grid_calls (x0 x1 x2 x3 p : Int) (w : World) (hE : Env w) (h0 : I64 x0 ∧ I64 x1 ∧ I64 x2 ∧ I64 x3) (h1 : I64 p) :
    Calls Tryz.prog 10 #[.agg #[.int .i64 x0, .int .i64 x1, .int .i64 x2, .int .i64 x3], .int .i64 p] w fun e w' => e = .returned (.bool true) ∧ Below w.heap.size w w' := by
  have HE := Aside0.mk hE
  have HB0 := Aside0.mk h0
  have HB1 := Aside0.mk h1
  have HP0 := Aside0.mk (pk_range p (n := 31) (by omega))
  clear hE h0 h1
  go_enter Tryz.func10, Tryz.ntmps10
  go_wp2_with fail
  have hl0 := ((Hq.nil w).push (.cells #[.int .i64 x0, .int .i64 x1, .int .i64 x2, .int .i64 x3] 24))
  try simp only [World.size_alloc] at hl0
  have hl : Hq [(w.heap.size, .cells #[.int .i64 x0, .int .i64 x1, .int .i64 x2, .int .i64 x3] 24)] w (w.alloc (.cells #[.int .i64 x0, .int .i64 x1, .int .i64 x2, .int .i64 x3] 24)) := hl0
  clear hl0
  have HL := Aside0.mk hl
  clear hl
  generalize (w.alloc (.cells #[.int .i64 x0, .int .i64 x1, .int .i64 x2, .int .i64 x3] 24)) = W0 at *
  refine (sane_calls _ (HL.out.env HE.out)).mono ?_
  rintro e V1 ⟨rfl, hb⟩
  have hl := HL.out.next hb
  clear HL hb
  obtain ⟨⟨c_x0, c_x1, c_x2, c_x3⟩, -⟩ := quad_facts (hl.at 0 rfl)
  have HL := Aside0.mk hl
  clear hl
  go_wp2_with fail
  clear c_x0 c_x1 c_x2 c_x3
  refine (long_calls x0 x1 x2 x3 _ HB0.out.1 HB0.out.2.1 HB0.out.2.2.1 HB0.out.2.2.2).mono ?_
  rintro e V2 ⟨⟨rr, hrr, rfl⟩, hb⟩
  have hl := HL.out.next hb
  clear HL hb
  have HR := Aside0.mk (C100_pr hrr)
  obtain ⟨sr, hsr⟩ : ∃ u, tx rr.num = u := ⟨_, rfl⟩
  obtain ⟨tr, htr⟩ : ∃ u, tx (rr.den : Int) = u := ⟨_, rfl⟩
  have HSR := Aside0.mk hsr
  have HTR := Aside0.mk htr
  rw [hsr, htr]
  clear hsr htr hrr
  replace hl := (hl.push (.cells #[.string sr, .string tr] 23))
  try simp only [World.size_alloc] at hl
  replace hl : Hq [(V2.heap.size, .cells #[.string sr, .string tr] 23), (w.heap.size, .cells #[.int .i64 x0, .int .i64 x1, .int .i64 x2, .int .i64 x3] 24)] w (V2.alloc (.cells #[.string sr, .string tr] 23)) := hl
  have HL := Aside0.mk hl
  clear hl
  go_wp2_with fail
  generalize (V2.alloc (.cells #[.string sr, .string tr] 23)) = W2 at *
  generalize V2.heap.size = a_r at *
  refine (p_pick p 31 _ HB1.out.1 HB1.out.2 (by omega)).mono ?_
  rintro e V3 ⟨rfl, hb⟩
  have hl := HL.out.next hb
  clear HL hb
  have HL := Aside0.mk hl
  clear hl
  obtain ⟨k, hk⟩ : ∃ k : Nat, pk p 31 = k := ⟨(pk p 31).toNat, by have := HP0.out; omega⟩
  have HK : Aside0 (k ≤ 30) := ⟨by have := HP0.out; omega⟩
  rw [hk]
  clear hk HP0
  go_wp2_with fail
  go_loopg [7, 8] k (fun jq v7 v8 wr => ∃ i : Nat, v7 = .string (tx (10 ^ i)) ∧ v8 = .int .i64 i ∧ i + jq = k ∧ Aside0 (Hq [(a_r, .cells #[.string sr, .string tr] 23), (w.heap.size, .cells #[.int .i64 x0, .int .i64 x1, .int .i64 x2, .int .i64 x3] 24)] w wr))
  case atStart => exact ⟨0, by rw [show (10 : Int) ^ 0 = 1 from rfl, tx_1], rfl, by omega, HL⟩
  case round =>
    clear HL
    obtain ⟨i, rfl, rfl, hi, HL⟩ := hrel
    have hk30 := HK.out
    by_cases hlt : i < k
    · as_aux_lemma =>
      have hsz := tn_size (i := i) (by omega)
      have HS := Aside0.mk (tn_step i)
      obtain ⟨s, hs⟩ : ∃ s, tx (10 ^ i) = s := ⟨_, rfl⟩
      rw [hs] at hsz HS ⊢
      clear hs
      go_wp2_with fail
      go_roundg (k - (i + 1))
      case measure => omega
      case rel => exact ⟨i + 1, by rw [← HS.out], rfl, by omega, HL⟩
    · obtain rfl : i = k := by omega
      clear hlt hi
      obtain ⟨sa, ta, sb, tb, sm, tm, sc, tc, sn, sw, tw, hgf⟩ := GF.mk' HR.out HK.out
      rw [HSR.out, HTR.out] at hgf
      have ht0 : i = 0 → tx (10 ^ i) = ⟨#[49]⟩ := fun h => by rw [h, show (10 : Int) ^ 0 = 1 from rfl, tx_1]
      obtain ⟨t, ht⟩ : ∃ t, tx (10 ^ i) = t := ⟨_, rfl⟩
      rw [ht] at hgf ht0 ⊢
      have HT0 := Aside0.mk ht0
      have HG := Aside0.mk hgf
      clear hgf ht ht0 hk30 HR HSR HTR
      have hl := HL.out
      obtain ⟨c_r0, c_r1, -, -⟩ := pair_facts (hl.at 0 rfl)
      clear hl
      go_wp2_with fail
      clear c_r0 c_r1
      refine (p_down sr tr (i : Int) _ (HL.out.env HE.out)).mono ?_
      rintro e V4 ⟨rfl, hb⟩
      rw [HG.out.da]
      unfold ratV
      have hl := HL.out.next hb
      clear HL hb
      replace hl := (hl.push (.cells #[.string sa, .string ta] 23))
      try simp only [World.size_alloc] at hl
      replace hl : Hq [(V4.heap.size, .cells #[.string sa, .string ta] 23), (a_r, .cells #[.string sr, .string tr] 23), (w.heap.size, .cells #[.int .i64 x0, .int .i64 x1, .int .i64 x2, .int .i64 x3] 24)] w (V4.alloc (.cells #[.string sa, .string ta] 23)) := hl
      obtain ⟨c_r0, c_r1, -, -⟩ := pair_facts (hl.at 1 rfl)
      have HL := Aside0.mk hl
      clear hl
      go_wp2_with fail
      generalize (V4.alloc (.cells #[.string sa, .string ta] 23)) = W4 at *
      generalize V4.heap.size = a_a at *
      clear c_r0 c_r1
      refine (p_up sr tr (i : Int) _ (HL.out.env HE.out)).mono ?_
      rintro e V5 ⟨rfl, hb⟩
      rw [HG.out.ub]
      unfold ratV
      have hl := HL.out.next hb
      clear HL hb
      replace hl := (hl.push (.cells #[.string sb, .string tb] 23))
      try simp only [World.size_alloc] at hl
      replace hl : Hq [(V5.heap.size, .cells #[.string sb, .string tb] 23), (a_a, .cells #[.string sa, .string ta] 23), (a_r, .cells #[.string sr, .string tr] 23), (w.heap.size, .cells #[.int .i64 x0, .int .i64 x1, .int .i64 x2, .int .i64 x3] 24)] w (V5.alloc (.cells #[.string sb, .string tb] 23)) := hl
      obtain ⟨c_r0, c_r1, -, -⟩ := pair_facts (hl.at 2 rfl)
      have HL := Aside0.mk hl
      clear hl
      go_wp2_with fail
      generalize (V5.alloc (.cells #[.string sb, .string tb] 23)) = W5 at *
      generalize V5.heap.size = a_b at *
      clear c_r0 c_r1
      refine (minus_calls sr tr _ (HL.out.env HE.out)).mono ?_
      rintro e V6 ⟨rfl, hb⟩
      rw [HG.out.m1, HG.out.m2]
      have hl := HL.out.next hb
      clear HL hb
      have HL := Aside0.mk hl
      clear hl
      go_wp2_with fail
      refine (p_down sm tm (i : Int) _ (HL.out.env HE.out)).mono ?_
      rintro e V7 ⟨rfl, hb⟩
      rw [HG.out.dc]
      unfold ratV
      have hl := HL.out.next hb
      clear HL hb
      replace hl := (hl.push (.cells #[.string sc, .string tc] 23))
      try simp only [World.size_alloc] at hl
      replace hl : Hq [(V7.heap.size, .cells #[.string sc, .string tc] 23), (a_b, .cells #[.string sb, .string tb] 23), (a_a, .cells #[.string sa, .string ta] 23), (a_r, .cells #[.string sr, .string tr] 23), (w.heap.size, .cells #[.int .i64 x0, .int .i64 x1, .int .i64 x2, .int .i64 x3] 24)] w (V7.alloc (.cells #[.string sc, .string tc] 23)) := hl
      obtain ⟨c_c0, c_c1, -, -⟩ := pair_facts (hl.at 0 rfl)
      obtain ⟨c_b0, c_b1, -, -⟩ := pair_facts (hl.at 1 rfl)
      obtain ⟨c_a0, c_a1, -, -⟩ := pair_facts (hl.at 2 rfl)
      obtain ⟨c_r0, c_r1, -, -⟩ := pair_facts (hl.at 3 rfl)
      have HL := Aside0.mk hl
      clear hl
      go_upto_region 12 with (fail)
      generalize (V7.alloc (.cells #[.string sc, .string tc] 23)) = W7 at *
      generalize V7.heap.size = a_c at *
      obtain ⟨m, hm⟩ : ∃ u, rcmpO (rvalB sa ta) (rvalB sr tr) = u := ⟨_, rfl⟩
      obtain ⟨n, hn⟩ : ∃ u, rcmpO (rvalB sb tb) (rvalB sr tr) = u := ⟨_, rfl⟩
      have HM := Aside0.mk hm
      have HN := Aside0.mk hn
      have hc1 := HG.out.c1
      have hc2 := HG.out.c2
      have hex := HG.out.ex
      rw [hm] at hc1 hex
      rw [hn] at hc2 hex
      have HEX := Aside0.mk hex
      have HC1 := Aside0.mk hc1
      have HC2 := Aside0.mk hc2
      clear hm hn hc1 hc2 hex
      go_cut [83] (fun v83 wc => v83 = .bool false ∧ Aside0 (Hq [(a_c, .cells #[.string sc, .string tc] 23), (a_b, .cells #[.string sb, .string tb] 23), (a_a, .cells #[.string sa, .string ta] 23), (a_r, .cells #[.string sr, .string tr] 23), (w.heap.size, .cells #[.int .i64 x0, .int .i64 x1, .int .i64 x2, .int .i64 x3] 24)] w wc))
      case first =>
        as_aux_lemma =>
          have d1 : decide (0 < m) = false := decide_eq_false (by have := HC1.out; omega)
          have d2 : decide (n < 0) = false := decide_eq_false (by have := HC2.out; omega)
          have hl := HL.out.drew
          clear HL
          have HL := Aside0.mk hl
          clear hl
          go_region_held3 (fun w' => w'.cell? ⟨a_c, 0, none⟩ = some (.string sc) ∧ w'.cell? ⟨a_c, 1, none⟩ = some (.string tc) ∧ w'.cell? ⟨a_b, 0, none⟩ = some (.string sb) ∧ w'.cell? ⟨a_b, 1, none⟩ = some (.string tb) ∧ w'.cell? ⟨a_a, 0, none⟩ = some (.string sa) ∧ w'.cell? ⟨a_a, 1, none⟩ = some (.string ta) ∧ w'.cell? ⟨a_r, 0, none⟩ = some (.string sr) ∧ w'.cell? ⟨a_r, 1, none⟩ = some (.string tr)) (first | exact ⟨c_c0, c_c1, c_b0, c_b1, c_a0, c_a1, c_r0, c_r1⟩ | go_keep) (first
            | (go_at_call 45; (with_reducible refine (minus_calls sc tc _ (HL.out.env HE.out)).mono ?_); rintro e V90 ⟨rfl, hb⟩; have hl := HL.out.next hb; clear HL c_c0 c_c1 c_b0 c_b1 c_a0 c_a1 c_r0 c_r1; rw [HG.out.n1, HG.out.n2]; obtain ⟨c_c0, c_c1, -, -⟩ := pair_facts (hl.at 0 rfl); obtain ⟨c_b0, c_b1, -, -⟩ := pair_facts (hl.at 1 rfl); obtain ⟨c_a0, c_a1, -, -⟩ := pair_facts (hl.at 2 rfl); obtain ⟨c_r0, c_r1, -, -⟩ := pair_facts (hl.at 3 rfl); have HL := Aside0.mk hl; clear hb hl)
            | (go_at_call 23; (with_reducible refine (p_cmp sa ta sr tr _ (HL.out.env HE.out)).mono ?_); rintro e V90 ⟨rfl, hb⟩; have hl := HL.out.next hb; clear HL c_c0 c_c1 c_b0 c_b1 c_a0 c_a1 c_r0 c_r1; rw [HM.out]; obtain ⟨c_c0, c_c1, -, -⟩ := pair_facts (hl.at 0 rfl); obtain ⟨c_b0, c_b1, -, -⟩ := pair_facts (hl.at 1 rfl); obtain ⟨c_a0, c_a1, -, -⟩ := pair_facts (hl.at 2 rfl); obtain ⟨c_r0, c_r1, -, -⟩ := pair_facts (hl.at 3 rfl); have HL := Aside0.mk hl; clear hb hl)
            | (go_at_call 23; (with_reducible refine (p_cmp sb tb sr tr _ (HL.out.env HE.out)).mono ?_); rintro e V90 ⟨rfl, hb⟩; have hl := HL.out.next hb; clear HL c_c0 c_c1 c_b0 c_b1 c_a0 c_a1 c_r0 c_r1; rw [HN.out]; obtain ⟨c_c0, c_c1, -, -⟩ := pair_facts (hl.at 0 rfl); obtain ⟨c_b0, c_b1, -, -⟩ := pair_facts (hl.at 1 rfl); obtain ⟨c_a0, c_a1, -, -⟩ := pair_facts (hl.at 2 rfl); obtain ⟨c_r0, c_r1, -, -⟩ := pair_facts (hl.at 3 rfl); have HL := Aside0.mk hl; clear hb hl))
          all_goals
            go_wp2_with fail
            go_meet
            case rel => exact ⟨rfl, HL⟩
      as_aux_lemma =>
      clear c_c0 c_c1 c_b0 c_b1 c_a0 c_a1 c_r0 c_r1
      obtain ⟨rfl, HL0⟩ := hcut
      clear HL
      have hl := HL0.out
      clear HL0
      generalize wc = V8 at *
      obtain ⟨c_b0, c_b1, -, -⟩ := pair_facts (hl.at 1 rfl)
      have HL := Aside0.mk hl
      clear hl
      go_wp2_with fail
      clear c_b0 c_b1
      refine (p_down sb tb (i : Int) _ (HL.out.env HE.out)).mono ?_
      rintro e V9 ⟨rfl, hb⟩
      rw [HG.out.ag]
      unfold ratV
      have hl := HL.out.next hb
      clear HL hb
      replace hl := (hl.push (.cells #[.string sb, .string tb] 23))
      try simp only [World.size_alloc] at hl
      replace hl : Hq [(V9.heap.size, .cells #[.string sb, .string tb] 23), (a_c, .cells #[.string sc, .string tc] 23), (a_b, .cells #[.string sb, .string tb] 23), (a_a, .cells #[.string sa, .string ta] 23), (a_r, .cells #[.string sr, .string tr] 23), (w.heap.size, .cells #[.int .i64 x0, .int .i64 x1, .int .i64 x2, .int .i64 x3] 24)] w (V9.alloc (.cells #[.string sb, .string tb] 23)) := hl
      obtain ⟨c_a0, c_a1, -, -⟩ := pair_facts (hl.at 3 rfl)
      have HL := Aside0.mk hl
      clear hl
      go_wp2_with fail
      generalize (V9.alloc (.cells #[.string sb, .string tb] 23)) = W9 at *
      generalize V9.heap.size = a_ag at *
      clear c_a0 c_a1
      refine (p_up sa ta (i : Int) _ (HL.out.env HE.out)).mono ?_
      rintro e V10 ⟨rfl, hb⟩
      rw [HG.out.tu]
      unfold ratV
      have hl := HL.out.next hb
      clear HL hb
      replace hl := (hl.push (.cells #[.string sa, .string ta] 23))
      try simp only [World.size_alloc] at hl
      replace hl : Hq [(V10.heap.size, .cells #[.string sa, .string ta] 23), (a_ag, .cells #[.string sb, .string tb] 23), (a_c, .cells #[.string sc, .string tc] 23), (a_b, .cells #[.string sb, .string tb] 23), (a_a, .cells #[.string sa, .string ta] 23), (a_r, .cells #[.string sr, .string tr] 23), (w.heap.size, .cells #[.int .i64 x0, .int .i64 x1, .int .i64 x2, .int .i64 x3] 24)] w (V10.alloc (.cells #[.string sa, .string ta] 23)) := hl
      obtain ⟨c_a0, c_a1, -, -⟩ := pair_facts (hl.at 4 rfl)
      have HL := Aside0.mk hl
      clear hl
      go_upto_region 16 with (fail)
      generalize (V10.alloc (.cells #[.string sa, .string ta] 23)) = W10 at *
      generalize V10.heap.size = a_tw at *
      go_cut [19, 20] (fun v19 v20 wc => ∃ a_n : Nat, v19 = .pointer (some ⟨a_n, 0, none⟩) ∧ v20 = .int .i64 0 ∧ Aside0 (Hq [(a_n, .cells #[.string sn, .string ⟨#[49]⟩] 23), (a_tw, .cells #[.string sa, .string ta] 23), (a_ag, .cells #[.string sb, .string tb] 23), (a_c, .cells #[.string sc, .string tc] 23), (a_b, .cells #[.string sb, .string tb] 23), (a_a, .cells #[.string sa, .string ta] 23), (a_r, .cells #[.string sr, .string tr] 23), (w.heap.size, .cells #[.int .i64 x0, .int .i64 x1, .int .i64 x2, .int .i64 x3] 24)] w wc))
      case first =>
        as_aux_lemma =>
          have hl := HL.out.drew
          clear HL
          have HL := Aside0.mk hl
          clear hl
          go_region_held3 (fun w' => w'.cell? ⟨a_a, 0, none⟩ = some (.string sa) ∧ w'.cell? ⟨a_a, 1, none⟩ = some (.string ta)) (first | exact ⟨c_a0, c_a1⟩ | go_keep) (first
            | (go_at_call 24; (with_reducible refine (p_is t ⟨#[49]⟩ _).mono ?_); rintro e V90 ⟨rfl, hb⟩; have hl := HL.out.next hb; clear HL c_a0 c_a1; obtain ⟨c_a0, c_a1, -, -⟩ := pair_facts (hl.bx (a_a, .cells #[.string sa, .string ta] 23) (by simp)); obtain ⟨y0, y1, yf0, yf1⟩ := pair_facts (hl.at 0 rfl); have HL := Aside0.mk hl; clear hb hl)
            | (go_at_call 24; have hpu := HL.out.push (.cells #[.string ⟨#[]⟩, .string ⟨#[]⟩] 23); (try rw [show W10.drew.heap.size = W10.heap.size from rfl] at hpu); have HNE0 := Aside0.mk (hpu.ne 5 0 (by decide) rfl rfl); have hne0 := HNE0.out; have hnf0 := Ne.symm hne0; have HPU := Aside0.mk hpu; clear hpu; (with_reducible refine (p_is t ⟨#[49]⟩ _).mono ?_); rintro e V90 ⟨rfl, hb⟩; have hl := HPU.out.next hb; clear HL HPU c_a0 c_a1; obtain ⟨c_a0, c_a1, -, -⟩ := pair_facts (hl.bx (a_a, .cells #[.string sa, .string ta] 23) (by simp)); obtain ⟨y0, y1, yf0, yf1⟩ := pair_facts (hl.at 0 rfl); have HL := Aside0.mk hl; clear hb hl)
            | (go_at_call 25; (with_reducible refine (p_mul sa ta t ⟨#[49]⟩ _ (HL.out.env HE.out)).mono ?_); rintro e V90 ⟨rfl, hb⟩; have hl := HL.out.next hb; clear HL c_a0 c_a1; rw [HG.out.mu]; unfold ratV; obtain ⟨c_a0, c_a1, -, -⟩ := pair_facts (hl.bx (a_a, .cells #[.string sa, .string ta] 23) (by simp)); obtain ⟨y0, y1, yf0, yf1⟩ := pair_facts (hl.at 0 rfl); have HL := Aside0.mk hl; clear hb hl)
            | (go_at_call 25; have hpu := HL.out.push (.cells #[.string ⟨#[]⟩, .string ⟨#[]⟩] 23); (try rw [show W10.drew.heap.size = W10.heap.size from rfl] at hpu); have HNE0 := Aside0.mk (hpu.ne 5 0 (by decide) rfl rfl); have hne0 := HNE0.out; have hnf0 := Ne.symm hne0; have HPU := Aside0.mk hpu; clear hpu; (with_reducible refine (p_mul sa ta t ⟨#[49]⟩ _ (HPU.out.env HE.out)).mono ?_); rintro e V90 ⟨rfl, hb⟩; have hl := HPU.out.next hb; clear HL HPU c_a0 c_a1; rw [HG.out.mu]; unfold ratV; obtain ⟨c_a0, c_a1, -, -⟩ := pair_facts (hl.bx (a_a, .cells #[.string sa, .string ta] 23) (by simp)); obtain ⟨y0, y1, yf0, yf1⟩ := pair_facts (hl.at 0 rfl); have HL := Aside0.mk hl; clear hb hl))
          all_goals
            go_wp2_with fail
            go_meet
            case rel => exact ⟨_, rfl, rfl, ⟨by first | exact (HL.out.push _) | exact ((HL.out.set 0 rfl 0 _).set 0 rfl 1 _)⟩⟩
      clear c_a0 c_a1
      as_aux_lemma =>
      obtain ⟨a_n, rfl, rfl, HL0⟩ := hcut
      clear HL
      have HL := HL0
      clear HL0
      generalize wc = V11 at *
      have hl := HL.out
      obtain ⟨c_a0, c_a1, -, -⟩ := pair_facts (hl.at 5 rfl)
      obtain ⟨c_b0, c_b1, -, -⟩ := pair_facts (hl.at 4 rfl)
      clear hl
      go_wp2_with fail
      clear c_a0 c_a1 c_b0 c_b1
      refine (p_sub sb tb sa ta _ (HL.out.env HE.out)).mono ?_
      rintro e V12 ⟨rfl, hb⟩
      rw [HG.out.wi]
      unfold ratV
      have hl := HL.out.next hb
      clear HL hb
      replace hl := (hl.push (.cells #[.string sw, .string tw] 23))
      try simp only [World.size_alloc] at hl
      replace hl : Hq [(V12.heap.size, .cells #[.string sw, .string tw] 23), (a_n, .cells #[.string sn, .string ⟨#[49]⟩] 23), (a_tw, .cells #[.string sa, .string ta] 23), (a_ag, .cells #[.string sb, .string tb] 23), (a_c, .cells #[.string sc, .string tc] 23), (a_b, .cells #[.string sb, .string tb] 23), (a_a, .cells #[.string sa, .string ta] 23), (a_r, .cells #[.string sr, .string tr] 23), (w.heap.size, .cells #[.int .i64 x0, .int .i64 x1, .int .i64 x2, .int .i64 x3] 24)] w (V12.alloc (.cells #[.string sw, .string tw] 23)) := hl
      obtain ⟨c_a0, c_a1, -, -⟩ := pair_facts (hl.at 6 rfl)
      obtain ⟨c_r0, c_r1, -, -⟩ := pair_facts (hl.at 7 rfl)
      have HL := Aside0.mk hl
      clear hl
      go_wp2_with fail
      generalize (V12.alloc (.cells #[.string sw, .string tw] 23)) = W12 at *
      generalize V12.heap.size = a_w at *
      clear c_a0 c_a1 c_r0 c_r1
      refine (p_cmp sa ta sr tr _ (HL.out.env HE.out)).mono ?_
      rintro e V13 ⟨rfl, hb⟩
      rw [HM.out]
      have hl := HL.out.next hb
      clear HL hb
      have HL := Aside0.mk hl
      clear hl
      go_wp2_with fail
      refine (p_is ⟨#[49]⟩ t _).mono ?_
      rintro e V14 ⟨rfl, hb⟩
      have hl := HL.out.next hb
      clear HL hb
      replace hl := (hl.push (.cells #[.string ⟨#[49]⟩, .string t] 23))
      try simp only [World.size_alloc] at hl
      replace hl : Hq [(V14.heap.size, .cells #[.string ⟨#[49]⟩, .string t] 23), (a_w, .cells #[.string sw, .string tw] 23), (a_n, .cells #[.string sn, .string ⟨#[49]⟩] 23), (a_tw, .cells #[.string sa, .string ta] 23), (a_ag, .cells #[.string sb, .string tb] 23), (a_c, .cells #[.string sc, .string tc] 23), (a_b, .cells #[.string sb, .string tb] 23), (a_a, .cells #[.string sa, .string ta] 23), (a_r, .cells #[.string sr, .string tr] 23), (w.heap.size, .cells #[.int .i64 x0, .int .i64 x1, .int .i64 x2, .int .i64 x3] 24)] w (V14.alloc (.cells #[.string ⟨#[49]⟩, .string t] 23)) := hl
      obtain ⟨c_v0, c_v1, f_v0, f_v1⟩ := pair_facts (hl.at 0 rfl)
      have HL := Aside0.mk hl
      clear hl
      go_upto_if 116 with fail
      generalize (V14.alloc (.cells #[.string ⟨#[49]⟩, .string t] 23)) = W14 at *
      generalize V14.heap.size = a_v at *
      go_cut [] (fun  wc => Aside0 (Hq [(a_v, .cells #[.string ⟨#[49]⟩, .string t] 23), (a_w, .cells #[.string sw, .string tw] 23), (a_n, .cells #[.string sn, .string ⟨#[49]⟩] 23), (a_tw, .cells #[.string sa, .string ta] 23), (a_ag, .cells #[.string sb, .string tb] 23), (a_c, .cells #[.string sc, .string tc] 23), (a_b, .cells #[.string sb, .string tb] 23), (a_a, .cells #[.string sa, .string ta] 23), (a_r, .cells #[.string sr, .string tr] 23), (w.heap.size, .cells #[.int .i64 x0, .int .i64 x1, .int .i64 x2, .int .i64 x3] 24)] w wc))
      case first =>
        as_aux_lemma =>
          by_cases hi0 : i = 0
          · have q0 : ((i : Int) == 0) = true := by rw [hi0]; rfl
            have e := HT0.out hi0
            subst e
            clear hi0
            go_wp2_with fail
            refine (p_is ⟨#[49]⟩ ⟨#[49]⟩ _).mono ?_
            rintro e V95 ⟨rfl, hb⟩
            have hl := HL.out.next hb
            clear HL hb c_v0 c_v1 f_v0 f_v1
            obtain ⟨c_v0, c_v1, f_v0, f_v1⟩ := pair_facts (hl.at 0 rfl)
            have HL := Aside0.mk hl
            clear hl
            go_wp2_with fail
            go_meet
            case rel => exact ⟨(HL.out.set 0 rfl 0 (.string ⟨#[49]⟩)).set 0 rfl 1 (.string ⟨#[49]⟩)⟩
          · have q0 : ((i : Int) == 0) = false := by rw [beq_eq_false_iff_ne]; omega
            clear hi0
            go_wp2_with fail
            go_meet
            case rel => exact HL
      as_aux_lemma =>
      clear c_v0 c_v1 f_v0 f_v1
      have HL0 := hcut
      clear HL
      have hl := HL0.out
      clear HL0
      generalize wc = V15 at *
      have HL := Aside0.mk hl
      clear hl
      have hex := HEX.out
      rcases hex with hex | hex
      · as_aux_lemma =>
          obtain ⟨rfl, rfl, rfl, rfl⟩ := hex
          have hl := HL.out
          obtain ⟨c_v0, c_v1, f_v0, f_v1⟩ := pair_facts (hl.at 0 rfl)
          clear hl
          go_wp2_with fail
          clear c_v0 c_v1 f_v0 f_v1
          refine (p_is ⟨#[48]⟩ ⟨#[49]⟩ _).mono ?_
          rintro e V26 ⟨rfl, hb⟩
          have hl := HL.out.next hb
          clear HL hb
          obtain ⟨c_v0, c_v1, f_v0, f_v1⟩ := pair_facts (hl.at 0 rfl)
          have HL := Aside0.mk hl
          clear hl
          have hl : Hq [(a_v, .cells #[.string ⟨#[48]⟩, .string ⟨#[49]⟩] 23), (a_w, .cells #[.string ⟨#[48]⟩, .string ⟨#[49]⟩] 23), (a_n, .cells #[.string sn, .string ⟨#[49]⟩] 23), (a_tw, .cells #[.string sa, .string ta] 23), (a_ag, .cells #[.string sb, .string tb] 23), (a_c, .cells #[.string sc, .string tc] 23), (a_b, .cells #[.string sb, .string tb] 23), (a_a, .cells #[.string sa, .string ta] 23), (a_r, .cells #[.string sr, .string tr] 23), (w.heap.size, .cells #[.int .i64 x0, .int .i64 x1, .int .i64 x2, .int .i64 x3] 24)] w ((V26.setCell ⟨a_v, 0, none⟩ (.string ⟨#[48]⟩)).setCell ⟨a_v, 1, none⟩ (.string ⟨#[49]⟩)) := (HL.out.set 0 rfl 0 (.string ⟨#[48]⟩)).set 0 rfl 1 (.string ⟨#[49]⟩)
          clear HL
          have oc_v0 := c_v0
          clear c_v0
          have oc_v1 := c_v1
          clear c_v1
          have of_v0 := f_v0
          clear f_v0
          have of_v1 := f_v1
          clear f_v1
          obtain ⟨c_ag0, c_ag1, -, -⟩ := pair_facts (hl.at 4 rfl)
          obtain ⟨c_b0, c_b1, -, -⟩ := pair_facts (hl.at 6 rfl)
          obtain ⟨c_tw0, c_tw1, -, -⟩ := pair_facts (hl.at 3 rfl)
          obtain ⟨c_a0, c_a1, -, -⟩ := pair_facts (hl.at 7 rfl)
          obtain ⟨c_n0, c_n1, -, -⟩ := pair_facts (hl.at 2 rfl)
          obtain ⟨c_w0, c_w1, -, -⟩ := pair_facts (hl.at 1 rfl)
          obtain ⟨c_v0, c_v1, -, -⟩ := pair_facts (hl.at 0 rfl)
          obtain ⟨c_r0, c_r1, -, -⟩ := pair_facts (hl.at 8 rfl)
          have HL := Aside0.mk hl
          clear hl
          go_wp2_with fail
          clear oc_v0 oc_v1 of_v0 of_v1
          generalize (V26.setCell ⟨a_v, 0, none⟩ (.string ⟨#[48]⟩)).setCell ⟨a_v, 1, none⟩ (.string ⟨#[49]⟩) = W27 at *
          clear c_ag0 c_ag1 c_b0 c_b1 c_tw0 c_tw1 c_a0 c_a1 c_n0 c_n1 c_w0 c_w1 c_v0 c_v1 c_r0 c_r1
          refine (p_cmp sb tb sr tr _ (HL.out.env HE.out)).mono ?_
          rintro e V28 ⟨rfl, hb⟩
          rw [HN.out]
          have hl := HL.out.next hb
          clear HL hb
          have HL := Aside0.mk hl
          clear hl
          go_wp2_with fail
          go_ret
          exact ⟨rfl, HL.out.bl⟩
      · as_aux_lemma =>
          obtain ⟨hm0, hn0, rfl, rfl⟩ := hex
          have q1 : (m == 0) = false := by rw [beq_eq_false_iff_ne]; exact hm0
          have q2 : (n == 0) = false := by rw [beq_eq_false_iff_ne]; exact hn0
          clear hm0 hn0
          have hl := HL.out
          obtain ⟨c_ag0, c_ag1, -, -⟩ := pair_facts (hl.at 4 rfl)
          obtain ⟨c_b0, c_b1, -, -⟩ := pair_facts (hl.at 6 rfl)
          obtain ⟨c_tw0, c_tw1, -, -⟩ := pair_facts (hl.at 3 rfl)
          obtain ⟨c_a0, c_a1, -, -⟩ := pair_facts (hl.at 7 rfl)
          obtain ⟨c_n0, c_n1, -, -⟩ := pair_facts (hl.at 2 rfl)
          obtain ⟨c_w0, c_w1, -, -⟩ := pair_facts (hl.at 1 rfl)
          obtain ⟨c_v0, c_v1, -, -⟩ := pair_facts (hl.at 0 rfl)
          obtain ⟨c_r0, c_r1, -, -⟩ := pair_facts (hl.at 8 rfl)
          clear hl
          go_wp2_with fail
          clear c_ag0 c_ag1 c_b0 c_b1 c_tw0 c_tw1 c_a0 c_a1 c_n0 c_n1 c_w0 c_w1 c_v0 c_v1 c_r0 c_r1
          refine (p_cmp sb tb sr tr _ (HL.out.env HE.out)).mono ?_
          rintro e V26 ⟨rfl, hb⟩
          rw [HN.out]
          have hl := HL.out.next hb
          clear HL hb
          have HL := Aside0.mk hl
          clear hl
          go_wp2_with fail
          go_ret
          exact ⟨rfl, HL.out.bl⟩

end Go.Proofs.YtnhjidbjibehpaaGreatDoor.L4

/- RationalGrid: for all arguments the law returns true, and its arguments read as they did; under the row's conditions (the package-level variables that the row lists hold what the program's text lays). The tied card. -/
namespace Go.Proofs.YtnhjidbjibehpaaGreatDoor.RationalGridC
open Go.ChangeShapes Go.WideShapes Go.ChangeAt Go.RowKit

set_option maxRecDepth 100000 in
theorem lifted (os : Os) (started : os.Started) (H : Type) (enc : TypeId × Value → H) :
    ReturnsInHanded {} Tryz.checked os 10 .any (fun w args => (Rows.rationalGridSpec.pre enc Tryz.prog Tryz.f10 Rows.rationalGridRow.domain false w args ∧ laidMetH Tryz.prog lst w) ∧ sizedMet enc Tryz.prog Tryz.f10 (OpenSpec.ofChange Rows.rationalGridSpec) false w args)
      (Rows.rationalGridSpec.post enc Tryz.prog Tryz.f10 false true false false) := by
  refine framed (C := Tryz.checked) (X := fun w _ => laidMetH Tryz.prog lst w) (fun _ _ _ hh h => h.of_heap hh) own started (by kernel_rfl) Tryz.func10
    (ChangeSpec.witness_shaped (enc := enc) (C := Tryz.checked) (os := os) (X := fun w _ => laidMetH Tryz.prog lst w) false (World.laidAll Tryz.prog os lst) #[.agg #[.int .i64 0, .int .i64 0, .int .i64 0, .int .i64 0], .int .i64 0] 8 (World.laidAll_os _ _ _)
      (World.shaped_of_ZipB (by kernel_rfl) (by kernel_rfl)) (by kernel_rfl) (by kernel_rfl) (by kernel_rfl)
      (by rw [MakeChecks.laidMetH_plain _ _ _ (by kernel_rfl)]; exact laidMet_laidAll _ (by kernel_rfl) (by kernel_rfl))) ?_
  intro W base args ds gs before hval0 hW hsz0 hL hsh
  have hE := env_of hL hsh
  have hval : ∀ (j : Nat) t v, Tryz.f10.params[j]? = some t → args[j]? = some v → Value.okWide Tryz.prog W .any base t v := hval0
  have hW' := hW
  obtain ⟨p, q, hA0, hV, rfl, hfz, hnd⟩ := hW
  have hA : DataW.TrodAll enc Tryz.prog W 0 (fun _ => true) true Tryz.f10.params.toList args.toList ds p := hA0
  rw [Tryz.params10] at hA hval
  obtain ⟨v0, vs0, d0, ds0, p0, q0, hargs, rfl, rfl, h0, r0⟩ := trodAll_cons hA
  obtain ⟨v1, vs1, d1, ds1, p1, q1, rfl, rfl, rfl, h1, r1⟩ := trodAll_cons r0
  obtain ⟨rfl, rfl, rfl⟩ := trodAll_nil r1
  obtain rfl : args = #[v0, v1] := by cases args; simp_all
  obtain ⟨rfl, rfl⟩ := trodVars_none hV
  have c1 : Tryz.prog.cellsOf 3 = 1 := by kernel_rfl
  have c4 : Tryz.prog.cellsOf 24 = 4 := by kernel_rfl
  obtain ⟨a0, b0, e0, g0, rfl, rfl, rfl, w0⟩ := open_arr4 Tryz.underlying24 Tryz.underlying3 c1 c4 (hval 0 24 v0 rfl rfl) h0
  obtain ⟨a1, rfl, rfl, rfl, w1⟩ := open_int Tryz.underlying3 (hval 1 3 v1 rfl rfl) h1
  clear hA0 hval0 hsz0
  refine (L4.grid_calls a0 b0 e0 g0 a1 W hE ⟨i64_bounds w0.1, i64_bounds w0.2.1, i64_bounds w0.2.2.1, i64_bounds w0.2.2.2⟩ (i64_bounds w1)).mono fun e W' ⟨he, bel⟩ => ?_
  subst he
  exact ⟨_, rfl, _, _, _, [], _, [], hW', trodAll_mk1 (shut_bool Tryz.underlying4 _), (trodAll_cons_mk (shut_arr4 Tryz.underlying24 Tryz.underlying3 c1 c4 w0) (trodAll_cons_mk (shut_int Tryz.underlying3 w1) trodAll_mk0)), rfl, bel.frame _, fun h => by cases h⟩
theorem over : Rows.rationalGridRow.holds Tryz.pinned (OpenSpec.ofChange Rows.rationalGridSpec) :=
  OpenClaim.holds_of_wide 10 Tryz.f10 rfl rfl rfl rfl rfl rfl rfl ⟨rfl, rfl, rfl, rfl, rfl⟩ rfl rfl rfl rfl rfl (by kernel_rfl) Tryz.func10 (by kernel_rfl)
    (of_decide_eq_true (by kernel_rfl)) (by unfold Func.isWrapper; first | (rw [if_pos (by decide +kernel)]; kernel_rfl) | (rw [if_neg (by decide +kernel)]; exact ⟨rfl, rfl⟩))
    (fun os started H enc _ => lifted os started H enc)

theorem card : Rows.RationalGridCardSaid :=
  Claim7.holds_tied_plain_at .later [] [.data, .data, .data, .data, .sentinel, .sentinel, .pinned] true (true, "4dc10a88129ae4622e584b13318755c8b0b35b8a8bca651b717609842bef8677") true
    over (fun _ h => by cases h) (by kernel_rfl) (fun _ h => by cases h) rationalGrid_row_tie rfl ⟨rfl, rfl⟩ (by kernel_rfl) rfl
    (fun f fn hf hfn => by
      obtain rfl : f = 10 := Option.some.inj ((show Tryz.prog.funcNamed "yardstick/yardsticklaw04.RationalGrid" = some 10 by kernel_rfl).symm.trans hf) |>.symm
      obtain rfl : fn = Tryz.f10 := (Option.some.inj (Tryz.func10.symm.trans hfn)).symm
      exact ⟨by kernel_rfl, fun j t ht => by
        rw [Tryz.params10] at ht
        have hm : t ∈ [24, 3] := by simpa using Array.mem_of_getElem? ht
        have hall : ([24, 3].all fun u => !Tryz.prog.wantsStandIn u) = true := by kernel_rfl
        exact (show Tryz.prog.wantsStandIn t = false by simpa using List.all_eq_true.1 hall t hm)⟩)
    (by kernel_rfl)
#print axioms card

end Go.Proofs.YtnhjidbjibehpaaGreatDoor.RationalGridC
namespace Go.Proofs.YtnhjidbjibehpaaGreatDoor
/-- The card, under a short name, for the claim. -/
theorem rationalGrid_card : Rows.RationalGridCardSaid := RationalGridC.card
end Go.Proofs.YtnhjidbjibehpaaGreatDoor
