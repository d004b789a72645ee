/- RationalLowest, walked: the law returns true. -/
import Derived.Test.YtnhjidbjibehpaaGreatDoorZz
import Derived.Test.YtnhjidbjibehpaaGreatDoorZy
namespace Go.Proofs.YtnhjidbjibehpaaGreatDoor.L4
open Go.Shelf Go.RowKit Go.Proofs.YtnhjidbjibehpaaGreatDoorW.PrintWords Go.Proofs.YtnhjidbjibehpaaGreatDoorW.PrintLast Go.Proofs.YtnhjidbjibehpaaGreatDoorW.PrintMore Yd L3
set_option linter.unusedVariables false
set_option linter.unusedSimpArgs false
attribute [local go_sem ↓] Go.wp_at_zero Go.wp_at_succ

theorem q_fromInt (z : Int) (w : World) (h : I64 z) :
    Calls Tryz.prog 20 #[.int .i64 z] w fun e w' => e = .returned (.string (tx z)) ∧ Below w.heap.size w w' := by
  obtain ⟨k, hk⟩ := (Ref.fromInt_ev z h.1 h.2).rounds
  exact Ref.yardstickref03_FromInt.calls k z _ w hk
theorem q_mul3 {x y : Int} (hx : sm x = true) (hy : sm y = true) (hz : sm (x * y) = true) (w : World) :
    Calls Tryz.prog 21 #[.string (tx x), .string (tx y)] w fun e w' => e = .returned (.tuple #[.string (tx (x * y)), .int .i64 0]) ∧ Below w.heap.size w w' := by
  obtain ⟨k, hk⟩ := (Ref.mul_ev (tx x) (tx y) (Nat.le_trans (tx_size (sm_iff.1 hx)) (by omega)) (Nat.le_trans (tx_size (sm_iff.1 hy)) (by omega))).rounds
  have e : Ref.copR (· * ·) (tx x) (tx y) = (tx (x * y), 0) := by
    unfold Ref.copR
    rw [tx_data, tx_data, ival_itoa (sm_iff.1 hx), ival_itoa (sm_iff.1 hy)]
    show Ref.cte (x * y) = _
    unfold Ref.cte
    rw [if_pos (sm_iff.1 hz)]; rfl
  rw [e] at hk
  exact Ref.yardstickref03_Mul.calls k _ _ _ _ w hk
/-- what the calls of RationalLowest give -/
structure LW (r : Rat) (z : Int) : Prop where
  s1 : sm r.num = true
  s2 : sm (r.den : Int) = true
  s3 : sm z = true
  n : sm (r.num * z) = true
  d : sm ((r.den : Int) * z) = true
  a : ratO (mkO (tx (r.num * z)).data.toList (tx ((r.den : Int) * z)).data.toList) = ratV (tx r.num) (tx r.den) 0
  b : ratO (mkO (tx r.num).data.toList (tx (r.den : Int)).data.toList) = ratV (tx r.num) (tx r.den) 0
  o : ratO (mkO (⟨#[48]⟩ : ByteArray).data.toList (tx z).data.toList) = ratV ⟨#[48]⟩ ⟨#[49]⟩ 0
  v : rvalB (tx r.num) (tx r.den) = some r
theorem mkO_tx {x y : Int} (hx : sm x = true) (hy : sm y = true) : mkO (tx x).data.toList (tx y).data.toList = mk2 x y := by
  unfold mkO
  rw [tx_data, tx_data, ival_itoa (sm_iff.1 hx), ival_itoa (sm_iff.1 hy)]
theorem LW.mk' {r : Rat} (hr : Pr 100 100 r) {z : Int} (h0 : z ≠ 0) (h1 : z.natAbs ≤ 1000000) : LW r z := by
  have hz : Pw 6 z := h1
  have s1 := hr.1.sm (by omega)
  have s2 := hr.2.sm (by omega)
  have s3 := hz.sm (by omega)
  have n := (hr.1.mul hz).sm (by omega)
  have d := (hr.2.mul hz).sm (by omega)
  have hv : rvalB (tx r.num) (tx r.den) = some r := rvalB_tx (RL_pr hr (by omega) (by omega))
  have hp := rat_pos r
  refine ⟨s1, s2, s3, n, d, ?_, ?_, ?_, hv⟩
  · rw [mkO_tx n d, mk2, if_neg (Int.mul_ne_zero (by omega) h0), Rat.divInt_mul_right h0, divInt_self_rat]; rfl
  · rw [mkO_tx s1 s2, mk2, if_neg (by omega), divInt_self_rat]; rfl
  · rw [← tx_0, mkO_tx (show sm 0 = true from sm_iff.2 DL_gt0) s3, mk2, if_neg h0, Rat.zero_divInt]
    show ratV (tx 0) (tx 1) 0 = _
    rw [tx_1]

set_option maxRecDepth 100000 in
set_option maxHeartbeats 64000000 in
/-- RationalLowest -/
theorem lowest_calls (x0 x1 x2 x3 p : Int) (sg : Bool) (w : World) (hE : Env w) (h0 : I64 x0 ∧ I64 x1 ∧ I64 x2 ∧ I64 x3) (h1 : I64 p) :
    Calls Tryz.prog 4 #[.agg #[.int .i64 x0, .int .i64 x1, .int .i64 x2, .int .i64 x3], .int .i64 p, .bool sg] w fun e w' => e = .returned (.bool true) ∧ Below w.heap.size w w' := by
  have HE := Aside0.mk hE
  have HB0 := Aside0.mk h0
  have HB1 := Aside0.mk h1
  have HP0 := Aside0.mk (pk_range p (n := 1000000) (by omega))
  clear hE h0 h1
  go_enter Tryz.func4, Tryz.ntmps4
  go_wp2_with fail
  have hl0 := ((Hq.nil w).push (.cells #[.int .i64 x0, .int .i64 x1, .int .i64 x2, .int .i64 x3] 24))
  try simp only [World.size_alloc] at hl0
  have hl : Hq [(w.heap.size, .cells #[.int .i64 x0, .int .i64 x1, .int .i64 x2, .int .i64 x3] 24)] w (w.alloc (.cells #[.int .i64 x0, .int .i64 x1, .int .i64 x2, .int .i64 x3] 24)) := hl0
  clear hl0
  have HL := Aside0.mk hl
  clear hl
  generalize (w.alloc (.cells #[.int .i64 x0, .int .i64 x1, .int .i64 x2, .int .i64 x3] 24)) = W0 at *
  refine (sane_calls _ (HL.out.env HE.out)).mono ?_
  rintro e V1 ⟨rfl, hb⟩
  have hl := HL.out.next hb
  clear HL hb
  obtain ⟨⟨c_x0, c_x1, c_x2, c_x3⟩, -⟩ := quad_facts (hl.at 0 rfl)
  have HL := Aside0.mk hl
  clear hl
  go_wp2_with fail
  clear c_x0 c_x1 c_x2 c_x3
  refine (long_calls x0 x1 x2 x3 _ HB0.out.1 HB0.out.2.1 HB0.out.2.2.1 HB0.out.2.2.2).mono ?_
  rintro e V2 ⟨⟨rr, hrr, rfl⟩, hb⟩
  have hl := HL.out.next hb
  clear HL hb
  have HR := Aside0.mk (C100_pr hrr)
  clear hrr
  replace hl := (hl.push (.cells #[.string (tx rr.num), .string (tx (rr.den : Int))] 23))
  try simp only [World.size_alloc] at hl
  replace hl : Hq [(V2.heap.size, .cells #[.string (tx rr.num), .string (tx (rr.den : Int))] 23), (w.heap.size, .cells #[.int .i64 x0, .int .i64 x1, .int .i64 x2, .int .i64 x3] 24)] w (V2.alloc (.cells #[.string (tx rr.num), .string (tx (rr.den : Int))] 23)) := hl
  have HL := Aside0.mk hl
  clear hl
  go_wp2_with fail
  generalize (V2.alloc (.cells #[.string (tx rr.num), .string (tx (rr.den : Int))] 23)) = W2 at *
  generalize V2.heap.size = a_r at *
  refine (p_pick p 1000000 _ HB1.out.1 HB1.out.2 (by omega)).mono ?_
  rintro e V3 ⟨rfl, hb⟩
  have hl := HL.out.next hb
  clear HL hb
  have HL := Aside0.mk hl
  clear hl
  generalize pk p 1000000 = k at *
  have hk := HP0.out
  go_upto_if 27 with fail
  clear hk
  go_cut [9] (fun v9 wc => ∃ z : Int, v9 = .int .i64 z ∧ Aside0 (z ≠ 0 ∧ -1000000 ≤ z ∧ z ≤ 1000000) ∧ Aside0 (Hq [(a_r, .cells #[.string (tx rr.num), .string (tx (rr.den : Int))] 23), (w.heap.size, .cells #[.int .i64 x0, .int .i64 x1, .int .i64 x2, .int .i64 x3] 24)] w wc))
  case first =>
    cases sg
    · go_wp2_with fail
      go_meet
      case rel => exact ⟨1 + k, rfl, ⟨by have := HP0.out; omega⟩, HL⟩
    · have hk := HP0.out
      go_wp2_with fail
      go_meet
      case rel => exact ⟨-(1 + k), rfl, ⟨by have := HP0.out; omega⟩, HL⟩
  obtain ⟨z, rfl, HZ, HL0⟩ := hcut
  clear HL
  have HL := HL0
  clear HL0
  generalize wc = W9 at *
  have HLW := Aside0.mk (LW.mk' HR.out (z := z) HZ.out.1 (by have := HZ.out; omega))
  go_wp2_with fail
  refine (q_fromInt z _ (by have := HZ.out; omega)).mono ?_
  rintro e V4 ⟨rfl, hb⟩
  have hl := HL.out.next hb
  clear HL hb
  obtain ⟨c_r0, c_r1, -, -⟩ := pair_facts (hl.at 0 rfl)
  have HL := Aside0.mk hl
  clear hl
  go_wp2_with fail
  clear c_r0 c_r1
  refine (q_mul3 HLW.out.s1 HLW.out.s3 HLW.out.n _).mono ?_
  rintro e V5 ⟨rfl, hb⟩
  have hl := HL.out.next hb
  clear HL hb
  obtain ⟨c_r0, c_r1, -, -⟩ := pair_facts (hl.at 0 rfl)
  have HL := Aside0.mk hl
  clear hl
  go_wp2_with fail
  clear c_r0 c_r1
  refine (q_mul3 HLW.out.s2 HLW.out.s3 HLW.out.d _).mono ?_
  rintro e V6 ⟨rfl, hb⟩
  have hl := HL.out.next hb
  clear HL hb
  have HL := Aside0.mk hl
  clear hl
  go_wp2_with fail
  refine (p_make (tx (rr.num * z)) (tx ((rr.den : Int) * z)) _ (HL.out.env HE.out)).mono ?_
  rintro e V7 ⟨rfl, hb⟩
  rw [HLW.out.a]
  unfold ratV
  have hl := HL.out.next hb
  clear HL hb
  replace hl := (hl.push (.cells #[.string (tx rr.num), .string (tx (rr.den : Int))] 23))
  try simp only [World.size_alloc] at hl
  replace hl : Hq [(V7.heap.size, .cells #[.string (tx rr.num), .string (tx (rr.den : Int))] 23), (a_r, .cells #[.string (tx rr.num), .string (tx (rr.den : Int))] 23), (w.heap.size, .cells #[.int .i64 x0, .int .i64 x1, .int .i64 x2, .int .i64 x3] 24)] w (V7.alloc (.cells #[.string (tx rr.num), .string (tx (rr.den : Int))] 23)) := hl
  obtain ⟨c_r0, c_r1, -, -⟩ := pair_facts (hl.at 1 rfl)
  have HL := Aside0.mk hl
  clear hl
  go_wp2_with fail
  generalize (V7.alloc (.cells #[.string (tx rr.num), .string (tx (rr.den : Int))] 23)) = W7 at *
  generalize V7.heap.size = a_a at *
  clear c_r0 c_r1
  refine (p_make (tx rr.num) (tx (rr.den : Int)) _ (HL.out.env HE.out)).mono ?_
  rintro e V8 ⟨rfl, hb⟩
  rw [HLW.out.b]
  unfold ratV
  have hl := HL.out.next hb
  clear HL hb
  replace hl := (hl.push (.cells #[.string (tx rr.num), .string (tx (rr.den : Int))] 23))
  try simp only [World.size_alloc] at hl
  replace hl : Hq [(V8.heap.size, .cells #[.string (tx rr.num), .string (tx (rr.den : Int))] 23), (a_a, .cells #[.string (tx rr.num), .string (tx (rr.den : Int))] 23), (a_r, .cells #[.string (tx rr.num), .string (tx (rr.den : Int))] 23), (w.heap.size, .cells #[.int .i64 x0, .int .i64 x1, .int .i64 x2, .int .i64 x3] 24)] w (V8.alloc (.cells #[.string (tx rr.num), .string (tx (rr.den : Int))] 23)) := hl
  have HL := Aside0.mk hl
  clear hl
  go_wp2_with fail
  generalize (V8.alloc (.cells #[.string (tx rr.num), .string (tx (rr.den : Int))] 23)) = W8 at *
  generalize V8.heap.size = a_b at *
  refine (p_make ⟨#[48]⟩ (tx z) _ (HL.out.env HE.out)).mono ?_
  rintro e V9 ⟨rfl, hb⟩
  rw [HLW.out.o]
  unfold ratV
  have hl := HL.out.next hb
  clear HL hb
  replace hl := (hl.push (.cells #[.string ⟨#[48]⟩, .string ⟨#[49]⟩] 23))
  try simp only [World.size_alloc] at hl
  replace hl : Hq [(V9.heap.size, .cells #[.string ⟨#[48]⟩, .string ⟨#[49]⟩] 23), (a_b, .cells #[.string (tx rr.num), .string (tx (rr.den : Int))] 23), (a_a, .cells #[.string (tx rr.num), .string (tx (rr.den : Int))] 23), (a_r, .cells #[.string (tx rr.num), .string (tx (rr.den : Int))] 23), (w.heap.size, .cells #[.int .i64 x0, .int .i64 x1, .int .i64 x2, .int .i64 x3] 24)] w (V9.alloc (.cells #[.string ⟨#[48]⟩, .string ⟨#[49]⟩] 23)) := hl
  obtain ⟨c_a0, c_a1, -, -⟩ := pair_facts (hl.at 2 rfl)
  obtain ⟨c_b0, c_b1, -, -⟩ := pair_facts (hl.at 1 rfl)
  obtain ⟨c_r0, c_r1, -, -⟩ := pair_facts (hl.at 3 rfl)
  obtain ⟨c_o0, c_o1, -, -⟩ := pair_facts (hl.at 0 rfl)
  have HL := Aside0.mk hl
  clear hl
  go_upto_region 12 with (fail)
  generalize (V9.alloc (.cells #[.string ⟨#[48]⟩, .string ⟨#[49]⟩] 23)) = W9 at *
  generalize V9.heap.size = a_o at *
  have HV : Aside0 ((rvalB (tx rr.num) (tx rr.den)).isSome = true) := ⟨by rw [HLW.out.v]; rfl⟩
  have HC : Aside0 (rcmpO (rvalB (tx rr.num) (tx rr.den)) (rvalB (tx rr.num) (tx rr.den)) = 0) := ⟨by rw [HLW.out.v]; exact rcmp_self rr⟩
  obtain ⟨pr, hpr⟩ : ∃ u, Ref.strL (rprintO (rvalB (tx rr.num) (tx rr.den))) = u := ⟨_, rfl⟩
  have HPR := Aside0.mk hpr
  clear hpr
  obtain ⟨sr, hsr⟩ : ∃ u, tx rr.num = u := ⟨_, rfl⟩
  obtain ⟨tr, htr⟩ : ∃ u, tx (rr.den : Int) = u := ⟨_, rfl⟩
  rw [hsr] at HL HV HC HPR c_a0 c_b0 c_r0
  rw [htr] at HL HV HC HPR c_a1 c_b1 c_r1
  clear hsr htr HLW HZ HR
  have hl := HL.out.drew
  clear HL
  have HL := Aside0.mk hl
  clear hl
  go_region_held3 (fun w' => w'.cell? ⟨a_a, 0, none⟩ = some (.string sr) ∧ w'.cell? ⟨a_a, 1, none⟩ = some (.string tr) ∧ w'.cell? ⟨a_b, 0, none⟩ = some (.string sr) ∧ w'.cell? ⟨a_b, 1, none⟩ = some (.string tr) ∧ w'.cell? ⟨a_r, 0, none⟩ = some (.string sr) ∧ w'.cell? ⟨a_r, 1, none⟩ = some (.string tr) ∧ w'.cell? ⟨a_o, 0, none⟩ = some (.string ⟨#[48]⟩) ∧ w'.cell? ⟨a_o, 1, none⟩ = some (.string ⟨#[49]⟩)) (first | exact ⟨c_a0, c_a1, c_b0, c_b1, c_r0, c_r1, c_o0, c_o1⟩ | go_keep) (first
    | (go_at_call 17; (with_reducible refine (p_valid sr tr _ (HL.out.env HE.out)).mono ?_); rintro e V90 ⟨rfl, hb⟩; have hl := HL.out.next hb; clear HL c_a0 c_a1 c_b0 c_b1 c_r0 c_r1 c_o0 c_o1; rw [HV.out]; obtain ⟨c_a0, c_a1, -, -⟩ := pair_facts (hl.at 2 rfl); obtain ⟨c_b0, c_b1, -, -⟩ := pair_facts (hl.at 1 rfl); obtain ⟨c_r0, c_r1, -, -⟩ := pair_facts (hl.at 3 rfl); obtain ⟨c_o0, c_o1, -, -⟩ := pair_facts (hl.at 0 rfl); have HL := Aside0.mk hl; clear hb hl)
    | (go_at_call 23; (with_reducible refine (p_cmp sr tr sr tr _ (HL.out.env HE.out)).mono ?_); rintro e V90 ⟨rfl, hb⟩; have hl := HL.out.next hb; clear HL c_a0 c_a1 c_b0 c_b1 c_r0 c_r1 c_o0 c_o1; rw [HC.out]; obtain ⟨c_a0, c_a1, -, -⟩ := pair_facts (hl.at 2 rfl); obtain ⟨c_b0, c_b1, -, -⟩ := pair_facts (hl.at 1 rfl); obtain ⟨c_r0, c_r1, -, -⟩ := pair_facts (hl.at 3 rfl); obtain ⟨c_o0, c_o1, -, -⟩ := pair_facts (hl.at 0 rfl); have HL := Aside0.mk hl; clear hb hl)
    | (go_at_call 24; (with_reducible refine (p_is ⟨#[48]⟩ ⟨#[49]⟩ _).mono ?_); rintro e V90 ⟨rfl, hb⟩; have hl := HL.out.next hb; clear HL c_a0 c_a1 c_b0 c_b1 c_r0 c_r1 c_o0 c_o1; obtain ⟨c_a0, c_a1, -, -⟩ := pair_facts (hl.at 2 rfl); obtain ⟨c_b0, c_b1, -, -⟩ := pair_facts (hl.at 1 rfl); obtain ⟨c_r0, c_r1, -, -⟩ := pair_facts (hl.at 3 rfl); obtain ⟨c_o0, c_o1, -, -⟩ := pair_facts (hl.at 0 rfl); have HL := Aside0.mk hl; clear hb hl)
    | (go_at_call 14; (with_reducible refine (p_print sr tr _ (HL.out.env HE.out)).mono ?_); rintro e V90 ⟨rfl, hb⟩; have hl := HL.out.next hb; clear HL c_a0 c_a1 c_b0 c_b1 c_r0 c_r1 c_o0 c_o1; rw [HPR.out]; obtain ⟨c_a0, c_a1, -, -⟩ := pair_facts (hl.at 2 rfl); obtain ⟨c_b0, c_b1, -, -⟩ := pair_facts (hl.at 1 rfl); obtain ⟨c_r0, c_r1, -, -⟩ := pair_facts (hl.at 3 rfl); obtain ⟨c_o0, c_o1, -, -⟩ := pair_facts (hl.at 0 rfl); have HL := Aside0.mk hl; clear hb hl))
  all_goals
    go_wp2_with fail
    go_ret
    exact ⟨rfl, HL.out.bl⟩

end Go.Proofs.YtnhjidbjibehpaaGreatDoor.L4

/- RationalLowest: for all arguments the law returns true, and its arguments read as they did; under the row's conditions (the package-level variables that the row lists hold what the program's text lays). The tied card. -/
namespace Go.Proofs.YtnhjidbjibehpaaGreatDoor.RationalLowestC
open Go.ChangeShapes Go.WideShapes Go.ChangeAt Go.RowKit

set_option maxRecDepth 100000 in
theorem lifted (os : Os) (started : os.Started) (H : Type) (enc : TypeId × Value → H) :
    ReturnsInHanded {} Tryz.checked os 4 .any (fun w args => (Rows.rationalLowestSpec.pre enc Tryz.prog Tryz.f4 Rows.rationalLowestRow.domain false w args ∧ laidMetH Tryz.prog lst w) ∧ sizedMet enc Tryz.prog Tryz.f4 (OpenSpec.ofChange Rows.rationalLowestSpec) false w args)
      (Rows.rationalLowestSpec.post enc Tryz.prog Tryz.f4 false true false false) := by
  refine framed (C := Tryz.checked) (X := fun w _ => laidMetH Tryz.prog lst w) (fun _ _ _ hh h => h.of_heap hh) own started (by kernel_rfl) Tryz.func4
    (ChangeSpec.witness_shaped (enc := enc) (C := Tryz.checked) (os := os) (X := fun w _ => laidMetH Tryz.prog lst w) false (World.laidAll Tryz.prog os lst) #[.agg #[.int .i64 0, .int .i64 0, .int .i64 0, .int .i64 0], .int .i64 0, .bool false] 8 (World.laidAll_os _ _ _)
      (World.shaped_of_ZipB (by kernel_rfl) (by kernel_rfl)) (by kernel_rfl) (by kernel_rfl) (by kernel_rfl)
      (by rw [MakeChecks.laidMetH_plain _ _ _ (by kernel_rfl)]; exact laidMet_laidAll _ (by kernel_rfl) (by kernel_rfl))) ?_
  intro W base args ds gs before hval0 hW hsz0 hL hsh
  have hE := env_of hL hsh
  have hval : ∀ (j : Nat) t v, Tryz.f4.params[j]? = some t → args[j]? = some v → Value.okWide Tryz.prog W .any base t v := hval0
  have hW' := hW
  obtain ⟨p, q, hA0, hV, rfl, hfz, hnd⟩ := hW
  have hA : DataW.TrodAll enc Tryz.prog W 0 (fun _ => true) true Tryz.f4.params.toList args.toList ds p := hA0
  rw [Tryz.params4] at hA hval
  obtain ⟨v0, vs0, d0, ds0, p0, q0, hargs, rfl, rfl, h0, r0⟩ := trodAll_cons hA
  obtain ⟨v1, vs1, d1, ds1, p1, q1, rfl, rfl, rfl, h1, r1⟩ := trodAll_cons r0
  obtain ⟨v2, vs2, d2, ds2, p2, q2, rfl, rfl, rfl, h2, r2⟩ := trodAll_cons r1
  obtain ⟨rfl, rfl, rfl⟩ := trodAll_nil r2
  obtain rfl : args = #[v0, v1, v2] := by cases args; simp_all
  obtain ⟨rfl, rfl⟩ := trodVars_none hV
  have c1 : Tryz.prog.cellsOf 3 = 1 := by kernel_rfl
  have c4 : Tryz.prog.cellsOf 24 = 4 := by kernel_rfl
  obtain ⟨a0, b0, e0, g0, rfl, rfl, rfl, w0⟩ := open_arr4 Tryz.underlying24 Tryz.underlying3 c1 c4 (hval 0 24 v0 rfl rfl) h0
  obtain ⟨a1, rfl, rfl, rfl, w1⟩ := open_int Tryz.underlying3 (hval 1 3 v1 rfl rfl) h1
  obtain ⟨a2, rfl, rfl, rfl⟩ := open_bool Tryz.underlying4 (hval 2 4 v2 rfl rfl) h2
  clear hA0 hval0 hsz0
  refine (L4.lowest_calls a0 b0 e0 g0 a1 a2 W hE ⟨i64_bounds w0.1, i64_bounds w0.2.1, i64_bounds w0.2.2.1, i64_bounds w0.2.2.2⟩ (i64_bounds w1)).mono fun e W' ⟨he, bel⟩ => ?_
  subst he
  exact ⟨_, rfl, _, _, _, [], _, [], hW', trodAll_mk1 (shut_bool Tryz.underlying4 _), (trodAll_cons_mk (shut_arr4 Tryz.underlying24 Tryz.underlying3 c1 c4 w0) (trodAll_cons_mk (shut_int Tryz.underlying3 w1) (trodAll_cons_mk (shut_bool Tryz.underlying4 a2) trodAll_mk0))), rfl, bel.frame _, fun h => by cases h⟩
theorem over : Rows.rationalLowestRow.holds Tryz.pinned (OpenSpec.ofChange Rows.rationalLowestSpec) :=
  OpenClaim.holds_of_wide 4 Tryz.f4 rfl rfl rfl rfl rfl rfl rfl ⟨rfl, rfl, rfl, rfl, rfl⟩ rfl rfl rfl rfl rfl (by kernel_rfl) Tryz.func4 (by kernel_rfl)
    (of_decide_eq_true (by kernel_rfl)) (by unfold Func.isWrapper; first | (rw [if_pos (by decide +kernel)]; kernel_rfl) | (rw [if_neg (by decide +kernel)]; exact ⟨rfl, rfl⟩))
    (fun os started H enc _ => lifted os started H enc)

theorem card : Rows.RationalLowestCardSaid :=
  Claim7.holds_tied_plain_at .later [] [.data, .data, .data, .data, .sentinel, .sentinel, .pinned] true (true, "4dc10a88129ae4622e584b13318755c8b0b35b8a8bca651b717609842bef8677") true
    over (fun _ h => by cases h) (by kernel_rfl) (fun _ h => by cases h) rationalLowest_row_tie rfl ⟨rfl, rfl⟩ (by kernel_rfl) rfl
    (fun f fn hf hfn => by
      obtain rfl : f = 4 := Option.some.inj ((show Tryz.prog.funcNamed "yardstick/yardsticklaw04.RationalLowest" = some 4 by kernel_rfl).symm.trans hf) |>.symm
      obtain rfl : fn = Tryz.f4 := (Option.some.inj (Tryz.func4.symm.trans hfn)).symm
      exact ⟨by kernel_rfl, fun j t ht => by
        rw [Tryz.params4] at ht
        have hm : t ∈ [24, 3, 4] := by simpa using Array.mem_of_getElem? ht
        have hall : ([24, 3, 4].all fun u => !Tryz.prog.wantsStandIn u) = true := by kernel_rfl
        exact (show Tryz.prog.wantsStandIn t = false by simpa using List.all_eq_true.1 hall t hm)⟩)
    (by kernel_rfl)
#print axioms card

end Go.Proofs.YtnhjidbjibehpaaGreatDoor.RationalLowestC
namespace Go.Proofs.YtnhjidbjibehpaaGreatDoor
/-- The card, under a short name, for the claim. -/
theorem rationalLowest_card : Rows.RationalLowestCardSaid := RationalLowestC.card
end Go.Proofs.YtnhjidbjibehpaaGreatDoor
