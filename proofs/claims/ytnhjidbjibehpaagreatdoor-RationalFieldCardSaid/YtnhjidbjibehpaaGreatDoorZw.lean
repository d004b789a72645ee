/- Functions of the reference, each as a plain Lean function, and that the machine's call does what it says: yardstickref03.Gcd, yardstickref03.ToInt. -/
import Derived.Test.YtnhjidbjibehpaaGreatDoorZv
import Derived.Test.YtnhjidbjibehpaaGreatDoorZs
import Derived.Test.YtnhjidbjibehpaaGreatDoorZu
namespace Go.Proofs.YtnhjidbjibehpaaGreatDoor.Ref
open Go.RowKit Go.Proofs.YtnhjidbjibehpaaGreatDoorW.PrintWords Go.Proofs.YtnhjidbjibehpaaGreatDoorW.PrintLast Go.Proofs.YtnhjidbjibehpaaGreatDoorW.PrintMore
attribute [local go_sem] max2_int max_two

set_option linter.unusedVariables false
set_option linter.unusedSimpArgs false

mutual
def yardstickref03_Gcd.j0 : Nat → ByteArray → ByteArray → Bool → Option (ByteArray × Int)
  | 0, _, _, _ => none
  | k + 1, x0, x1, x19 => if x19 = true then (some ((⟨#[]⟩ : ByteArray), 30)) else ((yardstickref03_digits.f k x0).bind fun bt344 => ((yardstickref03_digits.f k x1).bind fun bt348 => (yardstickref03_Gcd.l0 k bt344.2 bt348.2)))
def yardstickref03_Gcd.l0 : Nat → List Int → List Int → Option (ByteArray × Int)
  | 0, _, _ => none
  | k + 1, x7, x9 => if (x9.length : Int) > 0 then ((yardstickref03_divided.f k x7 x9).bind fun bt352 => (yardstickref03_Gcd.l0 k x9 bt352.2)) else ((yardstickref03_checked.f k false x7).bind fun bt358 => (some (bt358.1, bt358.2)))
end
def yardstickref03_Gcd.f (k : Nat) (a0 : ByteArray) (a1 : ByteArray) : Option (ByteArray × Int) := (yardstickref03_Valid.f k a0).bind fun t342 => (if t342 = true then ((yardstickref03_Valid.f k a1).bind fun t343 => (yardstickref03_Gcd.j0 k a0 a1 (!t343))) else (yardstickref03_Gcd.j0 k a0 a1 true))
theorem yardstickref03_Gcd.mono_l : ∀ k, (∀ y0 y1 y2, LeO (yardstickref03_Gcd.j0 k y0 y1 y2) (yardstickref03_Gcd.j0 (k + 1) y0 y1 y2)) ∧ (∀ y0 y1, LeO (yardstickref03_Gcd.l0 k y0 y1) (yardstickref03_Gcd.l0 (k + 1) y0 y1))
  | 0 => ⟨fun _ _ _ r h => by simp [yardstickref03_Gcd.j0] at h, fun _ _ r h => by simp [yardstickref03_Gcd.l0] at h⟩
  | k + 1 => by
    obtain ⟨ih0, ih1⟩ := yardstickref03_Gcd.mono_l k
    refine ⟨?_, ?_⟩
    · intro y0 y1 y2
      unfold yardstickref03_Gcd.j0
      repeat' first
      | (with_reducible exact ih0 _ _ _)
      | (with_reducible exact ih1 _ _)
      | (with_reducible exact yardstickref03_Valid.mono _ _)
      | (with_reducible exact yardstickref03_checked.mono _ _ _)
      | (with_reducible exact yardstickref03_digits.mono _ _)
      | (with_reducible exact yardstickref03_divided.mono _ _ _)
      | (with_reducible exact LeO.refl _)
      | (with_reducible exact LeO.none _)
      | (with_reducible refine LeO.ite ?_ ?_)
      | (with_reducible refine LeO.bind ?_ (fun _ => ?_))
      | exact ih0 _ _ _
      | exact ih1 _ _
      | exact yardstickref03_Valid.mono _ _
      | exact yardstickref03_checked.mono _ _ _
      | exact yardstickref03_digits.mono _ _
      | exact yardstickref03_divided.mono _ _ _
      | exact LeO.none _
      | refine LeO.ite ?_ ?_
      | refine LeO.bind ?_ (fun _ => ?_)
    · intro y0 y1
      unfold yardstickref03_Gcd.l0
      repeat' first
      | (with_reducible exact ih0 _ _ _)
      | (with_reducible exact ih1 _ _)
      | (with_reducible exact yardstickref03_Valid.mono _ _)
      | (with_reducible exact yardstickref03_checked.mono _ _ _)
      | (with_reducible exact yardstickref03_digits.mono _ _)
      | (with_reducible exact yardstickref03_divided.mono _ _ _)
      | (with_reducible exact LeO.refl _)
      | (with_reducible exact LeO.none _)
      | (with_reducible refine LeO.ite ?_ ?_)
      | (with_reducible refine LeO.bind ?_ (fun _ => ?_))
      | exact ih0 _ _ _
      | exact ih1 _ _
      | exact yardstickref03_Valid.mono _ _
      | exact yardstickref03_checked.mono _ _ _
      | exact yardstickref03_digits.mono _ _
      | exact yardstickref03_divided.mono _ _ _
      | exact LeO.none _
      | refine LeO.ite ?_ ?_
      | refine LeO.bind ?_ (fun _ => ?_)
theorem yardstickref03_Gcd.mono : ∀ a0 a1 k, LeO (yardstickref03_Gcd.f k a0 a1) (yardstickref03_Gcd.f (k + 1) a0 a1) := by
  intro a0 a1 k
  obtain ⟨ih0, ih1⟩ := yardstickref03_Gcd.mono_l k
  unfold yardstickref03_Gcd.f
  repeat' first
      | (with_reducible exact ih0 _ _ _)
      | (with_reducible exact ih1 _ _)
      | (with_reducible exact yardstickref03_Valid.mono _ _)
      | (with_reducible exact yardstickref03_checked.mono _ _ _)
      | (with_reducible exact yardstickref03_digits.mono _ _)
      | (with_reducible exact yardstickref03_divided.mono _ _ _)
      | (with_reducible exact LeO.refl _)
      | (with_reducible exact LeO.none _)
      | (with_reducible refine LeO.ite ?_ ?_)
      | (with_reducible refine LeO.bind ?_ (fun _ => ?_))
      | exact ih0 _ _ _
      | exact ih1 _ _
      | exact yardstickref03_Valid.mono _ _
      | exact yardstickref03_checked.mono _ _ _
      | exact yardstickref03_digits.mono _ _
      | exact yardstickref03_divided.mono _ _ _
      | exact LeO.none _
      | refine LeO.ite ?_ ?_
      | refine LeO.bind ?_ (fun _ => ?_)
set_option maxHeartbeats 8000000 in
set_option maxRecDepth 100000 in
theorem yardstickref03_Gcd.calls (k : Nat) (a0 : ByteArray) (a1 : ByteArray) (r1 : ByteArray) (r2 : Int) (w : World) (h : yardstickref03_Gcd.f k a0 a1 = some (r1, r2)) :
    Calls Tryz.prog 71 #[.string a0, .string a1] w fun e w' => e = .returned (.tuple #[.string r1, .int .i64 r2]) ∧ Below w.heap.size w w' := by
  have HB := Aside0.mk (Below.refl w.heap.size w)
  have H : ((yardstickref03_Valid.f k a0).bind fun t342 => (if t342 = true then ((yardstickref03_Valid.f k a1).bind fun t343 => (yardstickref03_Gcd.j0 k a0 a1 (!t343))) else (yardstickref03_Gcd.j0 k a0 a1 true))) = some (r1, r2) := h
  clear h
  have HC3 := Aside0.mk H
  clear H
  go_enter Tryz.func71, Tryz.ntmps71
  go_upto_region 1 with (fail)
  go_cut [19] (fun v19 wc => ∃ (kq : Nat) (x19_2 : Bool), v19 = .bool x19_2 ∧ Aside0 (yardstickref03_Gcd.j0 kq a0 a1 x19_2 = some (r1, r2)) ∧ Aside0 (kq ≤ k) ∧ Aside0 (Below w.heap.size w wc))
  case first =>
    have H := HC3.out
    clear HC3
    replace H := Option.bind_eq_some_iff.mp H
    obtain ⟨t342, A40, H⟩ := H
    replace H : (if t342 = true then ((yardstickref03_Valid.f k a1).bind fun t343 => (yardstickref03_Gcd.j0 k a0 a1 (!t343))) else (yardstickref03_Gcd.j0 k a0 a1 true)) = some (r1, r2) := H
    have A4 := Aside0.mk A40
    clear A40
    by_cases c5 : t342 = true
    · subst c5
      have H1 : ((yardstickref03_Valid.f k a1).bind fun t343 => (yardstickref03_Gcd.j0 k a0 a1 (!t343))) = some (r1, r2) := by rw [if_pos rfl] at H; exact H
      clear H
      have H := H1
      clear H1
      replace H := Option.bind_eq_some_iff.mp H
      obtain ⟨t343, A60, H⟩ := H
      replace H : (yardstickref03_Gcd.j0 k a0 a1 (!t343)) = some (r1, r2) := H
      have A6 := Aside0.mk A60
      clear A60
      have H' := Aside0.mk H
      clear H
      go_wp2_with (first | ((with_reducible refine gate_callee (f := 53) rfl ?_); refine goesL_ (some 13) rfl rfl Tryz.func53 (by kernel_rfl) rfl #[.string a0] rfl (by (try simp only [List.map_toArray, List.map_cons, List.map_nil]); first | done | rfl | (simp only [List.length_drop, List.length_take]; rfl)) ?_; (with_reducible refine (yardstickref03_Valid.calls k a0 true _ A4.out).mono ?_); rintro e w' ⟨rfl, ⟨nd, rfl⟩⟩; refine ⟨_, rfl, ?_⟩) | (go_at_call 53; (with_reducible refine (yardstickref03_Valid.calls k a1 t343 _ A6.out).mono ?_); rintro e w' ⟨rfl, ⟨nd, rfl⟩⟩))
      go_meet
      case rel => exact ⟨_, (!t343), (by first | rfl | (simp; done) | (simp [*]; done)), H', ⟨by first | omega | exact Nat.le_refl _⟩, ⟨by repeat (first | (with_reducible first | exact HB.out | apply below_alloc | apply pw_below_drewN | apply below_drew1) | exact HB.out)⟩⟩
    · replace c5 := Bool.eq_false_iff.mpr c5
      subst c5
      have H1 : (yardstickref03_Gcd.j0 k a0 a1 true) = some (r1, r2) := by rw [if_neg (show ¬ (false = true) by decide)] at H; exact H
      clear H
      have H := H1
      clear H1
      have H' := Aside0.mk H
      clear H
      go_wp2_with (first | ((with_reducible refine gate_callee (f := 53) rfl ?_); refine goesL_ (some 13) rfl rfl Tryz.func53 (by kernel_rfl) rfl #[.string a0] rfl (by (try simp only [List.map_toArray, List.map_cons, List.map_nil]); first | done | rfl | (simp only [List.length_drop, List.length_take]; rfl)) ?_; (with_reducible refine (yardstickref03_Valid.calls k a0 false _ A4.out).mono ?_); rintro e w' ⟨rfl, ⟨nd, rfl⟩⟩; refine ⟨_, rfl, ?_⟩))
      go_meet
      case rel => exact ⟨_, (true), (by first | rfl | (simp; done) | (simp [*]; done)), H', ⟨by first | omega | exact Nat.le_refl _⟩, ⟨by repeat (first | (with_reducible first | exact HB.out | apply below_alloc | apply pw_below_drewN | apply below_drew1) | exact HB.out)⟩⟩
  case rest =>
    clear HC3
    try clear p2
    try clear c5
    obtain ⟨kq, x19_2, rfl, HA, HJ2, HB⟩ := hcut
    cases kq with
    | zero => exact absurd HA.out (by simp [yardstickref03_Gcd.j0])
    | succ kj2 =>
      have H := HA.out
      clear HA
      simp only [yardstickref03_Gcd.j0] at H
      by_cases c7 : x19_2 = true
      · subst c7
        have H1 : (some ((⟨#[]⟩ : ByteArray), 30)) = some (r1, r2) := by rw [if_pos rfl] at H; exact H
        clear H
        have H := H1
        clear H1
        simp only [Option.some.injEq, Prod.mk.injEq] at H
        obtain ⟨rfl, rfl⟩ := H
        go_wp2
        go_ret2
        exact ⟨by first | rfl | (simp [errW_none, errW_some] <;> rfl) | (simp [*, errW_none, errW_some] <;> rfl), by repeat (first | (with_reducible first | exact HB.out | apply below_alloc | apply pw_below_drewN | apply below_drew1) | exact HB.out)⟩
      · replace c7 := Bool.eq_false_iff.mpr c7
        subst c7
        have H1 : ((yardstickref03_digits.f kj2 a0).bind fun bt344 => ((yardstickref03_digits.f kj2 a1).bind fun bt348 => (yardstickref03_Gcd.l0 kj2 bt344.2 bt348.2))) = some (r1, r2) := by rw [if_neg (show ¬ (false = true) by decide)] at H; exact H
        clear H
        have H := H1
        clear H1
        replace H := Option.bind_eq_some_iff.mp H
        obtain ⟨⟨t344, t345⟩, A80, H⟩ := H
        replace H : ((yardstickref03_digits.f kj2 a1).bind fun bt348 => (yardstickref03_Gcd.l0 kj2 t345 bt348.2)) = some (r1, r2) := H
        have A8 := Aside0.mk A80
        clear A80
        replace H := Option.bind_eq_some_iff.mp H
        obtain ⟨⟨t348, t349⟩, A90, H⟩ := H
        replace H : (yardstickref03_Gcd.l0 kj2 t345 t349) = some (r1, r2) := H
        have A9 := Aside0.mk A90
        clear A90
        have H' := Aside0.mk H
        clear H
        go_wp2_with (first | ((with_reducible refine gate_callee (f := 54) rfl ?_); refine goesL_ (some 22) rfl rfl Tryz.func54 (by kernel_rfl) rfl #[.string a0] rfl (by (try simp only [List.map_toArray, List.map_cons, List.map_nil]); first | done | rfl | (simp only [List.length_drop, List.length_take]; rfl)) ?_; (with_reducible refine (yardstickref03_digits.calls kj2 a0 t344 t345 _ A8.out).mono ?_); rintro e w10 ⟨v346, rfl, ho0, hb⟩; refine ⟨_, rfl, ?_⟩; have n0_ := Aside0.mk (Kd.R_lower ho0 (below_size (by repeat (first | (with_reducible first | exact HB.out | apply below_alloc | apply pw_below_drewN | apply below_drew1) | exact HB.out)))); have n1_ := Aside0.mk (below_step (by repeat (first | (with_reducible first | exact HB.out | apply below_alloc | apply pw_below_drewN | apply below_drew1) | exact HB.out)) hb); clear HB; have HO347 := n0_; have HB := n1_; clear n0_ n1_; (try clear hb); (try clear hb2); (try clear hk); (try clear hi); (try clear ho0)) | ((with_reducible refine gate_callee (f := 54) rfl ?_); refine goesL_ (some 27) rfl rfl Tryz.func54 (by kernel_rfl) rfl #[.string a1] rfl (by (try simp only [List.map_toArray, List.map_cons, List.map_nil]); first | done | rfl | (simp only [List.length_drop, List.length_take]; rfl)) ?_; (with_reducible refine (yardstickref03_digits.calls kj2 a1 t348 t349 _ A9.out).mono ?_); rintro e w11 ⟨v350, rfl, ho0, hb⟩; refine ⟨_, rfl, ?_⟩; have n0_ := Aside0.mk (Kd.R_elder' (by (with_reducible repeat (first | apply Kd.R_alloc | apply Kd.R_drewN | apply Kd.R_drew)); exact HO347.out) (Kd.R_base ho0) hb); have n1_ := Aside0.mk (Kd.R_lower (Kd.R_new' ho0 (Kd.R_lt (by (with_reducible repeat (first | apply Kd.R_alloc | apply Kd.R_drewN | apply Kd.R_drew)); exact HO347.out))) (below_size (by repeat (first | (with_reducible first | exact HB.out | apply below_alloc | apply pw_below_drewN | apply below_drew1) | exact HB.out)))); have n2_ := Aside0.mk (below_step (by repeat (first | (with_reducible first | exact HB.out | apply below_alloc | apply pw_below_drewN | apply below_drew1) | exact HB.out)) hb); clear HO347; clear HB; have HO347 := n0_; have HO351 := n1_; have HB := n2_; clear n0_ n1_ n2_; (try clear hb); (try clear hb2); (try clear hk); (try clear hi); (try clear ho0)))
        go_loopg [7, 9] kj2 (fun kq v7 v9 w' => ∃ (x7_2 : List Int) (x9_2 : List Int), Aside0 (yardstickref03_Gcd.l0 kq x7_2 x9_2 = some (r1, r2)) ∧ Aside0 (kq ≤ kj2) ∧ Aside0 (Kd.V (Kd.int .i64) 3 w' w.heap.size (fun _ => True) v7 x7_2) ∧ Aside0 (Kd.V (Kd.int .i64) 3 w' w.heap.size (fun _ => True) v9 x9_2) ∧ Aside0 (Below w.heap.size w w'))
        case atStart => exact ⟨(t345), (t349), H', ⟨Nat.le_refl _⟩, ⟨Kd.R_V (by (with_reducible repeat (first | apply Kd.R_alloc | apply Kd.R_drewN | apply Kd.R_drew)); exact Kd.R_mono HO347.out (fun _ hk => trivial))⟩, ⟨Kd.R_V (by (with_reducible repeat (first | apply Kd.R_alloc | apply Kd.R_drewN | apply Kd.R_drew)); exact Kd.R_mono HO351.out (fun _ hk => trivial))⟩, ⟨by repeat (first | (with_reducible first | exact HB.out | apply below_alloc | apply pw_below_drewN | apply below_drew1) | exact HB.out)⟩⟩
        case round =>
          clear H'
          try clear p2
          try clear c5
          try clear c7
          try clear p2
          obtain ⟨x7_2, x9_2, HA, HK2, HO_7, HO_9, HB⟩ := hrel
          cases gk with
          | zero => exact absurd HA.out (by simp [yardstickref03_Gcd.l0])
          | succ k2 =>
            have H := HA.out
            clear HA
            simp only [yardstickref03_Gcd.l0] at H
            by_cases c12 : (x9_2.length : Int) > 0
            · rw [if_pos c12] at H
              have c12b0 : decide (0 < (x9_2.length : Int)) = true := decide_eq_true c12
              have c12b1 : decide (0 < x9_2.length) = true := decide_eq_true (by omega)
              clear c12
              replace H := Option.bind_eq_some_iff.mp H
              obtain ⟨⟨t352, t355⟩, A130, H⟩ := H
              replace H : (yardstickref03_Gcd.l0 k2 x9_2 t355) = some (r1, r2) := H
              have A13 := Aside0.mk A130
              clear A130
              have H' := Aside0.mk H
              clear H
              obtain ⟨Ao14, co14, eo14⟩ := Kd.V_slice HO_9.out
              subst eo14
              obtain ⟨Ao15, co15, eo15⟩ := Kd.V_slice HO_7.out
              subst eo15
              go_wp2_with (first | ((with_reducible refine gate_callee (f := 92) rfl ?_); refine goesL_ (some 36) rfl rfl Tryz.func92 (by kernel_rfl) rfl #[.slice Ao15 x7_2.length co15, .slice Ao14 x9_2.length co14] rfl (by (try simp only [List.map_toArray, List.map_cons, List.map_nil]); first | done | rfl | (simp only [List.length_drop, List.length_take]; rfl)) ?_; (with_reducible refine (yardstickref03_divided.calls k2 _ _ x7_2 _ _ x9_2 t352 t355 _ ?side1 ?side2 ?side3 ?side4 A13.out).mono ?_); (case side1 => repeat (first | exact (Kd.V_reads' HO_7.out).2.2 | (with_reducible refine Kd.C_alloc ?_ _) | (with_reducible refine Kd.C_drewN ?_ _) | (with_reducible refine Kd.C_drew ?_))); (case side2 => exact (Kd.V_reads' HO_7.out).2.1); (case side3 => repeat (first | exact (Kd.V_reads' HO_9.out).2.2 | (with_reducible refine Kd.C_alloc ?_ _) | (with_reducible refine Kd.C_drewN ?_ _) | (with_reducible refine Kd.C_drew ?_))); (case side4 => exact (Kd.V_reads' HO_9.out).2.1); rintro e w16 ⟨v353, v356, rfl, ho0, ho1, hb⟩; refine ⟨_, rfl, ?_⟩; have n0_ := Aside0.mk (Kd.V_below (by (with_reducible repeat (first | apply Kd.V_alloc | apply Kd.V_drewN | apply Kd.V_drew)); exact HO_7.out) hb); have n1_ := Aside0.mk (Kd.V_below (by (with_reducible repeat (first | apply Kd.V_alloc | apply Kd.V_drewN | apply Kd.V_drew)); exact HO_9.out) hb); have n2_ := Aside0.mk (Kd.V_lower (Kd.V_mono (ok' := fun k_ => True) ho0 (fun k_ hk_ => trivial)) (below_size (by repeat (first | (with_reducible first | exact HB.out | apply below_alloc | apply pw_below_drewN | apply below_drew1) | exact HB.out)))); have n3_ := Aside0.mk (Kd.V_lower (Kd.V_mono (ok' := fun k_ => True) ho1 (fun k_ hk_ => trivial)) (below_size (by repeat (first | (with_reducible first | exact HB.out | apply below_alloc | apply pw_below_drewN | apply below_drew1) | exact HB.out)))); have n4_ := Aside0.mk (below_step (by repeat (first | (with_reducible first | exact HB.out | apply below_alloc | apply pw_below_drewN | apply below_drew1) | exact HB.out)) hb); clear HO_7; clear HO_9; clear HB; have HO_7 := n0_; have HO_9 := n1_; have HO354 := n2_; have HO357 := n3_; have HB := n4_; clear n0_ n1_ n2_ n3_ n4_; (try clear hb); (try clear hb2); (try clear hk); (try clear hi); (try clear ho0); (try clear ho1)))
              go_roundg k2
              case measure => have := HJ2.out; have := HK2.out; omega
              case rel => exact ⟨(x9_2), (t355), H', ⟨by have := HJ2.out; have := HK2.out; omega⟩, ⟨by (with_reducible repeat (first | apply Kd.V_alloc | apply Kd.V_drewN | apply Kd.V_drew)); exact HO_9.out⟩, ⟨by (with_reducible repeat (first | apply Kd.V_alloc | apply Kd.V_drewN | apply Kd.V_drew)); exact HO357.out⟩, ⟨by repeat (first | (with_reducible first | exact HB.out | apply below_alloc | apply pw_below_drewN | apply below_drew1) | exact HB.out)⟩⟩
            · rw [if_neg c12] at H
              have c12b0 : decide (0 < (x9_2.length : Int)) = false := decide_eq_false c12
              have c12b1 : decide (0 < x9_2.length) = false := decide_eq_false (by omega)
              clear c12
              replace H := Option.bind_eq_some_iff.mp H
              obtain ⟨⟨t358, t359⟩, A170, H⟩ := H
              replace H : (some (t358, t359)) = some (r1, r2) := H
              have A17 := Aside0.mk A170
              clear A170
              simp only [Option.some.injEq, Prod.mk.injEq] at H
              obtain ⟨rfl, rfl⟩ := H
              obtain ⟨Ao18, co18, eo18⟩ := Kd.V_slice HO_9.out
              subst eo18
              obtain ⟨Ao19, co19, eo19⟩ := Kd.V_slice HO_7.out
              subst eo19
              go_wp2_with (first | ((with_reducible refine gate_callee (f := 55) rfl ?_); refine goesL_ (some 42) rfl rfl Tryz.func55 (by kernel_rfl) rfl #[.bool false, .slice Ao19 x7_2.length co19] rfl (by (try simp only [List.map_toArray, List.map_cons, List.map_nil]); first | done | rfl | (simp only [List.length_drop, List.length_take]; rfl)) ?_; (with_reducible refine (yardstickref03_checked.calls k2 false _ _ x7_2 t358 t359 _ ?side1 ?side2 A17.out).mono ?_); (case side1 => repeat (first | exact (Kd.V_reads' HO_7.out).2.2 | (with_reducible refine Kd.C_alloc ?_ _) | (with_reducible refine Kd.C_drewN ?_ _) | (with_reducible refine Kd.C_drew ?_))); (case side2 => exact (Kd.V_reads' HO_7.out).2.1); rintro e w20 ⟨rfl, hb⟩; refine ⟨_, rfl, ?_⟩; have n0_ := Aside0.mk (Kd.V_below (by (with_reducible repeat (first | apply Kd.V_alloc | apply Kd.V_drewN | apply Kd.V_drew)); exact HO_7.out) hb); have n1_ := Aside0.mk (Kd.V_below (by (with_reducible repeat (first | apply Kd.V_alloc | apply Kd.V_drewN | apply Kd.V_drew)); exact HO_9.out) hb); have n2_ := Aside0.mk (below_step (by repeat (first | (with_reducible first | exact HB.out | apply below_alloc | apply pw_below_drewN | apply below_drew1) | exact HB.out)) hb); clear HO_7; clear HO_9; clear HB; have HO_7 := n0_; have HO_9 := n1_; have HB := n2_; clear n0_ n1_ n2_; (try clear hb); (try clear hb2); (try clear hk); (try clear hi)))
              go_ret2
              exact ⟨by first | rfl | (simp [errW_none, errW_some] <;> rfl) | (simp [*, errW_none, errW_some] <;> rfl), by repeat (first | (with_reducible first | exact HB.out | apply below_alloc | apply pw_below_drewN | apply below_drew1) | exact HB.out)⟩

-- NOT PRINTED: function 7 (yardsticklaw04_RationalMachine)

end Go.Proofs.YtnhjidbjibehpaaGreatDoor.Ref

/- The reference's integers: Compare, Add, Sub, Mul, Div, Gcd, FromInt, in plain numbers. -/
namespace Go.Proofs.YtnhjidbjibehpaaGreatDoor.Ref
open Go.RowKit Go.Proofs.YtnhjidbjibehpaaGreatDoorW.PrintWords Go.Proofs.YtnhjidbjibehpaaGreatDoorW.PrintLast Go.Proofs.YtnhjidbjibehpaaGreatDoorW.PrintMore Yd Go.Lib
set_option linter.unusedVariables false
set_option linter.unusedSimpArgs false

/-- both texts asked -/
theorem two_ev {α : Type} (s t : ByteArray) (hs : s.size ≤ 9223372036854775806) (ht : t.size ≤ 9223372036854775806) (g : Nat → Bool → Option α) (r : α)
    (h1 : ival s.data.toList = none ∨ ival t.data.toList = none → Ev (fun k => g k true) r) (h2 : ∀ x y, ival s.data.toList = some x → ival t.data.toList = some y → Ev (fun k => g k false) r) :
    Ev (fun k => (yardstickref03_Valid.f k s).bind fun v => if v = true then (yardstickref03_Valid.f k t).bind fun u => g k (!u) else g k true) r := by
  refine Ev.bind (f := fun k v => if v = true then (yardstickref03_Valid.f k t).bind fun u => g k (!u) else g k true) (valid_ev s hs) ?_
  rw [ivalid_iff_isSome]
  cases e1 : ival s.data.toList with
  | none => simp only [Option.isSome_none, Bool.false_eq_true, if_false]; exact h1 (.inl e1)
  | some x =>
    simp only [Option.isSome_some, if_true]
    refine Ev.bind (f := fun k u => g k (!u)) (valid_ev t ht) ?_
    rw [ivalid_iff_isSome]
    cases e2 : ival t.data.toList with
    | none => exact h1 (.inr e2)
    | some y => exact h2 x y e1 e2
theorem sgv_of (x : Int) : sgv (decide (x < 0)) x.natAbs = x := by
  unfold sgv
  by_cases h : x < 0
  · rw [decide_eq_true h, if_pos rfl]; omega
  · rw [decide_eq_false h]; simp; omega
theorem ival_lt {s : ByteArray} {x : Int} (h : ival s.data.toList = some x) : x.natAbs < DL := (ival_iff.1 h).2
theorem len200 {n : Nat} (h : n < DL) : (bd 10 n).length ≤ 200 := bd_len_DL.2 h
theorem len_add {n m : Nat} (h1 : n < DL) (h2 : m < DL) : (bd 10 (n + m)).length ≤ 201 := by
  refine bd_length_le (by omega) _ _ ?_
  rw [DL_eq] at h1 h2
  rw [Nat.pow_succ]; omega
theorem len_mulk {n m k : Nat} (h1 : n < 10 ^ k) (h2 : m < 10 ^ k) : (bd 10 (n * m)).length ≤ k + k := by
  refine bd_length_le (B := 10) (by omega) _ (k + k) ?_
  rw [Nat.pow_add]
  exact Nat.mul_lt_mul'' h1 h2
theorem len_mul {n m : Nat} (h1 : n < DL) (h2 : m < DL) : (bd 10 (n * m)).length ≤ 400 := len_mulk (k := 200) h1 h2
theorem len_sub {n m k : Nat} (h : (bd 10 n).length ≤ k) : (bd 10 (n - m)).length ≤ k := Nat.le_trans (bd_length_mono (by omega) (Nat.sub_le _ _)) h

def ccmp (s t : List UInt8) : Int := match ival s, ival t with
  | some x, some y => sgn (x - y)
  | _, _ => 0
theorem ccmp_no {s t : List UInt8} (h : ival s = none ∨ ival t = none) : ccmp s t = 0 := by
  unfold ccmp
  rcases h with h | h
  · rw [h]
  · rw [h]; cases ival s <;> rfl
theorem ccmp_yes {s t : List UInt8} {x y : Int} (h1 : ival s = some x) (h2 : ival t = some y) : ccmp s t = sgn (x - y) := by unfold ccmp; rw [h1, h2]
theorem compare_ev (s t : ByteArray) (hs : s.size ≤ 9223372036854775806) (ht : t.size ≤ 9223372036854775806) : Ev (fun k => yardstickref03_Compare.f k s t) (ccmp s.data.toList t.data.toList) := by
  unfold yardstickref03_Compare.f
  refine two_ev s t hs ht (fun k b => yardstickref03_Compare.j0 k s t b) _ (fun h => ?_) (fun x y h1 h2 => ?_)
  · apply Ev.hop
    simp only [yardstickref03_Compare.j0, if_true]
    rw [ccmp_no h]; exact Ev.now _
  · rw [ccmp_yes h1 h2]
    apply Ev.hop
    simp only [yardstickref03_Compare.j0, Bool.false_eq_true, if_false]
    refine Ev.bind (digits_ev s x h1) ?_
    refine Ev.bind (digits_ev t y h2) ?_
    have l1 := len200 (ival_lt h1)
    have l2 := len200 (ival_lt h2)
    by_cases hx : x < 0
    · by_cases hy : y < 0
      · simp only [decide_eq_true hx, decide_eq_true hy, bne_self_eq_false, Bool.false_eq_true, if_false, if_true]
        refine Ev.bind (order_ev y.natAbs x.natAbs (by omega)) ?_
        rw [show (y.natAbs : Int) - x.natAbs = x - y by omega]; exact Ev.now _
      · simp only [decide_eq_true hx, decide_eq_false hy, show (true != false) = true from rfl, if_true]
        unfold sgn; rw [if_pos (by omega)]; exact Ev.now _
    · by_cases hy : y < 0
      · simp only [decide_eq_false hx, decide_eq_true hy, show (false != true) = true from rfl, if_true, Bool.false_eq_true, if_false]
        unfold sgn; rw [if_neg (by omega), if_pos (by omega)]; exact Ev.now _
      · simp only [decide_eq_false hx, decide_eq_false hy, bne_self_eq_false, Bool.false_eq_true, if_false]
        refine Ev.bind (order_ev x.natAbs y.natAbs (by omega)) ?_
        rw [show (x.natAbs : Int) - y.natAbs = x - y by omega]; exact Ev.now _

def copR (f : Int → Int → Int) (s t : ByteArray) : ByteArray × Int := match ival s.data.toList, ival t.data.toList with
  | some x, some y => cte (f x y)
  | _, _ => (⟨#[]⟩, 30)
theorem copR_no {f : Int → Int → Int} {s t : ByteArray} (h : ival s.data.toList = none ∨ ival t.data.toList = none) : copR f s t = (⟨#[]⟩, 30) := by
  unfold copR
  rcases h with h | h
  · rw [h]
  · rw [h]; cases ival s.data.toList <;> rfl
theorem copR_yes {f : Int → Int → Int} {s t : ByteArray} {x y : Int} (h1 : ival s.data.toList = some x) (h2 : ival t.data.toList = some y) : copR f s t = cte (f x y) := by unfold copR; rw [h1, h2]
theorem sum_ev (b1 b2 : Bool) (n m : Nat) (hn : n < DL) (hm : m < DL) : Ev (fun k => yardstickref03_sum.f k b1 (bd 10 n) b2 (bd 10 m)) (cte (sgv b1 n + sgv b2 m)) := by
  have l1 := len200 hn
  have l2 := len200 hm
  unfold yardstickref03_sum.f
  by_cases hb : b1 = b2
  · subst hb
    simp only [beq_self_eq_true, if_true]
    refine Ev.bind (plus_ev n m (by omega) (by omega)) ?_
    have := checked_ev b1 (n + m) (Nat.le_trans (len_add hn hm) (by omega))
    rw [show sgv b1 (n + m) = sgv b1 n + sgv b1 m by unfold sgv; cases b1 <;> simp <;> omega] at this
    exact Ev.bind this (Ev.now _)
  · have hb' : (b1 == b2) = false := by simpa using hb
    simp only [hb', Bool.false_eq_true, if_false]
    refine Ev.bind (order_ev n m (by omega)) ?_
    by_cases hge : m ≤ n
    · have hs : sgn ((n : Int) - m) ≥ 0 := by unfold sgn; split <;> (try split) <;> omega
      simp only [if_pos hs]
      refine Ev.bind (minus_ev n m hge (by omega)) ?_
      have := checked_ev b1 (n - m) (len_sub (Nat.le_trans l1 (by omega)))
      rw [show sgv b1 (n - m) = sgv b1 n + sgv b2 m by unfold sgv; cases b1 <;> cases b2 <;> simp at hb ⊢ <;> omega] at this
      exact Ev.bind this (Ev.now _)
    · have hs : ¬ sgn ((n : Int) - m) ≥ 0 := by unfold sgn; rw [if_pos (by omega)]; omega
      simp only [if_neg hs]
      refine Ev.bind (minus_ev m n (by omega) (by omega)) ?_
      have := checked_ev b2 (m - n) (len_sub (Nat.le_trans l2 (by omega)))
      rw [show sgv b2 (m - n) = sgv b1 n + sgv b2 m by unfold sgv; cases b1 <;> cases b2 <;> simp at hb ⊢ <;> omega] at this
      exact Ev.bind this (Ev.now _)
theorem sub_ev (s t : ByteArray) (hs : s.size ≤ 9223372036854775806) (ht : t.size ≤ 9223372036854775806) : Ev (fun k => yardstickref03_Sub.f k s t) (copR (· - ·) s t) := by
  unfold yardstickref03_Sub.f
  refine two_ev s t hs ht (fun k b => yardstickref03_Sub.j0 k s t b) _ (fun h => ?_) (fun x y h1 h2 => ?_)
  · apply Ev.hop
    simp only [yardstickref03_Sub.j0, if_true]
    rw [copR_no h]; exact Ev.now _
  · rw [copR_yes h1 h2]
    apply Ev.hop
    simp only [yardstickref03_Sub.j0, Bool.false_eq_true, if_false]
    refine Ev.bind (digits_ev s x h1) ?_
    refine Ev.bind (digits_ev t y h2) ?_
    have := sum_ev (decide (x < 0)) (!decide (y < 0)) x.natAbs y.natAbs (ival_lt h1) (ival_lt h2)
    rw [sgv_of, show sgv (!decide (y < 0)) y.natAbs = -y by have := sgv_of y; unfold sgv at this ⊢; cases h : decide (y < 0) <;> simp [h] at this ⊢ <;> omega, ← Int.sub_eq_add_neg] at this
    exact Ev.bind this (Ev.now _)
theorem mul_ev (s t : ByteArray) (hs : s.size ≤ 9223372036854775806) (ht : t.size ≤ 9223372036854775806) : Ev (fun k => yardstickref03_Mul.f k s t) (copR (· * ·) s t) := by
  unfold yardstickref03_Mul.f
  refine two_ev s t hs ht (fun k b => yardstickref03_Mul.j0 k s t b) _ (fun h => ?_) (fun x y h1 h2 => ?_)
  · apply Ev.hop
    simp only [yardstickref03_Mul.j0, if_true]
    rw [copR_no h]; exact Ev.now _
  · rw [copR_yes h1 h2]
    apply Ev.hop
    simp only [yardstickref03_Mul.j0, Bool.false_eq_true, if_false]
    refine Ev.bind (digits_ev s x h1) ?_
    refine Ev.bind (digits_ev t y h2) ?_
    have l1 := len200 (ival_lt h1)
    have l2 := len200 (ival_lt h2)
    refine Ev.bind (times_ev x.natAbs y.natAbs (by omega) (by omega)) ?_
    have := checked_ev (decide (x < 0) != decide (y < 0)) (x.natAbs * y.natAbs) (Nat.le_trans (len_mul (ival_lt h1) (ival_lt h2)) (by omega))
    rw [show sgv (decide (x < 0) != decide (y < 0)) (x.natAbs * y.natAbs) = x * y by
      have e1 := sgv_of x
      have e2 := sgv_of y
      conv => rhs; rw [← e1, ← e2]
      generalize decide (x < 0) = b1
      generalize decide (y < 0) = b2
      unfold sgv
      cases b1 <;> cases b2 <;> simp [Int.neg_mul, Int.mul_neg]] at this
    exact Ev.bind this (Ev.now _)

def cdivR (s t : ByteArray) : ByteArray × ByteArray × Int := match ival s.data.toList, ival t.data.toList with
  | some x, some y => if y = 0 then (⟨#[]⟩, ⟨#[]⟩, 30) else (itx (x / y), itx (x % y), 0)
  | _, _ => (⟨#[]⟩, ⟨#[]⟩, 30)
theorem cdivR_no {s t : ByteArray} (h : ival s.data.toList = none ∨ ival t.data.toList = none) : cdivR s t = (⟨#[]⟩, ⟨#[]⟩, 30) := by
  unfold cdivR
  rcases h with h | h
  · rw [h]
  · rw [h]; cases ival s.data.toList <;> rfl
theorem div_parts (x y : Int) (hy : y ≠ 0) (b : Bool) (hb : b = decide (y < 0)) :
    (0 ≤ x → sgv b (x.natAbs / y.natAbs) = x / y ∧ ((x.natAbs % y.natAbs : Nat) : Int) = x % y) ∧
    (x < 0 → x.natAbs % y.natAbs = 0 → sgv (!b) (x.natAbs / y.natAbs) = x / y ∧ x % y = 0) ∧
    (x < 0 → x.natAbs % y.natAbs ≠ 0 → sgv (!b) (x.natAbs / y.natAbs + 1) = x / y ∧ ((y.natAbs - x.natAbs % y.natAbs : Nat) : Int) = x % y) := by
  have hm : 0 < y.natAbs := by omega
  have hlt := Nat.mod_lt x.natAbs hm
  have hdm := Nat.div_add_mod x.natAbs y.natAbs
  have hsgn : y = if b then -(y.natAbs : Int) else (y.natAbs : Int) := by
    subst hb
    by_cases h : y < 0
    · rw [decide_eq_true h, if_pos rfl]; omega
    · rw [decide_eq_false h]; simp; omega
  have q : x / y = if b then -(x / (y.natAbs : Int)) else x / (y.natAbs : Int) := by
    conv => lhs; rw [hsgn]
    cases b <;> simp
  have r : x % y = x % (y.natAbs : Int) := by
    conv => lhs; rw [hsgn]
    cases b <;> simp
  rw [q, r]
  generalize y.natAbs = m at *
  generalize hn : x.natAbs = n at *
  refine ⟨fun h0 => ?_, fun h0 hr => ?_, fun h0 hr => ?_⟩
  · have e : x = (n : Int) := by omega
    rw [e, ← Int.natCast_ediv, ← Int.natCast_emod]
    exact ⟨by unfold sgv; cases b <;> rfl, rfl⟩
  · have e : x = -((n / m : Nat) : Int) * m := by
      have : ((m * (n / m) : Nat) : Int) = n := by omega
      rw [Int.natCast_mul] at this
      rw [Int.neg_mul, Int.mul_comm]; omega
    have e1 : x / (m : Int) = -((n / m : Nat) : Int) := by rw [e]; exact Int.mul_ediv_cancel _ (by omega)
    have e2 : x % (m : Int) = 0 := by rw [e]; exact Int.mul_emod_left _ _
    rw [e1, e2]
    exact ⟨by unfold sgv; cases b <;> simp, rfl⟩
  · have e : x = ((m - n % m : Nat) : Int) + (m : Int) * -(((n / m + 1 : Nat)) : Int) := by
      have : ((m * (n / m) + n % m : Nat) : Int) = n := by omega
      rw [Int.natCast_add, Int.natCast_mul] at this
      rw [Int.mul_neg, Int.natCast_add, Int.mul_add]; omega
    have e1 : x / (m : Int) = -((n / m + 1 : Nat) : Int) := by
      rw [e, Int.add_mul_ediv_left _ _ (by omega), Int.ediv_eq_zero_of_lt (by omega) (by omega), Int.zero_add]
    have e2 : x % (m : Int) = ((m - n % m : Nat) : Int) := by
      rw [e, Int.add_mul_emod_self_left, Int.emod_eq_of_lt (by omega) (by omega)]
    rw [e1, e2]
    exact ⟨by unfold sgv; cases b <;> simp, rfl⟩
theorem itoa_zero_iff (x : Int) : itoa x = [48] ↔ x = 0 := ⟨fun h => itoa_inj (h.trans itoa_zero.symm), fun h => by rw [h, itoa_zero]⟩
theorem div_fin (b1 b2 : Bool) (Q R : Nat) (z r : Int) (hz : sgv (b1 != b2) Q = z) (hr : (R : Int) = r) (hQ : Q < DL) (hR : R < DL) : Ev (fun k => yardstickref03_Div.j2 k b1 b2 (bd 10 Q) (bd 10 R)) (itx z, itx r, 0) := by
  apply Ev.hop
  simp only [yardstickref03_Div.j2]
  have h1 := checked_ev (b1 != b2) Q (Nat.le_trans (len200 hQ) (by omega))
  have h2 := text_ev false R (Nat.le_trans (len200 hR) (by omega))
  rw [hz, show cte z = (itx z, 0) by unfold cte; rw [if_pos (by rw [← hz, sgv_abs]; exact hQ)]] at h1
  rw [show sgv false R = r from hr] at h2
  refine Ev.bind h1 ?_
  refine Ev.bind h2 ?_
  simp only [if_true]; exact Ev.now _
theorem div_ev (s t : ByteArray) (hs : s.size ≤ 9223372036854775806) (ht : t.size ≤ 9223372036854775806) : Ev (fun k => yardstickref03_Div.f k s t) (cdivR s t) := by
  unfold yardstickref03_Div.f
  have bad : cdivR s t = (⟨#[]⟩, ⟨#[]⟩, 30) → Ev (fun k => yardstickref03_Div.j0 k s t true) (cdivR s t) := by
    intro h
    apply Ev.hop
    simp only [yardstickref03_Div.j0, if_true]
    rw [h]; exact Ev.now _
  refine Ev.bind (valid_ev s hs) ?_
  rw [ivalid_iff_isSome]
  cases h1 : ival s.data.toList with
  | none => simp only [Option.isSome_none, Bool.false_eq_true, if_false]; exact bad (cdivR_no (.inl h1))
  | some x =>
    simp only [Option.isSome_some, if_true]
    refine Ev.bind (valid_ev t ht) ?_
    rw [ivalid_iff_isSome]
    cases h2 : ival t.data.toList with
    | none => simp only [Option.isSome_none, Bool.false_eq_true, if_false]; exact bad (cdivR_no (.inr h2))
    | some y =>
      simp only [Option.isSome_some, if_true]
      have ht' : t.data.toList = itoa y := (ival_iff.1 h2).1
      by_cases hy : y = 0
      · have e : (t.toList == [48]) = true := by rw [tl_data, ht', hy, itoa_zero]; rfl
        simp only [e]
        exact bad (by unfold cdivR; rw [h1, h2]; exact if_pos hy)
      · have e : (t.toList == [48]) = false := by
          rw [tl_data, ht', beq_eq_false_iff_ne]; exact fun h => hy ((itoa_zero_iff y).1 h)
        have er : cdivR s t = (itx (x / y), itx (x % y), 0) := by unfold cdivR; rw [h1, h2]; exact if_neg hy
        simp only [e]
        rw [er]
        apply Ev.hop
        simp only [yardstickref03_Div.j0, Bool.false_eq_true, if_false]
        refine Ev.bind (digits_ev s x h1) ?_
        refine Ev.bind (digits_ev t y h2) ?_
        have l1 := len200 (ival_lt h1)
        have l2 := len200 (ival_lt h2)
        have hm0 : 0 < y.natAbs := by omega
        refine Ev.bind (divided_ev x.natAbs y.natAbs hm0 (by omega) (by omega)) ?_
        obtain ⟨p1, p2, p3⟩ := div_parts x y hy _ rfl
        have hlt := Nat.mod_lt x.natAbs hm0
        have hq : x.natAbs / y.natAbs < DL := Nat.lt_of_le_of_lt (Nat.div_le_self _ _) (ival_lt h1)
        have hy' := ival_lt h2
        by_cases hx : x < 0
        · simp only [decide_eq_true hx, if_true]
          by_cases hr : x.natAbs % y.natAbs = 0
          · obtain ⟨a1, a2⟩ := p2 hx hr
            have hl : decide (((bd 10 (x.natAbs % y.natAbs)).length : Int) > 0) = false := by rw [hr, bd_zero]; rfl
            simp only [hl]
            apply Ev.hop
            simp only [yardstickref03_Div.j1, Bool.false_eq_true, if_false]
            exact div_fin true _ _ _ _ _ (by rw [← a1]; cases decide (y < 0) <;> rfl) (by rw [a2, hr]; rfl) hq (by omega)
          · obtain ⟨a1, a2⟩ := p3 hx hr
            have hp := bd_len_pos (B := 10) (by omega) (show 0 < x.natAbs % y.natAbs by omega)
            have hl : decide (((bd 10 (x.natAbs % y.natAbs)).length : Int) > 0) = true := decide_eq_true (by omega)
            simp only [hl]
            apply Ev.hop
            simp only [yardstickref03_Div.j1, if_true]
            have h11 : ([1] : List Int) = bd 10 1 := by rw [bd_pos (by omega) (by omega), Nat.div_eq_of_lt (by omega), bd_zero]; rfl
            rw [h11]
            have lq := len200 hq
            refine Ev.bind (plus_ev (x.natAbs / y.natAbs) 1 (by omega) (by rw [← h11]; simp)) ?_
            refine Ev.bind (minus_ev y.natAbs (x.natAbs % y.natAbs) (by omega) (by omega)) ?_
            refine div_fin true _ _ _ _ _ (by rw [← a1]; cases decide (y < 0) <;> rfl) a2 ?_ (by omega)
            have : x.natAbs / y.natAbs + 1 ≤ x.natAbs := by
              rcases Nat.lt_or_ge 1 y.natAbs with h | h
              · have : x.natAbs / y.natAbs < x.natAbs := Nat.div_lt_self (by omega) h
                omega
              · exfalso
                have h1 : y.natAbs = 1 := by omega
                rw [h1, Nat.mod_one] at hr
                exact hr rfl
            have := ival_lt h1
            omega
        · simp only [decide_eq_false hx, Bool.false_eq_true, if_false]
          obtain ⟨a1, a2⟩ := p1 (by omega)
          apply Ev.hop
          simp only [yardstickref03_Div.j1, Bool.false_eq_true, if_false]
          exact div_fin false _ _ _ _ _ (by rw [← a1]; cases decide (y < 0) <;> rfl) a2 hq (by omega)
def cgcd (x y : Int) : Int := (Nat.gcd x.natAbs y.natAbs : Int)
theorem gcd_l0 : ∀ m n : Nat, n < DL → m < DL → Ev (fun k => yardstickref03_Gcd.l0 k (bd 10 n) (bd 10 m)) (cte ((Nat.gcd n m : Nat) : Int)) := by
  intro m
  induction m using Nat.strongRecOn with
  | _ m ih =>
    intro n hn hm
    have l1 := len200 hn
    have l2 := len200 hm
    apply Ev.hop
    by_cases h0 : m = 0
    · subst h0
      simp only [yardstickref03_Gcd.l0, bd_zero, List.length_nil, show ¬ (((0 : Nat) : Int) > 0) by omega, if_false]
      have := checked_ev false n (by omega)
      rw [show sgv false n = (n : Int) from rfl] at this
      rw [Nat.gcd_zero_right]
      exact Ev.bind this (Ev.now _)
    · have hp := bd_len_pos (B := 10) (by omega) (show 0 < m by omega)
      simp only [yardstickref03_Gcd.l0, if_pos (show ((bd 10 m).length : Int) > 0 by omega)]
      refine Ev.bind (divided_ev n m (by omega) (by omega) (by omega)) ?_
      have hlt := Nat.mod_lt n (show m > 0 by omega)
      have := ih (n % m) hlt m hm (by omega)
      rw [show Nat.gcd n m = Nat.gcd m (n % m) by rw [Nat.gcd_comm, Nat.gcd_rec, Nat.gcd_comm]]
      exact this
theorem gcd_ev (s t : ByteArray) (hs : s.size ≤ 9223372036854775806) (ht : t.size ≤ 9223372036854775806) : Ev (fun k => yardstickref03_Gcd.f k s t) (copR cgcd s t) := by
  unfold yardstickref03_Gcd.f
  refine two_ev s t hs ht (fun k b => yardstickref03_Gcd.j0 k s t b) _ (fun h => ?_) (fun x y h1 h2 => ?_)
  · apply Ev.hop
    simp only [yardstickref03_Gcd.j0, if_true]
    rw [copR_no h]; exact Ev.now _
  · rw [copR_yes h1 h2]
    apply Ev.hop
    simp only [yardstickref03_Gcd.j0, Bool.false_eq_true, if_false]
    refine Ev.bind (digits_ev s x h1) ?_
    refine Ev.bind (digits_ev t y h2) ?_
    exact gcd_l0 _ _ (ival_lt h1) (ival_lt h2)

theorem tdm10 (m : Int) : (0 ≤ m ∧ Int.tdiv m 10 = m / 10 ∧ Int.tmod m 10 = m % 10) ∨ (m < 0 ∧ Int.tdiv m 10 = -((-m) / 10) ∧ Int.tmod m 10 = -((-m) % 10)) := by
  by_cases h : 0 ≤ m
  · exact .inl ⟨h, Int.tdiv_eq_ediv_of_nonneg h, Int.tmod_eq_emod_of_nonneg h⟩
  · refine .inr ⟨by omega, ?_, ?_⟩
    · have := Int.neg_tdiv (a := -m) (b := 10)
      rw [Int.neg_neg] at this
      rw [this, Int.tdiv_eq_ediv_of_nonneg (by omega)]
    · have := Int.neg_tmod (a := -m) (b := 10)
      rw [Int.neg_neg] at this
      rw [this, Int.tmod_eq_emod_of_nonneg (by omega)]
theorem fromInt_l0 (n : Int) (hn : n.natAbs ≤ 9223372036854775808) : ∀ (a : Nat) (m : Int) (o : List Int), m.natAbs = a → m.natAbs ≤ 9223372036854775808 → o.length ≤ 1000 → o ++ bd 10 m.natAbs = bd 10 n.natAbs → (m < 0 → n < 0) →
    Ev (fun k => yardstickref03_FromInt.l0 k n o m) (itx n) := by
  intro a
  induction a using Nat.strongRecOn with
  | _ a ih =>
    intro m o ha hm ho he hs
    have hDL : n.natAbs < DL := by
      rw [DL_eq]
      have : n.natAbs < 10 ^ 19 := by omega
      exact Nat.lt_of_lt_of_le this (Nat.pow_le_pow_right (by omega) (by omega))
    have hlen := len200 hDL
    apply Ev.hop
    by_cases h0 : m = 0
    · subst h0
      rw [show (0 : Int).natAbs = 0 from rfl, bd_zero, List.append_nil] at he
      rw [he]
      simp only [yardstickref03_FromInt.l0, if_true]
      have := text_ev (decide (n < 0)) n.natAbs (by omega)
      rw [sgv_of] at this
      exact Ev.bind this (Ev.now _)
    · have hpos : 0 < m.natAbs := by omega
      rw [bd_pos (by omega) hpos] at he
      have hol : o.length < 17592186044416 := by omega
      have ho' : (o ++ [((m.natAbs % 10 : Nat) : Int)]).length ≤ 1000 := by
        have := congrArg List.length he
        simp at this ⊢; omega
      have htd := tdm10 m
      have e2 : wrap64 (Int.tdiv m 10) = Int.tdiv m 10 := w64 (by omega) (by omega)
      have e3 : (Int.tdiv m 10).natAbs = m.natAbs / 10 := Int.natAbs_tdiv m 10
      have e4 : Int.tdiv m 10 < 0 → m < 0 := by omega
      have he' : (o ++ [((m.natAbs % 10 : Nat) : Int)]) ++ bd 10 (Int.tdiv m 10).natAbs = bd 10 n.natAbs := by
        rw [e3, List.append_assoc]; exact he
      have go := ih (m.natAbs / 10) (by omega) (Int.tdiv m 10) (o ++ [((m.natAbs % 10 : Nat) : Int)]) e3 (by omega) ho' he' (fun h => hs (e4 h))
      by_cases hneg : Int.tmod m 10 < 0
      · have e1 : wrap64 (-(Int.tmod m 10)) = ((m.natAbs % 10 : Nat) : Int) := by rw [w64 (by omega) (by omega)]; omega
        simp only [yardstickref03_FromInt.l0, if_neg h0, if_pos hneg, if_pos hol, e1, e2]
        exact go
      · have e1 : Int.tmod m 10 = ((m.natAbs % 10 : Nat) : Int) := by omega
        simp only [yardstickref03_FromInt.l0, if_neg h0, if_neg hneg, if_pos hol, e2]
        rw [e1]
        exact go
theorem fromInt_ev (n : Int) (h0 : -9223372036854775808 ≤ n) (h1 : n ≤ 9223372036854775807) : Ev (fun k => yardstickref03_FromInt.f k n) (itx n) := by
  unfold yardstickref03_FromInt.f
  exact fromInt_l0 n (by omega) n.natAbs n [] rfl (by omega) (by simp) (by simp) (fun h => h)

end Go.Proofs.YtnhjidbjibehpaaGreatDoor.Ref
