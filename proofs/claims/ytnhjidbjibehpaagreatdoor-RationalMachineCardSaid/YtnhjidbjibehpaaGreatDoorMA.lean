/- RationalMachine: for all arguments the law returns true, and its arguments read as they did; under the row's conditions (the package-level variables that the row lists hold what the program's text lays). The tied card. -/
import Derived.Test.YtnhjidbjibehpaaGreatDoorZl
import Derived.Test.YtnhjidbjibehpaaGreatDoorZk
import Derived.Test.YtnhjidbjibehpaaGreatDoorZw
import Derived.Test.YtnhjidbjibehpaaGreatDoorZv
import Derived.Test.YtnhjidbjibehpaaGreatDoorZs
import Derived.Test.YtnhjidbjibehpaaGreatDoorZz
import Derived.Test.YtnhjidbjibehpaaGreatDoorZy
namespace Yd
open Go.Lib
theorem rdiv_fits {a b : Rat} {i j k l : Nat} (ha : Pr i j a) (hb : Pr k l b) (h : i + l < 200) (h3 : j + k < 200) (h0 : b ≠ 0) : rdiv a b = some (a / b) := by
  unfold rdiv
  rw [(ha.1.mul hb.2).sm h, (ha.2.mul hb.1).sm h3, decide_eq_true h0]; rfl
end Yd

/- Functions of the reference, each as a plain Lean function, and that the machine's call does what it says: yardstickref03.Gcd, yardstickref03.ToInt. -/
namespace Go.Proofs.YtnhjidbjibehpaaGreatDoor.Ref
open Go.RowKit Go.Proofs.YtnhjidbjibehpaaGreatDoorW.PrintWords Go.Proofs.YtnhjidbjibehpaaGreatDoorW.PrintLast Go.Proofs.YtnhjidbjibehpaaGreatDoorW.PrintMore
attribute [local go_sem] max2_int max_two
set_option linter.unusedVariables false
set_option linter.unusedSimpArgs false
mutual
def yardstickref03_ToInt.j0 : Nat → ByteArray → Bool → Option (Int × Int)
  | 0, _, _ => none
  | k + 1, x0, x19 => if x19 = true then (some (0, 30)) else (yardstickref03_ToInt.l0 k x0 0 0)
def yardstickref03_ToInt.l0 : Nat → ByteArray → Int → Int → Option (Int × Int)
  | 0, _, _, _ => none
  | k + 1, x0, x4, x5 => if x5 < (x0.size : Int) then (if 0 ≤ x5 then (if (bt x0 x5) = 45 then (yardstickref03_ToInt.l0 k x0 x4 (wrap64 (x5 + 1))) else (if 0 < (x0.size : Int) then (if (bt x0 0) = 45 then (yardstickref03_ToInt.l0 k x0 (wrap64 ((wrap64 (10 * x4)) + (-(((bt x0 x5) - 48) % 256)))) (wrap64 (x5 + 1))) else (yardstickref03_ToInt.l0 k x0 (wrap64 ((wrap64 (10 * x4)) + (((bt x0 x5) - 48) % 256))) (wrap64 (x5 + 1)))) else (none))) else (none)) else (some (x4, 0))
end
def yardstickref03_ToInt.f (k : Nat) (a0 : ByteArray) : Option (Int × Int) := (yardstickref03_Valid.f k a0).bind fun t226 => (if t226 = true then ((yardstickref03_Compare.f k a0 (⟨#[45, 57, 50, 50, 51, 51, 55, 50, 48, 51, 54, 56, 53, 52, 55, 55, 53, 56, 48, 56]⟩ : ByteArray)).bind fun t227 => (if t227 < 0 then (yardstickref03_ToInt.j0 k a0 true) else ((yardstickref03_Compare.f k a0 (⟨#[57, 50, 50, 51, 51, 55, 50, 48, 51, 54, 56, 53, 52, 55, 55, 53, 56, 48, 55]⟩ : ByteArray)).bind fun t228 => (yardstickref03_ToInt.j0 k a0 (decide (t228 > 0)))))) else (yardstickref03_ToInt.j0 k a0 true))
theorem yardstickref03_ToInt.mono_l : ∀ k, (∀ y0 y1, LeO (yardstickref03_ToInt.j0 k y0 y1) (yardstickref03_ToInt.j0 (k + 1) y0 y1)) ∧ (∀ y0 y1 y2, LeO (yardstickref03_ToInt.l0 k y0 y1 y2) (yardstickref03_ToInt.l0 (k + 1) y0 y1 y2))
  | 0 => ⟨fun _ _ r h => by simp [yardstickref03_ToInt.j0] at h, fun _ _ _ r h => by simp [yardstickref03_ToInt.l0] at h⟩
  | k + 1 => by
    obtain ⟨ih0, ih1⟩ := yardstickref03_ToInt.mono_l k
    refine ⟨?_, ?_⟩
    · intro y0 y1
      unfold yardstickref03_ToInt.j0
      repeat' first
      | (with_reducible exact ih0 _ _)
      | (with_reducible exact ih1 _ _ _)
      | (with_reducible exact yardstickref03_Compare.mono _ _ _)
      | (with_reducible exact yardstickref03_Valid.mono _ _)
      | (with_reducible exact LeO.refl _)
      | (with_reducible exact LeO.none _)
      | (with_reducible refine LeO.ite ?_ ?_)
      | (with_reducible refine LeO.bind ?_ (fun _ => ?_))
      | exact ih0 _ _
      | exact ih1 _ _ _
      | exact yardstickref03_Compare.mono _ _ _
      | exact yardstickref03_Valid.mono _ _
      | exact LeO.none _
      | refine LeO.ite ?_ ?_
      | refine LeO.bind ?_ (fun _ => ?_)
    · intro y0 y1 y2
      unfold yardstickref03_ToInt.l0
      repeat' first
      | (with_reducible exact ih0 _ _)
      | (with_reducible exact ih1 _ _ _)
      | (with_reducible exact yardstickref03_Compare.mono _ _ _)
      | (with_reducible exact yardstickref03_Valid.mono _ _)
      | (with_reducible exact LeO.refl _)
      | (with_reducible exact LeO.none _)
      | (with_reducible refine LeO.ite ?_ ?_)
      | (with_reducible refine LeO.bind ?_ (fun _ => ?_))
      | exact ih0 _ _
      | exact ih1 _ _ _
      | exact yardstickref03_Compare.mono _ _ _
      | exact yardstickref03_Valid.mono _ _
      | exact LeO.none _
      | refine LeO.ite ?_ ?_
      | refine LeO.bind ?_ (fun _ => ?_)
theorem yardstickref03_ToInt.mono : ∀ a0 k, LeO (yardstickref03_ToInt.f k a0) (yardstickref03_ToInt.f (k + 1) a0) := by
  intro a0 k
  obtain ⟨ih0, ih1⟩ := yardstickref03_ToInt.mono_l k
  unfold yardstickref03_ToInt.f
  repeat' first
      | (with_reducible exact ih0 _ _)
      | (with_reducible exact ih1 _ _ _)
      | (with_reducible exact yardstickref03_Compare.mono _ _ _)
      | (with_reducible exact yardstickref03_Valid.mono _ _)
      | (with_reducible exact LeO.refl _)
      | (with_reducible exact LeO.none _)
      | (with_reducible refine LeO.ite ?_ ?_)
      | (with_reducible refine LeO.bind ?_ (fun _ => ?_))
      | exact ih0 _ _
      | exact ih1 _ _ _
      | exact yardstickref03_Compare.mono _ _ _
      | exact yardstickref03_Valid.mono _ _
      | exact LeO.none _
      | refine LeO.ite ?_ ?_
      | refine LeO.bind ?_ (fun _ => ?_)
set_option maxHeartbeats 8000000 in
set_option maxRecDepth 100000 in
theorem yardstickref03_ToInt.calls (k : Nat) (a0 : ByteArray) (r1 : Int) (r2 : Int) (w : World) (h : yardstickref03_ToInt.f k a0 = some (r1, r2)) :
    Calls Tryz.prog 43 #[.string a0] w fun e w' => e = .returned (.tuple #[.int .i64 r1, .int .i64 r2]) ∧ Below w.heap.size w w' := by
  have HB := Aside0.mk (Below.refl w.heap.size w)
  have H : ((yardstickref03_Valid.f k a0).bind fun t226 => (if t226 = true then ((yardstickref03_Compare.f k a0 (⟨#[45, 57, 50, 50, 51, 51, 55, 50, 48, 51, 54, 56, 53, 52, 55, 55, 53, 56, 48, 56]⟩ : ByteArray)).bind fun t227 => (if t227 < 0 then (yardstickref03_ToInt.j0 k a0 true) else ((yardstickref03_Compare.f k a0 (⟨#[57, 50, 50, 51, 51, 55, 50, 48, 51, 54, 56, 53, 52, 55, 55, 53, 56, 48, 55]⟩ : ByteArray)).bind fun t228 => (yardstickref03_ToInt.j0 k a0 (decide (t228 > 0)))))) else (yardstickref03_ToInt.j0 k a0 true))) = some (r1, r2) := h
  clear h
  have HC2 := Aside0.mk H
  clear H
  go_enter Tryz.func43, Tryz.ntmps43
  go_upto_region 1 with (fail)
  go_cut [19] (fun v19 wc => ∃ (kq : Nat) (x19_1 : Bool), v19 = .bool x19_1 ∧ Aside0 (yardstickref03_ToInt.j0 kq a0 x19_1 = some (r1, r2)) ∧ Aside0 (kq ≤ k) ∧ Aside0 (Below w.heap.size w wc))
  case first =>
    have H := HC2.out
    clear HC2
    replace H := Option.bind_eq_some_iff.mp H
    obtain ⟨t226, A30, H⟩ := H
    replace H : (if t226 = true then ((yardstickref03_Compare.f k a0 (⟨#[45, 57, 50, 50, 51, 51, 55, 50, 48, 51, 54, 56, 53, 52, 55, 55, 53, 56, 48, 56]⟩ : ByteArray)).bind fun t227 => (if t227 < 0 then (yardstickref03_ToInt.j0 k a0 true) else ((yardstickref03_Compare.f k a0 (⟨#[57, 50, 50, 51, 51, 55, 50, 48, 51, 54, 56, 53, 52, 55, 55, 53, 56, 48, 55]⟩ : ByteArray)).bind fun t228 => (yardstickref03_ToInt.j0 k a0 (decide (t228 > 0)))))) else (yardstickref03_ToInt.j0 k a0 true)) = some (r1, r2) := H
    have A3 := Aside0.mk A30
    clear A30
    by_cases c4 : t226 = true
    · subst c4
      have H1 : ((yardstickref03_Compare.f k a0 (⟨#[45, 57, 50, 50, 51, 51, 55, 50, 48, 51, 54, 56, 53, 52, 55, 55, 53, 56, 48, 56]⟩ : ByteArray)).bind fun t227 => (if t227 < 0 then (yardstickref03_ToInt.j0 k a0 true) else ((yardstickref03_Compare.f k a0 (⟨#[57, 50, 50, 51, 51, 55, 50, 48, 51, 54, 56, 53, 52, 55, 55, 53, 56, 48, 55]⟩ : ByteArray)).bind fun t228 => (yardstickref03_ToInt.j0 k a0 (decide (t228 > 0)))))) = some (r1, r2) := by rw [if_pos rfl] at H; exact H
      clear H
      have H := H1
      clear H1
      replace H := Option.bind_eq_some_iff.mp H
      obtain ⟨t227, A50, H⟩ := H
      replace H : (if t227 < 0 then (yardstickref03_ToInt.j0 k a0 true) else ((yardstickref03_Compare.f k a0 (⟨#[57, 50, 50, 51, 51, 55, 50, 48, 51, 54, 56, 53, 52, 55, 55, 53, 56, 48, 55]⟩ : ByteArray)).bind fun t228 => (yardstickref03_ToInt.j0 k a0 (decide (t228 > 0))))) = some (r1, r2) := H
      have A5 := Aside0.mk A50
      clear A50
      by_cases c6 : t227 < 0
      · rw [if_pos c6] at H
        have c6b0 : decide (t227 < 0) = true := decide_eq_true c6
        clear c6
        (first | rw [c6b0] | (simp only [i64_w, i32_w]; rw [c6b0]) | skip)
        have H' := Aside0.mk H
        clear H
        go_wp2_with (first | ((with_reducible refine gate_callee (f := 53) rfl ?_); refine goesL_ (some 8) rfl rfl Tryz.func53 (by kernel_rfl) rfl #[.string a0] rfl (by (try simp only [List.map_toArray, List.map_cons, List.map_nil]); first | done | rfl | (simp only [List.length_drop, List.length_take]; rfl)) ?_; (with_reducible refine (yardstickref03_Valid.calls k a0 true _ A3.out).mono ?_); rintro e w' ⟨rfl, ⟨nd, rfl⟩⟩; refine ⟨_, rfl, ?_⟩) | (go_at_call 67; (with_reducible refine (yardstickref03_Compare.calls k a0 (⟨#[45, 57, 50, 50, 51, 51, 55, 50, 48, 51, 54, 56, 53, 52, 55, 55, 53, 56, 48, 56]⟩ : ByteArray) t227 _ A5.out).mono ?_); rintro e w7 ⟨rfl, hb⟩; have n0_ := Aside0.mk (below_step (by repeat (first | (with_reducible first | exact HB.out | apply below_alloc | apply pw_below_drewN | apply below_drew1) | exact HB.out)) hb); clear HB; have HB := n0_; clear n0_; (try clear hb); (try clear hb2); (try clear hk); (try clear hi)))
        go_meet
        case rel => exact ⟨_, (true), (by first | rfl | (simp; done) | (simp [*]; done)), H', ⟨by first | omega | exact Nat.le_refl _⟩, ⟨by repeat (first | (with_reducible first | exact HB.out | apply below_alloc | apply pw_below_drewN | apply below_drew1) | exact HB.out)⟩⟩
      · rw [if_neg c6] at H
        have c6b0 : decide (t227 < 0) = false := decide_eq_false c6
        clear c6
        (first | rw [c6b0] | (simp only [i64_w, i32_w]; rw [c6b0]) | skip)
        replace H := Option.bind_eq_some_iff.mp H
        obtain ⟨t228, A80, H⟩ := H
        replace H : (yardstickref03_ToInt.j0 k a0 (decide (t228 > 0))) = some (r1, r2) := H
        have A8 := Aside0.mk A80
        clear A80
        have H' := Aside0.mk H
        clear H
        go_wp2_with (first | ((with_reducible refine gate_callee (f := 53) rfl ?_); refine goesL_ (some 8) rfl rfl Tryz.func53 (by kernel_rfl) rfl #[.string a0] rfl (by (try simp only [List.map_toArray, List.map_cons, List.map_nil]); first | done | rfl | (simp only [List.length_drop, List.length_take]; rfl)) ?_; (with_reducible refine (yardstickref03_Valid.calls k a0 true _ A3.out).mono ?_); rintro e w' ⟨rfl, ⟨nd, rfl⟩⟩; refine ⟨_, rfl, ?_⟩) | (go_at_call 67; (with_reducible refine (yardstickref03_Compare.calls k a0 (⟨#[45, 57, 50, 50, 51, 51, 55, 50, 48, 51, 54, 56, 53, 52, 55, 55, 53, 56, 48, 56]⟩ : ByteArray) t227 _ A5.out).mono ?_); rintro e w9 ⟨rfl, hb⟩; have n0_ := Aside0.mk (below_step (by repeat (first | (with_reducible first | exact HB.out | apply below_alloc | apply pw_below_drewN | apply below_drew1) | exact HB.out)) hb); clear HB; have HB := n0_; clear n0_; (try clear hb); (try clear hb2); (try clear hk); (try clear hi)) | (go_at_call 67; (with_reducible refine (yardstickref03_Compare.calls k a0 (⟨#[57, 50, 50, 51, 51, 55, 50, 48, 51, 54, 56, 53, 52, 55, 55, 53, 56, 48, 55]⟩ : ByteArray) t228 _ A8.out).mono ?_); rintro e w10 ⟨rfl, hb⟩; have n0_ := Aside0.mk (below_step (by repeat (first | (with_reducible first | exact HB.out | apply below_alloc | apply pw_below_drewN | apply below_drew1) | exact HB.out)) hb); clear HB; have HB := n0_; clear n0_; (try clear hb); (try clear hb2); (try clear hk); (try clear hi)))
        go_meet
        case rel => exact ⟨_, (decide (t228 > 0)), (by first | rfl | (simp; done) | (simp [*]; done)), H', ⟨by first | omega | exact Nat.le_refl _⟩, ⟨by repeat (first | (with_reducible first | exact HB.out | apply below_alloc | apply pw_below_drewN | apply below_drew1) | exact HB.out)⟩⟩
    · replace c4 := Bool.eq_false_iff.mpr c4
      subst c4
      have H1 : (yardstickref03_ToInt.j0 k a0 true) = some (r1, r2) := by rw [if_neg (show ¬ (false = true) by decide)] at H; exact H
      clear H
      have H := H1
      clear H1
      have H' := Aside0.mk H
      clear H
      go_wp2_with (first | ((with_reducible refine gate_callee (f := 53) rfl ?_); refine goesL_ (some 8) rfl rfl Tryz.func53 (by kernel_rfl) rfl #[.string a0] rfl (by (try simp only [List.map_toArray, List.map_cons, List.map_nil]); first | done | rfl | (simp only [List.length_drop, List.length_take]; rfl)) ?_; (with_reducible refine (yardstickref03_Valid.calls k a0 false _ A3.out).mono ?_); rintro e w' ⟨rfl, ⟨nd, rfl⟩⟩; refine ⟨_, rfl, ?_⟩))
      go_meet
      case rel => exact ⟨_, (true), (by first | rfl | (simp; done) | (simp [*]; done)), H', ⟨by first | omega | exact Nat.le_refl _⟩, ⟨by repeat (first | (with_reducible first | exact HB.out | apply below_alloc | apply pw_below_drewN | apply below_drew1) | exact HB.out)⟩⟩
  case rest =>
    clear HC2
    try clear p2
    try clear c4
    try clear c5
    try clear c6
    try clear c6b0
    obtain ⟨kq, x19_1, rfl, HA, HJ1, HB⟩ := hcut
    cases kq with
    | zero => exact absurd HA.out (by simp [yardstickref03_ToInt.j0])
    | succ kj1 =>
      have H := HA.out
      clear HA
      simp only [yardstickref03_ToInt.j0] at H
      by_cases c11 : x19_1 = true
      · subst c11
        have H1 : (some (0, 30)) = some (r1, r2) := by rw [if_pos rfl] at H; exact H
        clear H
        have H := H1
        clear H1
        simp only [Option.some.injEq, Prod.mk.injEq] at H
        obtain ⟨rfl, rfl⟩ := H
        go_wp2
        go_ret2
        exact ⟨by first | rfl | (simp [errW_none, errW_some] <;> rfl) | (simp [*, errW_none, errW_some] <;> rfl), by repeat (first | (with_reducible first | exact HB.out | apply below_alloc | apply pw_below_drewN | apply below_drew1) | exact HB.out)⟩
      · replace c11 := Bool.eq_false_iff.mpr c11
        subst c11
        have H1 : (yardstickref03_ToInt.l0 kj1 a0 0 0) = some (r1, r2) := by rw [if_neg (show ¬ (false = true) by decide)] at H; exact H
        clear H
        have H := H1
        clear H1
        have H' := Aside0.mk H
        clear H
        go_wp2
        go_loopg [4, 5] kj1 (fun kq v4 v5 w' => ∃ (x4_2 : Int) (x5_2 : Int), v4 = .int .i64 x4_2 ∧ v5 = .int .i64 x5_2 ∧ Aside0 (yardstickref03_ToInt.l0 kq a0 x4_2 x5_2 = some (r1, r2)) ∧ Aside0 (kq ≤ kj1) ∧ Aside0 (Below w.heap.size w w'))
        case atStart => exact ⟨(0), (0), (by first | rfl | (simp; done) | (simp [*]; done)), (by first | rfl | (simp; done) | (simp [*]; done)), H', ⟨Nat.le_refl _⟩, ⟨by repeat (first | (with_reducible first | exact HB.out | apply below_alloc | apply pw_below_drewN | apply below_drew1) | exact HB.out)⟩⟩
        case round =>
          clear H'
          try clear c1
          try clear p2
          try clear c4
          try clear c5
          try clear c6
          try clear c6b0
          try clear c11
          try clear p2
          obtain ⟨x4_2, x5_2, rfl, rfl, HA, HK2, HB⟩ := hrel
          cases gk with
          | zero => exact absurd HA.out (by simp [yardstickref03_ToInt.l0])
          | succ k2 =>
            have H := HA.out
            clear HA
            simp only [yardstickref03_ToInt.l0] at H
            by_cases c12 : x5_2 < (a0.size : Int)
            · rw [if_pos c12] at H
              have c12b0 : decide (x5_2 < (a0.size : Int)) = true := decide_eq_true c12
              clear c12
              by_cases c13 : 0 ≤ x5_2
              · rw [if_pos c13] at H
                have c13b0 : decide (0 ≤ x5_2) = true := decide_eq_true c13
                clear c13
                by_cases c15 : (bt a0 x5_2) = 45
                · rw [if_pos c15] at H
                  have c15b0 : ((bt a0 x5_2) == 45) = true := beq_iff_eq.mpr c15
                  have c15b1 : ((bt a0 x5_2) != 45) = false := bne_eq_false_iff_eq.mpr c15
                  clear c15
                  have H' := Aside0.mk H
                  clear H
                  have p14 : 0 ≤ (x5_2 : Int) := of_decide_eq_true (by first | (with_reducible assumption) | assumption)
                  have q14 : x5_2 < (a0.size : Int) := of_decide_eq_true (by first | (with_reducible assumption) | assumption)
                  have hx14 := bt_at a0 x5_2
                  replace p14 := eq_true p14
                  replace q14 := eq_true q14
                  go_wp2
                  go_roundg k2
                  case measure => have := HJ1.out; have := HK2.out; omega
                  case rel => exact ⟨(x4_2), (wrap64 (x5_2 + 1)), (by first | rfl | (simp; done) | (simp [*]; done)), (by first | rfl | (simp; done) | (simp [*]; done)), H', ⟨by have := HJ1.out; have := HK2.out; omega⟩, ⟨by repeat (first | (with_reducible first | exact HB.out | apply below_alloc | apply pw_below_drewN | apply below_drew1) | exact HB.out)⟩⟩
                · rw [if_neg c15] at H
                  have c15b0 : ((bt a0 x5_2) == 45) = false := beq_eq_false_iff_ne.mpr c15
                  have c15b1 : ((bt a0 x5_2) != 45) = true := bne_iff_ne.mpr c15
                  by_cases c17 : 0 < (a0.size : Int)
                  · rw [if_pos c17] at H
                    have c17b0 : decide (0 < (a0.size : Int)) = true := decide_eq_true c17
                    have c17b1 : decide (0 < a0.size) = true := decide_eq_true (by omega)
                    clear c17
                    by_cases c19 : (bt a0 0) = 45
                    · rw [if_pos c19] at H
                      have c19b0 : ((bt a0 0) == 45) = true := beq_iff_eq.mpr c19
                      have c19b1 : ((bt a0 0) != 45) = false := bne_eq_false_iff_eq.mpr c19
                      clear c19
                      have H' := Aside0.mk H
                      clear H
                      have p14 : 0 ≤ (x5_2 : Int) := of_decide_eq_true (by first | (with_reducible assumption) | assumption)
                      have q14 : x5_2 < (a0.size : Int) := of_decide_eq_true (by first | (with_reducible assumption) | assumption)
                      have hx14 := bt_at a0 x5_2
                      replace p14 := eq_true p14
                      replace q14 := eq_true q14
                      have p16 : 0 ≤ (x5_2 : Int) := of_decide_eq_true (by first | (with_reducible assumption) | assumption)
                      have q16 : x5_2 < (a0.size : Int) := of_decide_eq_true (by first | (with_reducible assumption) | assumption)
                      have hx16 := bt_at a0 x5_2
                      replace p16 := eq_true p16
                      replace q16 := eq_true q16
                      have p18 : 0 ≤ (0 : Int) := (by omega)
                      have q18 : 0 < a0.size := (by have : (0 : Int) < (a0.size : Int) := of_decide_eq_true (by first | (with_reducible assumption) | assumption); omega)
                      have hx18 : ∀ h : 0 < a0.size, ((a0[0]'h).toNat : Int) = bt a0 0 := bt_at a0 0
                      clear p18
                      have qi18 : (0 < (a0.size : Int)) = True := eq_true (of_decide_eq_true (by first | (with_reducible assumption) | assumption))
                      replace q18 := eq_true q18
                      go_wp2
                      go_roundg k2
                      case measure => have := HJ1.out; have := HK2.out; omega
                      case rel => exact ⟨(wrap64 ((wrap64 (10 * x4_2)) + (-(((bt a0 x5_2) - 48) % 256)))), (wrap64 (x5_2 + 1)), (by first | rfl | (simp; done) | (simp [*]; done)), (by first | rfl | (simp; done) | (simp [*]; done)), H', ⟨by have := HJ1.out; have := HK2.out; omega⟩, ⟨by repeat (first | (with_reducible first | exact HB.out | apply below_alloc | apply pw_below_drewN | apply below_drew1) | exact HB.out)⟩⟩
                    · rw [if_neg c19] at H
                      have c19b0 : ((bt a0 0) == 45) = false := beq_eq_false_iff_ne.mpr c19
                      have c19b1 : ((bt a0 0) != 45) = true := bne_iff_ne.mpr c19
                      have H' := Aside0.mk H
                      clear H
                      have p14 : 0 ≤ (x5_2 : Int) := of_decide_eq_true (by first | (with_reducible assumption) | assumption)
                      have q14 : x5_2 < (a0.size : Int) := of_decide_eq_true (by first | (with_reducible assumption) | assumption)
                      have hx14 := bt_at a0 x5_2
                      replace p14 := eq_true p14
                      replace q14 := eq_true q14
                      have p16 : 0 ≤ (x5_2 : Int) := of_decide_eq_true (by first | (with_reducible assumption) | assumption)
                      have q16 : x5_2 < (a0.size : Int) := of_decide_eq_true (by first | (with_reducible assumption) | assumption)
                      have hx16 := bt_at a0 x5_2
                      replace p16 := eq_true p16
                      replace q16 := eq_true q16
                      have p18 : 0 ≤ (0 : Int) := (by omega)
                      have q18 : 0 < a0.size := (by have : (0 : Int) < (a0.size : Int) := of_decide_eq_true (by first | (with_reducible assumption) | assumption); omega)
                      have hx18 : ∀ h : 0 < a0.size, ((a0[0]'h).toNat : Int) = bt a0 0 := bt_at a0 0
                      clear p18
                      have qi18 : (0 < (a0.size : Int)) = True := eq_true (of_decide_eq_true (by first | (with_reducible assumption) | assumption))
                      replace q18 := eq_true q18
                      go_wp2
                      go_roundg k2
                      case measure => have := HJ1.out; have := HK2.out; omega
                      case rel => exact ⟨(wrap64 ((wrap64 (10 * x4_2)) + (((bt a0 x5_2) - 48) % 256))), (wrap64 (x5_2 + 1)), (by first | rfl | (simp; done) | (simp [*]; done)), (by first | rfl | (simp; done) | (simp [*]; done)), H', ⟨by have := HJ1.out; have := HK2.out; omega⟩, ⟨by repeat (first | (with_reducible first | exact HB.out | apply below_alloc | apply pw_below_drewN | apply below_drew1) | exact HB.out)⟩⟩
                  · rw [if_neg c17] at H
                    exact absurd H (by simp)
              · rw [if_neg c13] at H
                exact absurd H (by simp)
            · rw [if_neg c12] at H
              have c12b0 : decide (x5_2 < (a0.size : Int)) = false := decide_eq_false c12
              clear c12
              simp only [Option.some.injEq, Prod.mk.injEq] at H
              obtain ⟨rfl, rfl⟩ := H
              go_wp2
              go_ret2
              exact ⟨by first | rfl | (simp [errW_none, errW_some] <;> rfl) | (simp [*, errW_none, errW_some] <;> rfl), by repeat (first | (with_reducible first | exact HB.out | apply below_alloc | apply pw_below_drewN | apply below_drew1) | exact HB.out)⟩
end Go.Proofs.YtnhjidbjibehpaaGreatDoor.Ref

/- The reference's ToInt, in plain numbers. -/
namespace Go.Proofs.YtnhjidbjibehpaaGreatDoor.Ref
open Go.RowKit Go.Proofs.YtnhjidbjibehpaaGreatDoorW.PrintWords Go.Proofs.YtnhjidbjibehpaaGreatDoorW.PrintLast Go.Proofs.YtnhjidbjibehpaaGreatDoorW.PrintMore Yd Go.Lib
set_option linter.unusedVariables false
set_option linter.unusedSimpArgs false

/-- what is read from digits, under a sign -/
def rdS (σ : Int) (l : List UInt8) (v : Int) : Int := l.foldl (fun v b => if b = 45 then v else 10 * v + σ * ((b.toNat : Int) - 48)) v
theorem rdS_digits (σ : Int) : ∀ (l : List UInt8) (a : Nat), l.all isDig = true → rdS σ l (σ * a) = σ * (l.foldl (fun a b => a * 10 + (b.toNat - 48)) a : Nat)
  | [], a, _ => rfl
  | b :: l, a, h => by
    rw [List.all_cons, Bool.and_eq_true] at h
    have hb := isDig_iff.1 h.1
    have h45 : b ≠ 45 := by intro e; rw [e] at hb; exact absurd hb.1 (by decide)
    unfold rdS
    rw [List.foldl_cons, List.foldl_cons, if_neg h45]
    have := rdS_digits σ l (a * 10 + (b.toNat - 48)) h.2
    unfold rdS at this
    rw [← this]
    congr 1
    have e : ((a * 10 + (b.toNat - 48) : Nat) : Int) = a * 10 + ((b.toNat : Int) - 48) := by omega
    rw [e]; grind
theorem toInt_l0 (s : ByteArray) (hl : s.data.toList.length ≤ 18) (h0 : 0 < s.data.toList.length) (hd : ∀ b ∈ s.data.toList, isDig b = true ∨ b = 45) (σ : Int) (hσ : (bt s 0 = 45 ∧ σ = -1) ∨ (bt s 0 ≠ 45 ∧ σ = 1)) :
    ∀ (d i : Nat) (v : Int), i + d = s.data.toList.length → v.natAbs < 10 ^ i → Ev (fun k => yardstickref03_ToInt.l0 k s v (i : Int)) (rdS σ (s.data.toList.drop i) v, 0) := by
  have hsz := size_len s
  intro d
  induction d with
  | zero =>
    intro i v hi hv
    apply Ev.hop
    simp only [yardstickref03_ToInt.l0, if_neg (show ¬ (i : Int) < (s.size : Int) by omega)]
    rw [List.drop_eq_nil_of_le (by omega)]
    exact Ev.now _
  | succ d ih =>
    intro i v hi hv
    have hil : i < s.data.toList.length := by omega
    apply Ev.hop
    have hw : wrap64 ((i : Int) + 1) = ((i + 1 : Nat) : Int) := by rw [w64 (by omega) (by omega)]; rfl
    simp only [yardstickref03_ToInt.l0, if_pos (show (i : Int) < (s.size : Int) by omega), if_pos (show (0 : Int) ≤ (i : Int) by omega), bt_eq hil, hw, if_pos (show (0 : Int) < (s.size : Int) by omega)]
    rw [List.drop_eq_getElem_cons hil]
    have hpow : (10 : Nat) ^ i ≤ 10 ^ 17 := Nat.pow_le_pow_right (by omega) (by omega)
    have hpow1 : (10 : Nat) ^ (i + 1) = 10 ^ i * 10 := Nat.pow_succ 10 i
    have hp17 : (10 : Nat) ^ 17 = 100000000000000000 := by decide
    have hv' : v.natAbs < 10 ^ (i + 1) := by omega
    by_cases h45 : s.data.toList[i] = 45
    · have e : ((s.data.toList[i].toNat : Nat) : Int) = 45 := by rw [h45]; rfl
      simp only [if_pos e]
      have := ih (i + 1) v (by omega) hv'
      unfold rdS at this ⊢
      rw [List.foldl_cons, if_pos h45]
      exact this
    · have hdig : isDig s.data.toList[i] = true := by
        rcases hd _ (List.getElem_mem hil) with h | h
        · exact h
        · exact absurd h h45
      have hb := isDig_iff.1 hdig
      have e : ¬ ((s.data.toList[i].toNat : Nat) : Int) = 45 := by omega
      have e1 : wrap64 (10 * v) = 10 * v := w64 (by omega) (by omega)
      have e2 : (((s.data.toList[i].toNat : Nat) : Int) - 48) % 256 = ((s.data.toList[i].toNat : Nat) : Int) - 48 := by omega
      simp only [if_neg e, e1, e2]
      rcases hσ with ⟨h1, rfl⟩ | ⟨h1, rfl⟩
      · have e3 : wrap64 (10 * v + -(((s.data.toList[i].toNat : Nat) : Int) - 48)) = 10 * v + -1 * (((s.data.toList[i].toNat : Nat) : Int) - 48) := by rw [w64 (by omega) (by omega)]; omega
        simp only [if_pos h1, e3]
        have := ih (i + 1) (10 * v + -1 * (((s.data.toList[i].toNat : Nat) : Int) - 48)) (by omega) (by omega)
        unfold rdS at this ⊢
        rw [List.foldl_cons, if_neg h45]
        exact this
      · have e3 : wrap64 (10 * v + (((s.data.toList[i].toNat : Nat) : Int) - 48)) = 10 * v + 1 * (((s.data.toList[i].toNat : Nat) : Int) - 48) := by rw [w64 (by omega) (by omega)]; omega
        simp only [if_neg h1, e3]
        have := ih (i + 1) (10 * v + 1 * (((s.data.toList[i].toNat : Nat) : Int) - 48)) (by omega) (by omega)
        unfold rdS at this ⊢
        rw [List.foldl_cons, if_neg h45]
        exact this
theorem itoa_m63 : ival (⟨#[45, 57, 50, 50, 51, 51, 55, 50, 48, 51, 54, 56, 53, 52, 55, 55, 53, 56, 48, 56]⟩ : ByteArray).data.toList = some (-9223372036854775808) := by kernel_rfl
theorem itoa_63 : ival (⟨#[57, 50, 50, 51, 51, 55, 50, 48, 51, 54, 56, 53, 52, 55, 55, 53, 56, 48, 55]⟩ : ByteArray).data.toList = some 9223372036854775807 := by kernel_rfl
theorem toInt_ev (x : Int) (hx : x.natAbs < 10 ^ 17) : Ev (fun k => yardstickref03_ToInt.f k (itx x)) (x, 0) := by
  have hDL : x.natAbs < DL := Nat.lt_of_lt_of_le hx (by rw [DL_eq]; exact Nat.pow_le_pow_right (by omega) (by omega))
  have hp17 : (10 : Nat) ^ 17 = 100000000000000000 := by decide
  have hiv : ival (itx x).data.toList = some x := by rw [itx_data]; exact ival_itoa hDL
  have hsz : (itx x).size ≤ 9223372036854775806 := Nat.le_trans (itx_size hDL) (by omega)
  unfold yardstickref03_ToInt.f
  refine Ev.bind (valid_ev _ hsz) ?_
  rw [itx_data, ivalid_itoa hDL]
  simp only [if_true]
  refine Ev.bind (compare_ev _ _ hsz (by decide)) ?_
  rw [ccmp_yes hiv itoa_m63]
  have h1 : ¬ sgn (x - -9223372036854775808) < 0 := by unfold sgn; split <;> (try split) <;> omega
  simp only [if_neg h1]
  refine Ev.bind (compare_ev _ _ hsz (by decide)) ?_
  rw [ccmp_yes hiv itoa_63]
  have h2 : ¬ sgn (x - 9223372036854775807) > 0 := by unfold sgn; split <;> (try split) <;> omega
  rw [decide_eq_false h2]
  apply Ev.hop
  simp only [yardstickref03_ToInt.j0, Bool.false_eq_true, if_false]
  have hlen : (decDigits x.natAbs).length ≤ 17 := (decDigits_length_le (by omega)).2 hx
  have hne := decDigits_ne x.natAbs
  have hpos : 0 < (decDigits x.natAbs).length := by
    rcases Nat.eq_zero_or_pos (decDigits x.natAbs).length with h | h
    · exact absurd (List.eq_nil_of_length_eq_zero h) hne
    · exact h
  have hall := decDigits_all x.natAbs
  by_cases hn : x < 0
  · have hl : (itx x).data.toList = 45 :: decDigits x.natAbs := by rw [itx_data, itoa_neg hn]
    have hb0 : bt (itx x) 0 = 45 := by
      have := bt_eq (s := itx x) (i := 0) (by rw [hl, List.length_cons]; omega)
      rw [show ((0 : Nat) : Int) = 0 from rfl] at this
      rw [this]
      simp only [hl, List.getElem_cons_zero]; rfl
    have := toInt_l0 (itx x) (by rw [hl, List.length_cons]; omega) (by rw [hl, List.length_cons]; omega) (fun b hb => by
      rw [hl] at hb
      rcases List.mem_cons.1 hb with rfl | hb
      · exact .inr rfl
      · exact .inl (List.all_eq_true.1 hall b hb)) (-1) (.inl ⟨hb0, rfl⟩) _ 0 0 (Nat.zero_add _) (by decide)
    have e : rdS (-1) ((itx x).data.toList.drop 0) 0 = x := by
      rw [List.drop_zero, hl]
      have h := rdS_digits (-1) (decDigits x.natAbs) 0 hall
      have hd := dval_decDigits x.natAbs
      unfold dval at hd
      rw [hd] at h
      unfold rdS at h ⊢
      rw [List.foldl_cons, if_pos rfl]
      rw [show (-1 : Int) * ((0 : Nat) : Int) = 0 from rfl] at h
      rw [h]; omega
    rw [e] at this
    exact this
  · have hl : (itx x).data.toList = decDigits x.natAbs := by rw [itx_data, itoa_pos (by omega)]
    have hb0 : bt (itx x) 0 ≠ 45 := by
      have hh := decDigits_head45 x.natAbs
      have hlt : 0 < (itx x).data.toList.length := by rw [hl]; exact hpos
      have := bt_eq (s := itx x) (i := 0) hlt
      rw [show ((0 : Nat) : Int) = 0 from rfl] at this
      rw [this]
      intro h
      have h2 : (itx x).data.toList[0] = 45 := by
        rw [← UInt8.toNat_inj]
        have : (45 : UInt8).toNat = 45 := rfl
        omega
      rw [← hl, head_getElem hlt, h2] at hh
      exact hh rfl
    have := toInt_l0 (itx x) (by rw [hl]; omega) (by rw [hl]; exact hpos) (fun b hb => by
      rw [hl] at hb; exact .inl (List.all_eq_true.1 hall b hb)) 1 (.inr ⟨hb0, rfl⟩) _ 0 0 (Nat.zero_add _) (by decide)
    have e : rdS 1 ((itx x).data.toList.drop 0) 0 = x := by
      rw [List.drop_zero, hl]
      have h := rdS_digits 1 (decDigits x.natAbs) 0 hall
      have hd := dval_decDigits x.natAbs
      unfold dval at hd
      rw [hd] at h
      rw [show (1 : Int) * ((0 : Nat) : Int) = 0 from rfl] at h
      rw [h]; omega
    rw [e] at this
    exact this

end Go.Proofs.YtnhjidbjibehpaaGreatDoor.Ref

/- RationalMachine: what its calls give. -/
namespace Go.Proofs.YtnhjidbjibehpaaGreatDoor.L4
open Go.Shelf Go.RowKit Go.Proofs.YtnhjidbjibehpaaGreatDoorW.PrintWords Go.Proofs.YtnhjidbjibehpaaGreatDoorW.PrintLast Go.Proofs.YtnhjidbjibehpaaGreatDoorW.PrintMore Yd L3
set_option linter.unusedVariables false
set_option linter.unusedSimpArgs false
attribute [local go_sem ↓] Go.wp_at_zero Go.wp_at_succ

theorem q_toInt {s : ByteArray} {x : Int} (h : s = tx x) (hx : x.natAbs < 10 ^ 17) (w : World) :
    Calls Tryz.prog 43 #[.string s] w fun e w' => e = .returned (.tuple #[.int .i64 x, .int .i64 0]) ∧ Below w.heap.size w w' := by
  subst h
  obtain ⟨k, hk⟩ := (Ref.toInt_ev x hx).rounds
  exact Ref.yardstickref03_ToInt.calls k _ _ _ w hk
theorem rcmp_div2 {n d m c : Int} (hd : 0 < d) (hc : 0 < c) : rcmp (Rat.divInt n d) (Rat.divInt m c) = sgn (n * c - m * d) := by
  rw [rcmp_divInt hd]
  have h := divInt_cross (m := m) (show c ≠ 0 by omega)
  have hp := rat_pos (Rat.divInt m c)
  generalize (Rat.divInt m c).num = u at *
  generalize ((Rat.divInt m c).den : Int) = v at *
  rw [← sgn_mul_pos (t := c) hc, ← sgn_mul_pos (x := n * c - m * d) (t := v) hp]
  congr 1
  grind
/-- one of the results, against what the integers give -/
structure MI (p : Option Rat) (x y nu de z : Int) : Prop where
  k : oK p = 0
  s : oS p = tx nu
  t : oT p = tx de
  b : -2000000000 ≤ nu ∧ nu ≤ 2000000000 ∧ 1 ≤ de ∧ de ≤ 2000000000
  w1 : IntKind.i64.wrap (nu * y) = z
  w2 : IntKind.i64.wrap (x * de) = z
  v : (rvalB (oS p) (oT p)).isSome = true
theorem MI.mk' {x y : Int} {p : Option Rat} (hp : p = some (Rat.divInt x y)) (hy : y ≠ 0) (hx : x.natAbs ≤ 2000000000) (hy' : y.natAbs ≤ 2000000000) : ∃ nu de z, MI p x y nu de z := by
  subst hp
  have h1 : (Rat.divInt x y).num.natAbs ≤ x.natAbs := divInt_num_le
  have h2 : (Rat.divInt x y).den ≤ y.natAbs := divInt_den_le hy
  have h3 := rat_pos (Rat.divInt x y)
  have hc := divInt_cross (m := x) hy
  have hb : ((Rat.divInt x y).num * y).natAbs ≤ 2000000000 * 2000000000 := by
    rw [Int.natAbs_mul]; exact Nat.mul_le_mul (Nat.le_trans h1 hx) hy'
  have e1 : IntKind.i64.wrap ((Rat.divInt x y).num * y) = (Rat.divInt x y).num * y := IntWalk.i64_in _ (by generalize (Rat.divInt x y).num * y = u at *; omega)
  have hr : RL (Rat.divInt x y) := by
    have hD : (2000000001 : Nat) ≤ DL := by rw [DL_eq]; exact Nat.le_trans (show 2000000001 ≤ 10 ^ 10 by omega) (Nat.pow_le_pow_right (by omega) (by omega))
    exact ⟨by omega, by omega⟩
  refine ⟨(Rat.divInt x y).num, (Rat.divInt x y).den, (Rat.divInt x y).num * y, rfl, rfl, rfl, ⟨by omega, by omega, by omega, by omega⟩, e1, ?_, ?_⟩
  · rw [← hc]; exact e1
  · rw [rv_o hr]; rfl
/-- what the calls of RationalMachine give -/
structure MF (n d m c : Int) (sa ta sb tb : ByteArray) : Prop where
  a : ratO (mk2 n d) = ratV sa ta 0
  b : ratO (mk2 m c) = ratV sb tb 0
  p0 : rbin radd (rvalB sa ta) (rvalB sb tb) = some (Rat.divInt (n * c + m * d) (d * c))
  p1 : rbin rsub (rvalB sa ta) (rvalB sb tb) = some (Rat.divInt (n * c - m * d) (d * c))
  p2 : rbin rmul (rvalB sa ta) (rvalB sb tb) = some (Rat.divInt (n * m) (d * c))
  p3 : m ≠ 0 → rbin rdiv (rvalB sa ta) (rvalB sb tb) = some (Rat.divInt (n * c) (d * m))
  p4 : m = 0 → rbin rdiv (rvalB sa ta) (rvalB sb tb) = none
  cp : rcmpO (rvalB sa ta) (rvalB sb tb) = sgn (n * c - m * d)
theorem MF.mk' {n d m c : Int} (hn : -30000 ≤ n ∧ n ≤ 30000) (hm : -30000 ≤ m ∧ m ≤ 30000) (hd : 1 ≤ d ∧ d ≤ 30000) (hc : 1 ≤ c ∧ c ≤ 30000) : ∃ sa ta sb tb, MF n d m c sa ta sb tb := by
  have pA : Pr 5 5 (Rat.divInt n d) := Pr.divInt (by unfold Pw; omega) (by unfold Pw; omega)
  have pB : Pr 5 5 (Rat.divInt m c) := Pr.divInt (by unfold Pw; omega) (by unfold Pw; omega)
  have vA : rvalB (tx (Rat.divInt n d).num) (tx (Rat.divInt n d).den) = some (Rat.divInt n d) := rvalB_tx (RL_pr pA (by omega) (by omega))
  have vB : rvalB (tx (Rat.divInt m c).num) (tx (Rat.divInt m c).den) = some (Rat.divInt m c) := rvalB_tx (RL_pr pB (by omega) (by omega))
  have hd0 : d ≠ 0 := by omega
  have hc0 : c ≠ 0 := by omega
  refine ⟨tx (Rat.divInt n d).num, tx (Rat.divInt n d).den, tx (Rat.divInt m c).num, tx (Rat.divInt m c).den, ?_, ?_, ?_, ?_, ?_, ?_, ?_, ?_⟩
  · rw [mk2, if_neg hd0]; rfl
  · rw [mk2, if_neg hc0]; rfl
  · rw [vA, vB]
    show radd _ _ = _
    rw [radd_fits pA pB (by omega) (by omega) (by omega), Rat.divInt_add_divInt _ _ hd0 hc0]
  · rw [vA, vB]
    show rsub _ _ = _
    rw [rsub_fits pA pB (by omega) (by omega) (by omega), Rat.divInt_sub_divInt _ _ hd0 hc0]
  · rw [vA, vB]
    show rmul _ _ = _
    rw [rmul_fits pA pB (by omega) (by omega), Rat.divInt_mul_divInt]
  · intro hm0
    rw [vA, vB]
    show rdiv _ _ = _
    have hB : Rat.divInt m c ≠ 0 := fun h => hm0 (by have e := divInt_cross (m := m) hc0; rw [h, show (0 : Rat).num = 0 from rfl, show ((0 : Rat).den : Int) = 1 from rfl] at e; omega)
    rw [rdiv_fits pA pB (by omega) (by omega) hB, Rat.div_def, Rat.inv_divInt, Rat.divInt_mul_divInt]
  · intro hm0
    rw [vA, vB, hm0, Rat.zero_divInt]
    show rdiv _ 0 = none
    unfold rdiv
    simp
  · rw [vA, vB]; exact rcmp_div2 (by omega) (by omega)

end Go.Proofs.YtnhjidbjibehpaaGreatDoor.L4

/- RationalMachine, walked: the law returns true. -/
namespace Go.Proofs.YtnhjidbjibehpaaGreatDoor.L4
open Go.Shelf Go.RowKit Go.Proofs.YtnhjidbjibehpaaGreatDoorW.PrintWords Go.Proofs.YtnhjidbjibehpaaGreatDoorW.PrintLast Go.Proofs.YtnhjidbjibehpaaGreatDoorW.PrintMore Yd L3
set_option linter.unusedVariables false
set_option linter.unusedSimpArgs false
attribute [local go_sem ↓] Go.wp_at_zero Go.wp_at_succ

theorem mul_bound {x y : Int} (hx : -30000 ≤ x ∧ x ≤ 30000) (hy : -30000 ≤ y ∧ y ≤ 30000) : -900000000 ≤ x * y ∧ x * y ≤ 900000000 := by
  have h : (x * y).natAbs ≤ 30000 * 30000 := by rw [Int.natAbs_mul]; exact Nat.mul_le_mul (by omega) (by omega)
  generalize x * y = z at *
  omega

set_option maxRecDepth 100000 in
set_option maxHeartbeats 64000000 in
/-- RationalMachine -/
theorem machine_calls (x0 x1 x2 x3 : Int) (w : World) (hE : Env w) (h0 : I64 x0) (h1 : I64 x1) (h2 : I64 x2) (h3 : I64 x3) :
    Calls Tryz.prog 7 #[.int .i64 x0, .int .i64 x1, .int .i64 x2, .int .i64 x3] w fun e w' => e = .returned (.bool true) ∧ Below w.heap.size w w' := by
  have HE := Aside0.mk hE
  have HB0 := Aside0.mk h0
  have HB1 := Aside0.mk h1
  have HB2 := Aside0.mk h2
  have HB3 := Aside0.mk h3
  clear hE h0 h1 h2 h3
  go_enter Tryz.func7, Tryz.ntmps7
  go_wp2_with fail
  have HL := Aside0.mk (Hq.nil w)
  refine (sane_calls _ (HL.out.env HE.out)).mono ?_
  rintro e V1 ⟨rfl, hb⟩
  have hl := HL.out.next hb
  clear HL hb
  have HL := Aside0.mk hl
  clear hl
  go_wp2_with fail
  refine (p_pick x0 60001 _ HB0.out.1 HB0.out.2 (by omega)).mono ?_
  rintro e V2 ⟨rfl, hb⟩
  have hl := HL.out.next hb
  clear HL hb
  have HL := Aside0.mk hl
  clear hl
  have hp := pk_range x0 (n := 60001) (by omega)
  generalize pk x0 60001 = q at *
  obtain ⟨n, hn⟩ : ∃ u, q - 30000 = u := ⟨_, rfl⟩
  have hw : IntKind.i64.wrap (q - 30000) = n := by rw [IntWalk.i64_in _ (by omega)]; exact hn
  have HN : Aside0 (-30000 ≤ n ∧ n ≤ 30000) := ⟨by omega⟩
  clear hn hp
  go_wp2_with fail
  clear hw
  refine (p_pick x2 60001 _ HB2.out.1 HB2.out.2 (by omega)).mono ?_
  rintro e V3 ⟨rfl, hb⟩
  have hl := HL.out.next hb
  clear HL hb
  have HL := Aside0.mk hl
  clear hl
  have hp := pk_range x2 (n := 60001) (by omega)
  generalize pk x2 60001 = q at *
  obtain ⟨m, hm⟩ : ∃ u, q - 30000 = u := ⟨_, rfl⟩
  have hw : IntKind.i64.wrap (q - 30000) = m := by rw [IntWalk.i64_in _ (by omega)]; exact hm
  have HM : Aside0 (-30000 ≤ m ∧ m ≤ 30000) := ⟨by omega⟩
  clear hm hp
  go_wp2_with fail
  clear hw
  refine (p_pick x1 30000 _ HB1.out.1 HB1.out.2 (by omega)).mono ?_
  rintro e V4 ⟨rfl, hb⟩
  have hl := HL.out.next hb
  clear HL hb
  have HL := Aside0.mk hl
  clear hl
  have hp := pk_range x1 (n := 30000) (by omega)
  generalize pk x1 30000 = q at *
  obtain ⟨d, hd⟩ : ∃ u, 1 + q = u := ⟨_, rfl⟩
  have hw : IntKind.i64.wrap (1 + q) = d := by rw [IntWalk.i64_in _ (by omega)]; exact hd
  have HD : Aside0 (1 ≤ d ∧ d ≤ 30000) := ⟨by omega⟩
  clear hd hp
  go_wp2_with fail
  clear hw
  refine (p_pick x3 30000 _ HB3.out.1 HB3.out.2 (by omega)).mono ?_
  rintro e V5 ⟨rfl, hb⟩
  have hl := HL.out.next hb
  clear HL hb
  have HL := Aside0.mk hl
  clear hl
  have hp := pk_range x3 (n := 30000) (by omega)
  generalize pk x3 30000 = q at *
  obtain ⟨c, hc⟩ : ∃ u, 1 + q = u := ⟨_, rfl⟩
  have hw : IntKind.i64.wrap (1 + q) = c := by rw [IntWalk.i64_in _ (by omega)]; exact hc
  have HC : Aside0 (1 ≤ c ∧ c ≤ 30000) := ⟨by omega⟩
  clear hc hp
  go_wp2_with fail
  clear hw
  have hn := HN.out
  have hm := HM.out
  have hd := HD.out
  have hc := HC.out
  obtain ⟨sa, ta, sb, tb, hmf⟩ := MF.mk' hn hm hd hc
  have HF := Aside0.mk hmf
  clear hmf
  refine (p_of n d _ (HL.out.env HE.out) (by have := HN.out; omega) (by have := HN.out; omega) (by have := HD.out; omega) (by have := HD.out; omega)).mono ?_
  rintro e V6 ⟨rfl, hb⟩
  rw [HF.out.a]
  unfold ratV
  have hl := HL.out.next hb
  clear HL hb
  replace hl := (hl.push (.cells #[.string sa, .string ta] 23))
  try simp only [World.size_alloc] at hl
  replace hl : Hq [(V6.heap.size, .cells #[.string sa, .string ta] 23)] w (V6.alloc (.cells #[.string sa, .string ta] 23)) := hl
  have HL := Aside0.mk hl
  clear hl
  go_wp2_with fail
  generalize (V6.alloc (.cells #[.string sa, .string ta] 23)) = W6 at *
  generalize V6.heap.size = a_a at *
  refine (p_of m c _ (HL.out.env HE.out) (by have := HM.out; omega) (by have := HM.out; omega) (by have := HC.out; omega) (by have := HC.out; omega)).mono ?_
  rintro e V7 ⟨rfl, hb⟩
  rw [HF.out.b]
  unfold ratV
  have hl := HL.out.next hb
  clear HL hb
  replace hl := (hl.push (.cells #[.string sb, .string tb] 23))
  try simp only [World.size_alloc] at hl
  replace hl : Hq [(V7.heap.size, .cells #[.string sb, .string tb] 23), (a_a, .cells #[.string sa, .string ta] 23)] w (V7.alloc (.cells #[.string sb, .string tb] 23)) := hl
  obtain ⟨c_a0, c_a1, -, -⟩ := pair_facts (hl.at 1 rfl)
  obtain ⟨c_b0, c_b1, -, -⟩ := pair_facts (hl.at 0 rfl)
  have HL := Aside0.mk hl
  clear hl
  go_wp2_with fail
  generalize (V7.alloc (.cells #[.string sb, .string tb] 23)) = W7 at *
  generalize V7.heap.size = a_b at *
  obtain ⟨p0, hp0⟩ : ∃ q, rbin radd (rvalB sa ta) (rvalB sb tb) = q := ⟨_, rfl⟩
  have HP0 := Aside0.mk hp0
  clear hp0
  obtain ⟨p1, hp1⟩ : ∃ q, rbin rsub (rvalB sa ta) (rvalB sb tb) = q := ⟨_, rfl⟩
  have HP1 := Aside0.mk hp1
  clear hp1
  obtain ⟨p2, hp2⟩ : ∃ q, rbin rmul (rvalB sa ta) (rvalB sb tb) = q := ⟨_, rfl⟩
  have HP2 := Aside0.mk hp2
  clear hp2
  obtain ⟨p3, hp3⟩ : ∃ q, rbin rdiv (rvalB sa ta) (rvalB sb tb) = q := ⟨_, rfl⟩
  have HP3 := Aside0.mk hp3
  clear hp3
  obtain ⟨nc, hnc⟩ : ∃ u, n * c = u := ⟨_, rfl⟩
  obtain ⟨md, hmd⟩ : ∃ u, m * d = u := ⟨_, rfl⟩
  obtain ⟨dc, hdc⟩ : ∃ u, d * c = u := ⟨_, rfl⟩
  obtain ⟨nm, hnm⟩ : ∃ u, n * m = u := ⟨_, rfl⟩
  obtain ⟨dm, hdm⟩ : ∃ u, d * m = u := ⟨_, rfl⟩
  have bnc := mul_bound (x := n) (y := c) (by omega) (by omega)
  have bmd := mul_bound (x := m) (y := d) (by omega) (by omega)
  have bdc := mul_bound (x := d) (y := c) (by omega) (by omega)
  have bnm := mul_bound (x := n) (y := m) (by omega) (by omega)
  have bdm := mul_bound (x := d) (y := m) (by omega) (by omega)
  have pdc : 0 < d * c := Int.mul_pos (by omega) (by omega)
  have pdm : m ≠ 0 → d * m ≠ 0 := fun h => Int.mul_ne_zero (by omega) h
  rw [hnc] at bnc
  rw [hmd] at bmd
  rw [hdc] at bdc pdc
  rw [hnm] at bnm
  rw [hdm] at bdm pdm
  have q0 := HF.out.p0
  have q1 := HF.out.p1
  have q2 := HF.out.p2
  have q3 := HF.out.p3
  have q4 := HF.out.p4
  have q5 := HF.out.cp
  rw [HP0.out, hnc, hmd, hdc] at q0
  rw [HP1.out, hnc, hmd, hdc] at q1
  rw [HP2.out, hnm, hdc] at q2
  rw [HP3.out, hnc, hdm] at q3
  rw [HP3.out] at q4
  rw [hnc, hmd] at q5
  have HCP := Aside0.mk q5
  obtain ⟨nu0, de0, z0, hi0⟩ := MI.mk' q0 (by omega) (by omega) (by omega)
  obtain ⟨nu1, de1, z1, hi1⟩ := MI.mk' q1 (by omega) (by omega) (by omega)
  obtain ⟨nu2, de2, z2, hi2⟩ := MI.mk' q2 (by omega) (by omega) (by omega)
  have hi3 : m ≠ 0 → ∃ nu de z, MI p3 nc dm nu de z := fun h => MI.mk' (q3 h) (pdm h) (by omega) (by omega)
  have hi4 : m = 0 → oK p3 = 40 ∧ oS p3 = ⟨#[]⟩ ∧ oT p3 = ⟨#[]⟩ := fun h => by rw [q4 h]; exact ⟨rfl, rfl, rfl⟩
  have HI0 := Aside0.mk hi0
  have HI1 := Aside0.mk hi1
  have HI2 := Aside0.mk hi2
  have HI3 := Aside0.mk hi3
  have HI4 := Aside0.mk hi4
  have w_nc : IntKind.i64.wrap (n * c) = nc := by rw [hnc]; exact IntWalk.i64_in _ (by omega)
  have w_md : IntKind.i64.wrap (m * d) = md := by rw [hmd]; exact IntWalk.i64_in _ (by omega)
  have w_dc : IntKind.i64.wrap (d * c) = dc := by rw [hdc]; exact IntWalk.i64_in _ (by omega)
  have w_nm : IntKind.i64.wrap (n * m) = nm := by rw [hnm]; exact IntWalk.i64_in _ (by omega)
  have w_dm : IntKind.i64.wrap (d * m) = dm := by rw [hdm]; exact IntWalk.i64_in _ (by omega)
  have w_s : IntKind.i64.wrap (nc + md) = nc + md := IntWalk.i64_in _ (by omega)
  have w_t : IntKind.i64.wrap (nc - md) = nc - md := IntWalk.i64_in _ (by omega)
  have HW1 := Aside0.mk w_nc
  have HW2 := Aside0.mk w_md
  clear q0 q1 q2 q3 q4 q5 hi0 hi1 hi2 hi3 hi4 hnc hmd hdc hnm hdm bnc bmd bdc bnm bdm pdc pdm hn hm hd hc
  clear c_a0 c_a1 c_b0 c_b1
  refine (four_calls sa ta sb tb _ (HL.out.env HE.out)).mono ?_
  rintro e V8 ⟨rfl, hb⟩
  unfold fourV
  rw [HP0.out, HP1.out, HP2.out, HP3.out]
  have hl := HL.out.next hb
  clear HL hb
  replace hl := ((hl.push (.cells #[.string (oS p0), .string (oT p0), .string (oS p1), .string (oT p1), .string (oS p2), .string (oT p2), .string (oS p3), .string (oT p3)] 49)).push (.cells #[.int .i64 (oK p0), .int .i64 (oK p1), .int .i64 (oK p2), .int .i64 (oK p3)] 50))
  try simp only [World.size_alloc] at hl
  replace hl : Hq [(V8.heap.size + 1, .cells #[.int .i64 (oK p0), .int .i64 (oK p1), .int .i64 (oK p2), .int .i64 (oK p3)] 50), (V8.heap.size, .cells #[.string (oS p0), .string (oT p0), .string (oS p1), .string (oT p1), .string (oS p2), .string (oT p2), .string (oS p3), .string (oT p3)] 49), (a_b, .cells #[.string sb, .string tb] 23), (a_a, .cells #[.string sa, .string ta] 23)] w ((V8.alloc (.cells #[.string (oS p0), .string (oT p0), .string (oS p1), .string (oT p1), .string (oS p2), .string (oT p2), .string (oS p3), .string (oT p3)] 49)).alloc (.cells #[.int .i64 (oK p0), .int .i64 (oK p1), .int .i64 (oK p2), .int .i64 (oK p3)] 50)) := hl
  have HL := Aside0.mk hl
  clear hl
  go_upto_region 9 with (fail)
  generalize ((V8.alloc (.cells #[.string (oS p0), .string (oT p0), .string (oS p1), .string (oT p1), .string (oS p2), .string (oT p2), .string (oS p3), .string (oT p3)] 49)).alloc (.cells #[.int .i64 (oK p0), .int .i64 (oK p1), .int .i64 (oK p2), .int .i64 (oK p3)] 50)) = W8 at *
  generalize V8.heap.size + 1 = a_e at *
  generalize V8.heap.size = a_r at *
  have hl := HL.out.push (.cells #[.int .i64 (nc + md), .int .i64 dc, .int .i64 (nc - md), .int .i64 dc, .int .i64 nm, .int .i64 dc, .int .i64 nc, .int .i64 dm] 57)
  clear HL
  have HL := Aside0.mk hl
  clear hl
  go_upto_region 10 with (fail)
  generalize W8.alloc (.cells #[.int .i64 (nc + md), .int .i64 dc, .int .i64 (nc - md), .int .i64 dc, .int .i64 nm, .int .i64 dc, .int .i64 nc, .int .i64 dm] 57) = W9 at *
  generalize W8.heap.size = a_w at *
  clear w_nc w_md w_dc w_nm w_dm w_s w_t
  go_wp2_with fail
  go_loopg [17] 4 (fun jq v17 wr => ∃ i : Int, v17 = .int .i64 i ∧ 0 ≤ i ∧ i + jq = 4 ∧ Aside0 (Hq [(a_w, .cells #[.int .i64 (nc + md), .int .i64 dc, .int .i64 (nc - md), .int .i64 dc, .int .i64 nm, .int .i64 dc, .int .i64 nc, .int .i64 dm] 57), (a_e, .cells #[.int .i64 (oK p0), .int .i64 (oK p1), .int .i64 (oK p2), .int .i64 (oK p3)] 50), (a_r, .cells #[.string (oS p0), .string (oT p0), .string (oS p1), .string (oT p1), .string (oS p2), .string (oT p2), .string (oS p3), .string (oT p3)] 49), (a_b, .cells #[.string sb, .string tb] 23), (a_a, .cells #[.string sa, .string ta] 23)] w wr))
  case atStart => exact ⟨0, rfl, by omega, by omega, HL⟩
  case round =>
    clear HL
    obtain ⟨i, rfl, hi0, hi, HL⟩ := hrel
    have hi' : i = 0 ∨ i = 1 ∨ i = 2 ∨ i = 3 ∨ i = 4 := by omega
    rcases hi' with rfl | rfl | rfl | rfl | rfl
    · as_aux_lemma =>
        obtain rfl : gk = 4 := by omega
        clear hi0 hi
        have HI := HI0
        have hl := HL.out
        obtain ⟨⟨c_r0, c_r1, c_r2, c_r3, c_r4, c_r5, c_r6, c_r7⟩, -⟩ := oct_facts (hl.at 2 rfl)
        clear hl
        go_wp2_with fail
        clear c_r0 c_r1 c_r2 c_r3 c_r4 c_r5 c_r6 c_r7
        refine (q_toInt HI.out.s (by have := HI.out.b; omega) _).mono ?_
        rintro e V101 ⟨rfl, hb⟩
        have hl := HL.out.next hb
        clear HL hb
        obtain ⟨⟨c_r0, c_r1, c_r2, c_r3, c_r4, c_r5, c_r6, c_r7⟩, -⟩ := oct_facts (hl.at 2 rfl)
        have HL := Aside0.mk hl
        clear hl
        go_wp2_with fail
        clear c_r0 c_r1 c_r2 c_r3 c_r4 c_r5 c_r6 c_r7
        refine (q_toInt HI.out.t (by have := HI.out.b; omega) _).mono ?_
        rintro e V102 ⟨rfl, hb⟩
        have hl := HL.out.next hb
        clear HL hb
        obtain ⟨⟨c_r0, c_r1, c_r2, c_r3, c_r4, c_r5, c_r6, c_r7⟩, -⟩ := oct_facts (hl.at 2 rfl)
        obtain ⟨⟨c_e0, c_e1, c_e2, c_e3⟩, -⟩ := quad_facts (hl.at 1 rfl)
        obtain ⟨⟨c_w0, c_w1, c_w2, c_w3, c_w4, c_w5, c_w6, c_w7⟩, -⟩ := oct_facts (hl.at 0 rfl)
        have HL := Aside0.mk hl
        clear hl
        go_upto_region 18 with (fail)
        have HV := Aside0.mk HI.out.v
        have hw1 := HI.out.w1
        have hw2 := HI.out.w2
        have hk := HI.out.k
        rw [hk] at c_e0
        have d1 : decide (de0 < 1) = false := decide_eq_false (by have := HI.out.b; omega)
        clear hk
        clear c_r2 c_r3 c_r4 c_r5 c_r6 c_r7 c_e1 c_e2 c_e3 c_w2 c_w3 c_w4 c_w5 c_w6 c_w7
        have hl := HL.out.drew
        clear HL
        have HL := Aside0.mk hl
        clear hl
        go_region_held3 (fun w' => w'.cell? ⟨a_r, 0, none⟩ = some (.string (oS p0)) ∧ w'.cell? ⟨a_r, 1, none⟩ = some (.string (oT p0)) ∧ w'.cell? ⟨a_w, 0, none⟩ = some (.int .i64 (nc + md)) ∧ w'.cell? ⟨a_w, 1, none⟩ = some (.int .i64 dc) ∧ w'.cell? ⟨a_e, 0, none⟩ = some (.int .i64 0)) (first | exact ⟨c_r0, c_r1, c_w0, c_w1, c_e0⟩ | go_keep) (first
          | (go_at_call 17; (with_reducible refine (p_valid (oS p0) (oT p0) _ (HL.out.env HE.out)).mono ?_); rintro e V90 ⟨rfl, hb⟩; have hl := HL.out.next hb; clear HL c_r0 c_r1 c_w0 c_w1 c_e0; rw [HV.out]; obtain ⟨⟨c_r0, c_r1, -, -, -, -, -, -⟩, -⟩ := oct_facts (hl.at 2 rfl); obtain ⟨⟨c_w0, c_w1, -, -, -, -, -, -⟩, -⟩ := oct_facts (hl.at 0 rfl); obtain ⟨⟨c_e0, -, -, -⟩, -⟩ := quad_facts (hl.at 1 rfl); rw [HI.out.k] at c_e0; have HL := Aside0.mk hl; clear hb hl))
        all_goals
          go_wp2_with fail
          go_roundg 3
          case measure => omega
          case rel => exact ⟨1, rfl, by omega, by omega, HL⟩
    · as_aux_lemma =>
        obtain rfl : gk = 3 := by omega
        clear hi0 hi
        have HI := HI1
        have hl := HL.out
        obtain ⟨⟨c_r0, c_r1, c_r2, c_r3, c_r4, c_r5, c_r6, c_r7⟩, -⟩ := oct_facts (hl.at 2 rfl)
        clear hl
        go_wp2_with fail
        clear c_r0 c_r1 c_r2 c_r3 c_r4 c_r5 c_r6 c_r7
        refine (q_toInt HI.out.s (by have := HI.out.b; omega) _).mono ?_
        rintro e V201 ⟨rfl, hb⟩
        have hl := HL.out.next hb
        clear HL hb
        obtain ⟨⟨c_r0, c_r1, c_r2, c_r3, c_r4, c_r5, c_r6, c_r7⟩, -⟩ := oct_facts (hl.at 2 rfl)
        have HL := Aside0.mk hl
        clear hl
        go_wp2_with fail
        clear c_r0 c_r1 c_r2 c_r3 c_r4 c_r5 c_r6 c_r7
        refine (q_toInt HI.out.t (by have := HI.out.b; omega) _).mono ?_
        rintro e V202 ⟨rfl, hb⟩
        have hl := HL.out.next hb
        clear HL hb
        obtain ⟨⟨c_r0, c_r1, c_r2, c_r3, c_r4, c_r5, c_r6, c_r7⟩, -⟩ := oct_facts (hl.at 2 rfl)
        obtain ⟨⟨c_e0, c_e1, c_e2, c_e3⟩, -⟩ := quad_facts (hl.at 1 rfl)
        obtain ⟨⟨c_w0, c_w1, c_w2, c_w3, c_w4, c_w5, c_w6, c_w7⟩, -⟩ := oct_facts (hl.at 0 rfl)
        have HL := Aside0.mk hl
        clear hl
        go_upto_region 18 with (fail)
        have HV := Aside0.mk HI.out.v
        have hw1 := HI.out.w1
        have hw2 := HI.out.w2
        have hk := HI.out.k
        rw [hk] at c_e1
        have d1 : decide (de1 < 1) = false := decide_eq_false (by have := HI.out.b; omega)
        clear hk
        clear c_r0 c_r1 c_r4 c_r5 c_r6 c_r7 c_e0 c_e2 c_e3 c_w0 c_w1 c_w4 c_w5 c_w6 c_w7
        have hl := HL.out.drew
        clear HL
        have HL := Aside0.mk hl
        clear hl
        go_region_held3 (fun w' => w'.cell? ⟨a_r, 2, none⟩ = some (.string (oS p1)) ∧ w'.cell? ⟨a_r, 3, none⟩ = some (.string (oT p1)) ∧ w'.cell? ⟨a_w, 2, none⟩ = some (.int .i64 (nc - md)) ∧ w'.cell? ⟨a_w, 3, none⟩ = some (.int .i64 dc) ∧ w'.cell? ⟨a_e, 1, none⟩ = some (.int .i64 0)) (first | exact ⟨c_r2, c_r3, c_w2, c_w3, c_e1⟩ | go_keep) (first
          | (go_at_call 17; (with_reducible refine (p_valid (oS p1) (oT p1) _ (HL.out.env HE.out)).mono ?_); rintro e V90 ⟨rfl, hb⟩; have hl := HL.out.next hb; clear HL c_r2 c_r3 c_w2 c_w3 c_e1; rw [HV.out]; obtain ⟨⟨-, -, c_r2, c_r3, -, -, -, -⟩, -⟩ := oct_facts (hl.at 2 rfl); obtain ⟨⟨-, -, c_w2, c_w3, -, -, -, -⟩, -⟩ := oct_facts (hl.at 0 rfl); obtain ⟨⟨-, c_e1, -, -⟩, -⟩ := quad_facts (hl.at 1 rfl); rw [HI.out.k] at c_e1; have HL := Aside0.mk hl; clear hb hl))
        all_goals
          go_wp2_with fail
          go_roundg 2
          case measure => omega
          case rel => exact ⟨2, rfl, by omega, by omega, HL⟩
    · as_aux_lemma =>
        obtain rfl : gk = 2 := by omega
        clear hi0 hi
        have HI := HI2
        have hl := HL.out
        obtain ⟨⟨c_r0, c_r1, c_r2, c_r3, c_r4, c_r5, c_r6, c_r7⟩, -⟩ := oct_facts (hl.at 2 rfl)
        clear hl
        go_wp2_with fail
        clear c_r0 c_r1 c_r2 c_r3 c_r4 c_r5 c_r6 c_r7
        refine (q_toInt HI.out.s (by have := HI.out.b; omega) _).mono ?_
        rintro e V301 ⟨rfl, hb⟩
        have hl := HL.out.next hb
        clear HL hb
        obtain ⟨⟨c_r0, c_r1, c_r2, c_r3, c_r4, c_r5, c_r6, c_r7⟩, -⟩ := oct_facts (hl.at 2 rfl)
        have HL := Aside0.mk hl
        clear hl
        go_wp2_with fail
        clear c_r0 c_r1 c_r2 c_r3 c_r4 c_r5 c_r6 c_r7
        refine (q_toInt HI.out.t (by have := HI.out.b; omega) _).mono ?_
        rintro e V302 ⟨rfl, hb⟩
        have hl := HL.out.next hb
        clear HL hb
        obtain ⟨⟨c_r0, c_r1, c_r2, c_r3, c_r4, c_r5, c_r6, c_r7⟩, -⟩ := oct_facts (hl.at 2 rfl)
        obtain ⟨⟨c_e0, c_e1, c_e2, c_e3⟩, -⟩ := quad_facts (hl.at 1 rfl)
        obtain ⟨⟨c_w0, c_w1, c_w2, c_w3, c_w4, c_w5, c_w6, c_w7⟩, -⟩ := oct_facts (hl.at 0 rfl)
        have HL := Aside0.mk hl
        clear hl
        go_upto_region 18 with (fail)
        have HV := Aside0.mk HI.out.v
        have hw1 := HI.out.w1
        have hw2 := HI.out.w2
        have hk := HI.out.k
        rw [hk] at c_e2
        have d1 : decide (de2 < 1) = false := decide_eq_false (by have := HI.out.b; omega)
        clear hk
        clear c_r0 c_r1 c_r2 c_r3 c_r6 c_r7 c_e0 c_e1 c_e3 c_w0 c_w1 c_w2 c_w3 c_w6 c_w7
        have hl := HL.out.drew
        clear HL
        have HL := Aside0.mk hl
        clear hl
        go_region_held3 (fun w' => w'.cell? ⟨a_r, 4, none⟩ = some (.string (oS p2)) ∧ w'.cell? ⟨a_r, 5, none⟩ = some (.string (oT p2)) ∧ w'.cell? ⟨a_w, 4, none⟩ = some (.int .i64 nm) ∧ w'.cell? ⟨a_w, 5, none⟩ = some (.int .i64 dc) ∧ w'.cell? ⟨a_e, 2, none⟩ = some (.int .i64 0)) (first | exact ⟨c_r4, c_r5, c_w4, c_w5, c_e2⟩ | go_keep) (first
          | (go_at_call 17; (with_reducible refine (p_valid (oS p2) (oT p2) _ (HL.out.env HE.out)).mono ?_); rintro e V90 ⟨rfl, hb⟩; have hl := HL.out.next hb; clear HL c_r4 c_r5 c_w4 c_w5 c_e2; rw [HV.out]; obtain ⟨⟨-, -, -, -, c_r4, c_r5, -, -⟩, -⟩ := oct_facts (hl.at 2 rfl); obtain ⟨⟨-, -, -, -, c_w4, c_w5, -, -⟩, -⟩ := oct_facts (hl.at 0 rfl); obtain ⟨⟨-, -, c_e2, -⟩, -⟩ := quad_facts (hl.at 1 rfl); rw [HI.out.k] at c_e2; have HL := Aside0.mk hl; clear hb hl))
        all_goals
          go_wp2_with fail
          go_roundg 1
          case measure => omega
          case rel => exact ⟨3, rfl, by omega, by omega, HL⟩
    · by_cases hm0 : m = 0
      · as_aux_lemma =>
          obtain rfl : gk = 1 := by omega
          clear hi0 hi
          have t3 : (m == 0) = true := by rw [hm0]; rfl
          obtain ⟨k1, k2, k3⟩ := HI4.out hm0
          clear hm0
          have hl := HL.out
          obtain ⟨⟨c_r0, c_r1, c_r2, c_r3, c_r4, c_r5, c_r6, c_r7⟩, -⟩ := oct_facts (hl.at 2 rfl)
          obtain ⟨⟨c_e0, c_e1, c_e2, c_e3⟩, -⟩ := quad_facts (hl.at 1 rfl)
          clear hl
          rw [k1] at c_e3
          rw [k2] at c_r6
          rw [k3] at c_r7
          clear k1 k2 k3
          go_wp2_with fail
          go_roundg 0
          case measure => omega
          case rel => exact ⟨4, rfl, by omega, by omega, HL⟩
      · as_aux_lemma =>
          obtain rfl : gk = 1 := by omega
          clear hi0 hi
          have t3 : (m == 0) = false := by rw [beq_eq_false_iff_ne]; exact hm0
          obtain ⟨nu3, de3, z3, hi3⟩ := HI3.out hm0
          have HI := Aside0.mk hi3
          clear hi3 hm0
          have hl := HL.out
          obtain ⟨⟨c_r0, c_r1, c_r2, c_r3, c_r4, c_r5, c_r6, c_r7⟩, -⟩ := oct_facts (hl.at 2 rfl)
          clear hl
          go_wp2_with fail
          clear c_r0 c_r1 c_r2 c_r3 c_r4 c_r5 c_r6 c_r7
          refine (q_toInt HI.out.s (by have := HI.out.b; omega) _).mono ?_
          rintro e V401 ⟨rfl, hb⟩
          have hl := HL.out.next hb
          clear HL hb
          obtain ⟨⟨c_r0, c_r1, c_r2, c_r3, c_r4, c_r5, c_r6, c_r7⟩, -⟩ := oct_facts (hl.at 2 rfl)
          have HL := Aside0.mk hl
          clear hl
          go_wp2_with fail
          clear c_r0 c_r1 c_r2 c_r3 c_r4 c_r5 c_r6 c_r7
          refine (q_toInt HI.out.t (by have := HI.out.b; omega) _).mono ?_
          rintro e V402 ⟨rfl, hb⟩
          have hl := HL.out.next hb
          clear HL hb
          obtain ⟨⟨c_r0, c_r1, c_r2, c_r3, c_r4, c_r5, c_r6, c_r7⟩, -⟩ := oct_facts (hl.at 2 rfl)
          obtain ⟨⟨c_e0, c_e1, c_e2, c_e3⟩, -⟩ := quad_facts (hl.at 1 rfl)
          obtain ⟨⟨c_w0, c_w1, c_w2, c_w3, c_w4, c_w5, c_w6, c_w7⟩, -⟩ := oct_facts (hl.at 0 rfl)
          have HL := Aside0.mk hl
          clear hl
          go_upto_region 18 with (fail)
          have HV := Aside0.mk HI.out.v
          have hw1 := HI.out.w1
          have hw2 := HI.out.w2
          have hk := HI.out.k
          rw [hk] at c_e3
          have d1 : decide (de3 < 1) = false := decide_eq_false (by have := HI.out.b; omega)
          clear hk
          clear c_r0 c_r1 c_r2 c_r3 c_r4 c_r5 c_e0 c_e1 c_e2 c_w0 c_w1 c_w2 c_w3 c_w4 c_w5
          have hl := HL.out.drew
          clear HL
          have HL := Aside0.mk hl
          clear hl
          go_region_held3 (fun w' => w'.cell? ⟨a_r, 6, none⟩ = some (.string (oS p3)) ∧ w'.cell? ⟨a_r, 7, none⟩ = some (.string (oT p3)) ∧ w'.cell? ⟨a_w, 6, none⟩ = some (.int .i64 nc) ∧ w'.cell? ⟨a_w, 7, none⟩ = some (.int .i64 dm) ∧ w'.cell? ⟨a_e, 3, none⟩ = some (.int .i64 0)) (first | exact ⟨c_r6, c_r7, c_w6, c_w7, c_e3⟩ | go_keep) (first
            | (go_at_call 17; (with_reducible refine (p_valid (oS p3) (oT p3) _ (HL.out.env HE.out)).mono ?_); rintro e V90 ⟨rfl, hb⟩; have hl := HL.out.next hb; clear HL c_r6 c_r7 c_w6 c_w7 c_e3; rw [HV.out]; obtain ⟨⟨-, -, -, -, -, -, c_r6, c_r7⟩, -⟩ := oct_facts (hl.at 2 rfl); obtain ⟨⟨-, -, -, -, -, -, c_w6, c_w7⟩, -⟩ := oct_facts (hl.at 0 rfl); obtain ⟨⟨-, -, -, c_e3⟩, -⟩ := quad_facts (hl.at 1 rfl); rw [HI.out.k] at c_e3; have HL := Aside0.mk hl; clear hb hl))
          all_goals
            go_wp2_with fail
            go_roundg 0
            case measure => omega
            case rel => exact ⟨4, rfl, by omega, by omega, HL⟩
    · as_aux_lemma =>
        obtain rfl : gk = 0 := by omega
        clear hi0 hi
        have w_nc := HW1.out
        have w_md := HW2.out
        have hl := HL.out
        obtain ⟨c_a0, c_a1, -, -⟩ := pair_facts (hl.at 4 rfl)
        obtain ⟨c_b0, c_b1, -, -⟩ := pair_facts (hl.at 3 rfl)
        clear hl
        have h3 : nc < md ∨ nc = md ∨ md < nc := by omega
        rcases h3 with h3 | h3 | h3
        · as_aux_lemma =>
            have HS : Aside0 (sgn (nc - md) = -1) := ⟨by unfold sgn; split <;> (try split) <;> omega⟩
            have d1 : decide (nc < md) = true := decide_eq_true (by omega)
            have d2 : decide (md < nc) = false := decide_eq_false (by omega)
            clear h3
            go_wp2_with fail
            refine (p_cmp sa ta sb tb _ (HL.out.env HE.out)).mono ?_
            rintro e V951 ⟨rfl, hb⟩
            rw [HCP.out, HS.out]
            have hl := HL.out.next hb
            clear HL hb
            have HL := Aside0.mk hl
            clear hl
            go_wp2_with fail
            go_ret
            exact ⟨rfl, HL.out.bl⟩
        · as_aux_lemma =>
            have HS : Aside0 (sgn (nc - md) = 0) := ⟨by unfold sgn; split <;> (try split) <;> omega⟩
            have d1 : decide (nc < md) = false := decide_eq_false (by omega)
            have d2 : decide (md < nc) = false := decide_eq_false (by omega)
            clear h3
            go_wp2_with fail
            refine (p_cmp sa ta sb tb _ (HL.out.env HE.out)).mono ?_
            rintro e V951 ⟨rfl, hb⟩
            rw [HCP.out, HS.out]
            have hl := HL.out.next hb
            clear HL hb
            have HL := Aside0.mk hl
            clear hl
            go_wp2_with fail
            go_ret
            exact ⟨rfl, HL.out.bl⟩
        · as_aux_lemma =>
            have HS : Aside0 (sgn (nc - md) = 1) := ⟨by unfold sgn; split <;> (try split) <;> omega⟩
            have d1 : decide (nc < md) = false := decide_eq_false (by omega)
            have d2 : decide (md < nc) = true := decide_eq_true (by omega)
            clear h3
            go_wp2_with fail
            refine (p_cmp sa ta sb tb _ (HL.out.env HE.out)).mono ?_
            rintro e V951 ⟨rfl, hb⟩
            rw [HCP.out, HS.out]
            have hl := HL.out.next hb
            clear HL hb
            have HL := Aside0.mk hl
            clear hl
            go_wp2_with fail
            go_ret
            exact ⟨rfl, HL.out.bl⟩

end Go.Proofs.YtnhjidbjibehpaaGreatDoor.L4

/- RationalMachine: for all arguments the law returns true, and its arguments read as they did; under the row's conditions (the package-level variables that the row lists hold what the program's text lays). The tied card. -/
namespace Go.Proofs.YtnhjidbjibehpaaGreatDoor.RationalMachineC
open Go.ChangeShapes Go.WideShapes Go.ChangeAt Go.RowKit

set_option maxRecDepth 100000 in
theorem lifted (os : Os) (started : os.Started) (H : Type) (enc : TypeId × Value → H) :
    ReturnsInHanded {} Tryz.checked os 7 .any (fun w args => (Rows.rationalMachineSpec.pre enc Tryz.prog Tryz.f7 Rows.rationalMachineRow.domain false w args ∧ laidMetH Tryz.prog lst w) ∧ sizedMet enc Tryz.prog Tryz.f7 (OpenSpec.ofChange Rows.rationalMachineSpec) false w args)
      (Rows.rationalMachineSpec.post enc Tryz.prog Tryz.f7 false true false false) := by
  refine framed (C := Tryz.checked) (X := fun w _ => laidMetH Tryz.prog lst w) (fun _ _ _ hh h => h.of_heap hh) own started (by kernel_rfl) Tryz.func7
    (ChangeSpec.witness_shaped (enc := enc) (C := Tryz.checked) (os := os) (X := fun w _ => laidMetH Tryz.prog lst w) false (World.laidAll Tryz.prog os lst) #[.int .i64 0, .int .i64 0, .int .i64 0, .int .i64 0] 8 (World.laidAll_os _ _ _)
      (World.shaped_of_ZipB (by kernel_rfl) (by kernel_rfl)) (by kernel_rfl) (by kernel_rfl) (by kernel_rfl)
      (by rw [MakeChecks.laidMetH_plain _ _ _ (by kernel_rfl)]; exact laidMet_laidAll _ (by kernel_rfl) (by kernel_rfl))) ?_
  intro W base args ds gs before hval0 hW hsz0 hL hsh
  have hE := env_of hL hsh
  have hval : ∀ (j : Nat) t v, Tryz.f7.params[j]? = some t → args[j]? = some v → Value.okWide Tryz.prog W .any base t v := hval0
  have hW' := hW
  obtain ⟨p, q, hA0, hV, rfl, hfz, hnd⟩ := hW
  have hA : DataW.TrodAll enc Tryz.prog W 0 (fun _ => true) true Tryz.f7.params.toList args.toList ds p := hA0
  rw [Tryz.params7] at hA hval
  obtain ⟨v0, vs0, d0, ds0, p0, q0, hargs, rfl, rfl, h0, r0⟩ := trodAll_cons hA
  obtain ⟨v1, vs1, d1, ds1, p1, q1, rfl, rfl, rfl, h1, r1⟩ := trodAll_cons r0
  obtain ⟨v2, vs2, d2, ds2, p2, q2, rfl, rfl, rfl, h2, r2⟩ := trodAll_cons r1
  obtain ⟨v3, vs3, d3, ds3, p3, q3, rfl, rfl, rfl, h3, r3⟩ := trodAll_cons r2
  obtain ⟨rfl, rfl, rfl⟩ := trodAll_nil r3
  obtain rfl : args = #[v0, v1, v2, v3] := by cases args; simp_all
  obtain ⟨rfl, rfl⟩ := trodVars_none hV
  have c1 : Tryz.prog.cellsOf 3 = 1 := by kernel_rfl
  obtain ⟨a0, rfl, rfl, rfl, w0⟩ := open_int Tryz.underlying3 (hval 0 3 v0 rfl rfl) h0
  obtain ⟨a1, rfl, rfl, rfl, w1⟩ := open_int Tryz.underlying3 (hval 1 3 v1 rfl rfl) h1
  obtain ⟨a2, rfl, rfl, rfl, w2⟩ := open_int Tryz.underlying3 (hval 2 3 v2 rfl rfl) h2
  obtain ⟨a3, rfl, rfl, rfl, w3⟩ := open_int Tryz.underlying3 (hval 3 3 v3 rfl rfl) h3
  clear hA0 hval0 hsz0
  refine (L4.machine_calls a0 a1 a2 a3 W hE (i64_bounds w0) (i64_bounds w1) (i64_bounds w2) (i64_bounds w3)).mono fun e W' ⟨he, bel⟩ => ?_
  subst he
  exact ⟨_, rfl, _, _, _, [], _, [], hW', trodAll_mk1 (shut_bool Tryz.underlying4 _), (trodAll_cons_mk (shut_int Tryz.underlying3 w0) (trodAll_cons_mk (shut_int Tryz.underlying3 w1) (trodAll_cons_mk (shut_int Tryz.underlying3 w2) (trodAll_cons_mk (shut_int Tryz.underlying3 w3) trodAll_mk0)))), rfl, bel.frame _, fun h => by cases h⟩
theorem over : Rows.rationalMachineRow.holds Tryz.pinned (OpenSpec.ofChange Rows.rationalMachineSpec) :=
  OpenClaim.holds_of_wide 7 Tryz.f7 rfl rfl rfl rfl rfl rfl rfl ⟨rfl, rfl, rfl, rfl, rfl⟩ rfl rfl rfl rfl rfl (by kernel_rfl) Tryz.func7 (by kernel_rfl)
    (of_decide_eq_true (by kernel_rfl)) (by unfold Func.isWrapper; first | (rw [if_pos (by decide +kernel)]; kernel_rfl) | (rw [if_neg (by decide +kernel)]; exact ⟨rfl, rfl⟩))
    (fun os started H enc _ => lifted os started H enc)

theorem card : Rows.RationalMachineCardSaid :=
  Claim7.holds_tied_plain_at .later [] [.data, .data, .data, .data, .sentinel, .sentinel, .pinned] true (true, "4dc10a88129ae4622e584b13318755c8b0b35b8a8bca651b717609842bef8677") true
    over (fun _ h => by cases h) (by kernel_rfl) (fun _ h => by cases h) rationalMachine_row_tie rfl ⟨rfl, rfl⟩ (by kernel_rfl) rfl
    (fun f fn hf hfn => by
      obtain rfl : f = 7 := Option.some.inj ((show Tryz.prog.funcNamed "yardstick/yardsticklaw04.RationalMachine" = some 7 by kernel_rfl).symm.trans hf) |>.symm
      obtain rfl : fn = Tryz.f7 := (Option.some.inj (Tryz.func7.symm.trans hfn)).symm
      exact ⟨by kernel_rfl, fun j t ht => by
        rw [Tryz.params7] at ht
        have hm : t ∈ [3, 3, 3, 3] := by simpa using Array.mem_of_getElem? ht
        have hall : ([3, 3, 3, 3].all fun u => !Tryz.prog.wantsStandIn u) = true := by kernel_rfl
        exact (show Tryz.prog.wantsStandIn t = false by simpa using List.all_eq_true.1 hall t hm)⟩)
    (by kernel_rfl)
#print axioms card

end Go.Proofs.YtnhjidbjibehpaaGreatDoor.RationalMachineC
namespace Go.Proofs.YtnhjidbjibehpaaGreatDoor
/-- The card, under a short name, for the claim. -/
theorem rationalMachine_card : Rows.RationalMachineCardSaid := RationalMachineC.card
end Go.Proofs.YtnhjidbjibehpaaGreatDoor
