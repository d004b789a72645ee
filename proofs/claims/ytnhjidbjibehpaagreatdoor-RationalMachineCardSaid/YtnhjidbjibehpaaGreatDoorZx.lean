/- Functions of the reference, each as a plain Lean function, and that the machine's call does what it says: yardstickref04.Make, yardstickref04.Valid, yardstickref04.Of. -/
import Derived.Test.YtnhjidbjibehpaaGreatDoorZv
import Derived.Test.YtnhjidbjibehpaaGreatDoorZs
import Derived.Test.YtnhjidbjibehpaaGreatDoorZt
import Derived.Test.YtnhjidbjibehpaaGreatDoorZw
import Derived.Test.YtnhjidbjibehpaaGreatDoorZn
namespace Go.Proofs.YtnhjidbjibehpaaGreatDoor.Ref
open Go.RowKit Go.Proofs.YtnhjidbjibehpaaGreatDoorW.PrintWords Go.Proofs.YtnhjidbjibehpaaGreatDoorW.PrintLast Go.Proofs.YtnhjidbjibehpaaGreatDoorW.PrintMore
attribute [local go_sem] max2_int max_two

set_option linter.unusedVariables false
set_option linter.unusedSimpArgs false

mutual
def yardstickref04_Make.j0 : Nat → ByteArray → ByteArray → Bool → Option (ByteArray × ByteArray × Int)
  | 0, _, _, _ => none
  | k + 1, x0, x1, x29 => if x29 = true then (some ((⟨#[]⟩ : ByteArray), (⟨#[]⟩ : ByteArray), 40)) else ((yardstickref03_Compare.f k x1 (⟨#[48]⟩ : ByteArray)).bind fun t363 => (if t363 < 0 then ((yardstickref03_Sub.f k (⟨#[48]⟩ : ByteArray) x0).bind fun bt364 => ((yardstickref03_Sub.f k (⟨#[48]⟩ : ByteArray) x1).bind fun bt366 => (yardstickref04_Make.j1 k bt364.1 bt366.1))) else (yardstickref04_Make.j1 k x0 x1)))
def yardstickref04_Make.j1 : Nat → ByteArray → ByteArray → Option (ByteArray × ByteArray × Int)
  | 0, _, _ => none
  | k + 1, x0, x1 => (yardstickref03_Gcd.f k x0 x1).bind fun bt368 => ((yardstickref03_Div.f k x0 bt368.1).bind fun bt370 => ((yardstickref03_Div.f k x1 bt368.1).bind fun bt373 => (if bt370.2.2 = 0 then (if bt373.2.2 = 0 then (some (bt370.1, bt373.1, 0)) else (some ((⟨#[]⟩ : ByteArray), (⟨#[]⟩ : ByteArray), 40))) else (some ((⟨#[]⟩ : ByteArray), (⟨#[]⟩ : ByteArray), 40)))))
end
def yardstickref04_Make.f (k : Nat) (a0 : ByteArray) (a1 : ByteArray) : Option (ByteArray × ByteArray × Int) := (yardstickref03_Valid.f k a0).bind fun t361 => ((yardstickref03_Valid.f k a1).bind fun t362 => (if t361 = true then (if t362 = true then (yardstickref04_Make.j0 k a0 a1 (a1.toList == ([48] : List UInt8))) else (yardstickref04_Make.j0 k a0 a1 true)) else (yardstickref04_Make.j0 k a0 a1 true)))
theorem yardstickref04_Make.mono_l : ∀ k, (∀ y0 y1 y2, LeO (yardstickref04_Make.j0 k y0 y1 y2) (yardstickref04_Make.j0 (k + 1) y0 y1 y2)) ∧ (∀ y0 y1, LeO (yardstickref04_Make.j1 k y0 y1) (yardstickref04_Make.j1 (k + 1) y0 y1))
  | 0 => ⟨fun _ _ _ r h => by simp [yardstickref04_Make.j0] at h, fun _ _ r h => by simp [yardstickref04_Make.j1] at h⟩
  | k + 1 => by
    obtain ⟨ih0, ih1⟩ := yardstickref04_Make.mono_l k
    refine ⟨?_, ?_⟩
    · intro y0 y1 y2
      unfold yardstickref04_Make.j0
      repeat' first
      | (with_reducible exact ih0 _ _ _)
      | (with_reducible exact ih1 _ _)
      | (with_reducible exact yardstickref03_Compare.mono _ _ _)
      | (with_reducible exact yardstickref03_Div.mono _ _ _)
      | (with_reducible exact yardstickref03_Gcd.mono _ _ _)
      | (with_reducible exact yardstickref03_Sub.mono _ _ _)
      | (with_reducible exact yardstickref03_Valid.mono _ _)
      | (with_reducible exact LeO.refl _)
      | (with_reducible exact LeO.none _)
      | (with_reducible refine LeO.ite ?_ ?_)
      | (with_reducible refine LeO.bind ?_ (fun _ => ?_))
      | exact ih0 _ _ _
      | exact ih1 _ _
      | exact yardstickref03_Compare.mono _ _ _
      | exact yardstickref03_Div.mono _ _ _
      | exact yardstickref03_Gcd.mono _ _ _
      | exact yardstickref03_Sub.mono _ _ _
      | exact yardstickref03_Valid.mono _ _
      | exact LeO.none _
      | refine LeO.ite ?_ ?_
      | refine LeO.bind ?_ (fun _ => ?_)
    · intro y0 y1
      unfold yardstickref04_Make.j1
      repeat' first
      | (with_reducible exact ih0 _ _ _)
      | (with_reducible exact ih1 _ _)
      | (with_reducible exact yardstickref03_Compare.mono _ _ _)
      | (with_reducible exact yardstickref03_Div.mono _ _ _)
      | (with_reducible exact yardstickref03_Gcd.mono _ _ _)
      | (with_reducible exact yardstickref03_Sub.mono _ _ _)
      | (with_reducible exact yardstickref03_Valid.mono _ _)
      | (with_reducible exact LeO.refl _)
      | (with_reducible exact LeO.none _)
      | (with_reducible refine LeO.ite ?_ ?_)
      | (with_reducible refine LeO.bind ?_ (fun _ => ?_))
      | exact ih0 _ _ _
      | exact ih1 _ _
      | exact yardstickref03_Compare.mono _ _ _
      | exact yardstickref03_Div.mono _ _ _
      | exact yardstickref03_Gcd.mono _ _ _
      | exact yardstickref03_Sub.mono _ _ _
      | exact yardstickref03_Valid.mono _ _
      | exact LeO.none _
      | refine LeO.ite ?_ ?_
      | refine LeO.bind ?_ (fun _ => ?_)
theorem yardstickref04_Make.mono : ∀ a0 a1 k, LeO (yardstickref04_Make.f k a0 a1) (yardstickref04_Make.f (k + 1) a0 a1) := by
  intro a0 a1 k
  obtain ⟨ih0, ih1⟩ := yardstickref04_Make.mono_l k
  unfold yardstickref04_Make.f
  repeat' first
      | (with_reducible exact ih0 _ _ _)
      | (with_reducible exact ih1 _ _)
      | (with_reducible exact yardstickref03_Compare.mono _ _ _)
      | (with_reducible exact yardstickref03_Div.mono _ _ _)
      | (with_reducible exact yardstickref03_Gcd.mono _ _ _)
      | (with_reducible exact yardstickref03_Sub.mono _ _ _)
      | (with_reducible exact yardstickref03_Valid.mono _ _)
      | (with_reducible exact LeO.refl _)
      | (with_reducible exact LeO.none _)
      | (with_reducible refine LeO.ite ?_ ?_)
      | (with_reducible refine LeO.bind ?_ (fun _ => ?_))
      | exact ih0 _ _ _
      | exact ih1 _ _
      | exact yardstickref03_Compare.mono _ _ _
      | exact yardstickref03_Div.mono _ _ _
      | exact yardstickref03_Gcd.mono _ _ _
      | exact yardstickref03_Sub.mono _ _ _
      | exact yardstickref03_Valid.mono _ _
      | exact LeO.none _
      | refine LeO.ite ?_ ?_
      | refine LeO.bind ?_ (fun _ => ?_)
set_option maxHeartbeats 8000000 in
set_option maxRecDepth 100000 in
theorem yardstickref04_Make.calls (k : Nat) (a0 : ByteArray) (a1 : ByteArray) (r1 : ByteArray) (r2 : ByteArray) (r3 : Int) (w : World) (h : yardstickref04_Make.f k a0 a1 = some (r1, r2, r3)) :
    Calls Tryz.prog 39 #[.string a0, .string a1] w fun e w' => e = .returned (.tuple #[.agg #[.string r1, .string r2], .int .i64 r3]) ∧ Below w.heap.size w w' := by
  have hu23 := Tryz.underlying23
  have HB := Aside0.mk (Below.refl w.heap.size w)
  have H : ((yardstickref03_Valid.f k a0).bind fun t361 => ((yardstickref03_Valid.f k a1).bind fun t362 => (if t361 = true then (if t362 = true then (yardstickref04_Make.j0 k a0 a1 (a1.toList == ([48] : List UInt8))) else (yardstickref04_Make.j0 k a0 a1 true)) else (yardstickref04_Make.j0 k a0 a1 true)))) = some (r1, r2, r3) := h
  clear h
  replace H := Option.bind_eq_some_iff.mp H
  obtain ⟨t361, A30, H⟩ := H
  replace H : ((yardstickref03_Valid.f k a1).bind fun t362 => (if t361 = true then (if t362 = true then (yardstickref04_Make.j0 k a0 a1 (a1.toList == ([48] : List UInt8))) else (yardstickref04_Make.j0 k a0 a1 true)) else (yardstickref04_Make.j0 k a0 a1 true))) = some (r1, r2, r3) := H
  have A3 := Aside0.mk A30
  clear A30
  replace H := Option.bind_eq_some_iff.mp H
  obtain ⟨t362, A40, H⟩ := H
  replace H : (if t361 = true then (if t362 = true then (yardstickref04_Make.j0 k a0 a1 (a1.toList == ([48] : List UInt8))) else (yardstickref04_Make.j0 k a0 a1 true)) else (yardstickref04_Make.j0 k a0 a1 true)) = some (r1, r2, r3) := H
  have A4 := Aside0.mk A40
  clear A40
  have HC5 := Aside0.mk H
  clear H
  go_enter Tryz.func39, Tryz.ntmps39
  go_upto_region 3 with (first | ((with_reducible refine gate_dst (N := 4) rfl ?_); refine box_event ?hg (N := 4) ?hd (cs := #[.string (⟨#[]⟩ : ByteArray), .string (⟨#[]⟩ : ByteArray)]) (t := 23) ?hr ?_; (case hd => rfl); (case hg => rfl); (case hr => first | (go_simp; done) | (go_simp; rfl)); intro gb360 hg w6 hbox hb; have n0_ := Aside0.mk (below_step (by repeat (first | (with_reducible first | exact HB.out | apply below_alloc | apply pw_below_drewN | apply below_drew1) | exact HB.out)) hb); have n1_ := Aside0.mk (hbox); have n2_ := Aside0.mk ((by rw [hg]; exact (below_size (by repeat (first | (with_reducible first | exact HB.out | apply below_alloc | apply pw_below_drewN | apply below_drew1) | exact HB.out))) : w.heap.size ≤ gb360)); have n3_ := Aside0.mk ((by rw [hg]; exact (below_size (by repeat (first | (with_reducible first | exact HB.out | apply below_alloc | apply pw_below_drewN | apply below_drew1) | exact HB.out))) : w.heap.size ≤ gb360)); clear HB; have HB := n0_; have BK360 := n1_; have GW360 := n2_; have GE360 := n3_; clear n0_ n1_ n2_ n3_; clear hb hbox hg) | ((with_reducible refine gate_callee (f := 53) rfl ?_); refine goesL_ (some 17) rfl rfl Tryz.func53 (by kernel_rfl) rfl #[.string a0] rfl (by (try simp only [List.map_toArray, List.map_cons, List.map_nil]); first | done | rfl | (simp only [List.length_drop, List.length_take]; rfl)) ?_; (with_reducible refine (yardstickref03_Valid.calls k a0 t361 _ A3.out).mono ?_); rintro e w' ⟨rfl, ⟨nd, rfl⟩⟩; refine ⟨_, rfl, ?_⟩) | ((with_reducible refine gate_callee (f := 53) rfl ?_); refine goesL_ (some 19) rfl rfl Tryz.func53 (by kernel_rfl) rfl #[.string a1] rfl (by (try simp only [List.map_toArray, List.map_cons, List.map_nil]); first | done | rfl | (simp only [List.length_drop, List.length_take]; rfl)) ?_; (with_reducible refine (yardstickref03_Valid.calls k a1 t362 _ A4.out).mono ?_); rintro e w' ⟨rfl, ⟨nd, rfl⟩⟩; refine ⟨_, rfl, ?_⟩))
  (try simp only [Act.put, List.setIfInBounds_toArray, List.set_cons_zero, List.set_cons_succ])
  go_cut [29] (fun v29 wc => ∃ (kq : Nat) (x29_4 : Bool), v29 = .bool x29_4 ∧ Aside0 (yardstickref04_Make.j0 kq a0 a1 x29_4 = some (r1, r2, r3)) ∧ Aside0 (kq ≤ k) ∧ Aside0 (wc.heap[gb360]? = some (.cells #[.string (⟨#[]⟩ : ByteArray), .string (⟨#[]⟩ : ByteArray)] 23 (0, 0))) ∧ Aside0 (Below w.heap.size w wc))
  case first =>
    have H := HC5.out
    clear HC5
    by_cases c7 : t361 = true
    · subst c7
      have H1 : (if t362 = true then (yardstickref04_Make.j0 k a0 a1 (a1.toList == ([48] : List UInt8))) else (yardstickref04_Make.j0 k a0 a1 true)) = some (r1, r2, r3) := by rw [if_pos rfl] at H; exact H
      clear H
      have H := H1
      clear H1
      by_cases c8 : t362 = true
      · subst c8
        have H1 : (yardstickref04_Make.j0 k a0 a1 (a1.toList == ([48] : List UInt8))) = some (r1, r2, r3) := by rw [if_pos rfl] at H; exact H
        clear H
        have H := H1
        clear H1
        have H' := Aside0.mk H
        clear H
        go_wp2
        go_meet
        case rel => exact ⟨_, ((a1.toList == ([48] : List UInt8))), (by first | rfl | (simp; done) | (simp [*]; done)), H', ⟨by first | omega | exact Nat.le_refl _⟩, ⟨by (with_reducible repeat (first | refine blk_drewN ?_ _ | refine blk_drew ?_ | refine blk_alloc ?_ _)); exact BK360.out⟩, ⟨by repeat (first | (with_reducible first | exact HB.out | apply below_alloc | apply pw_below_drewN | apply below_drew1 | refine below_set ?_ GE360.out) | exact HB.out)⟩⟩
      · replace c8 := Bool.eq_false_iff.mpr c8
        subst c8
        have H1 : (yardstickref04_Make.j0 k a0 a1 true) = some (r1, r2, r3) := by rw [if_neg (show ¬ (false = true) by decide)] at H; exact H
        clear H
        have H := H1
        clear H1
        have H' := Aside0.mk H
        clear H
        go_wp2
        go_meet
        case rel => exact ⟨_, (true), (by first | rfl | (simp; done) | (simp [*]; done)), H', ⟨by first | omega | exact Nat.le_refl _⟩, ⟨by (with_reducible repeat (first | refine blk_drewN ?_ _ | refine blk_drew ?_ | refine blk_alloc ?_ _)); exact BK360.out⟩, ⟨by repeat (first | (with_reducible first | exact HB.out | apply below_alloc | apply pw_below_drewN | apply below_drew1 | refine below_set ?_ GE360.out) | exact HB.out)⟩⟩
    · replace c7 := Bool.eq_false_iff.mpr c7
      subst c7
      have H1 : (yardstickref04_Make.j0 k a0 a1 true) = some (r1, r2, r3) := by rw [if_neg (show ¬ (false = true) by decide)] at H; exact H
      clear H
      have H := H1
      clear H1
      have H' := Aside0.mk H
      clear H
      go_wp2
      go_meet
      case rel => exact ⟨_, (true), (by first | rfl | (simp; done) | (simp [*]; done)), H', ⟨by first | omega | exact Nat.le_refl _⟩, ⟨by (with_reducible repeat (first | refine blk_drewN ?_ _ | refine blk_drew ?_ | refine blk_alloc ?_ _)); exact BK360.out⟩, ⟨by repeat (first | (with_reducible first | exact HB.out | apply below_alloc | apply pw_below_drewN | apply below_drew1 | refine below_set ?_ GE360.out) | exact HB.out)⟩⟩
  case rest =>
    clear HC5
    try clear p2
    try clear c3
    try clear c5
    try clear c7
    try clear c8
    obtain ⟨kq, x29_4, rfl, HA, HJ4, BK360, HB⟩ := hcut
    cases kq with
    | zero => exact absurd HA.out (by simp [yardstickref04_Make.j0])
    | succ kj4 =>
      have H := HA.out
      clear HA
      simp only [yardstickref04_Make.j0] at H
      by_cases c9 : x29_4 = true
      · subst c9
        have H1 : (some ((⟨#[]⟩ : ByteArray), (⟨#[]⟩ : ByteArray), 40)) = some (r1, r2, r3) := by rw [if_pos rfl] at H; exact H
        clear H
        have H := H1
        clear H1
        simp only [Option.some.injEq, Prod.mk.injEq] at H
        obtain ⟨rfl, rfl, rfl⟩ := H
        have hcz10_0 : wc.cell? ⟨gb360, 0, none⟩ = some (.string (⟨#[]⟩ : ByteArray)) := (blk_cell BK360.out 0).trans rfl
        have hcz10_1 : wc.cell? ⟨gb360, 1, none⟩ = some (.string (⟨#[]⟩ : ByteArray)) := (blk_cell BK360.out 1).trans rfl
        have hfz10_0 := blk_frozen BK360.out 0
        have hfz10_1 := blk_frozen BK360.out 1
        go_wp2
        refine bodyPost_ret (results_ct rfl _ _ gb360 23 #[.string (⟨#[]⟩ : ByteArray), .string (⟨#[]⟩ : ByteArray)] (0, 0) _ rfl (by (with_reducible repeat (first | refine blk_drewN ?_ _ | refine blk_drew ?_ | refine blk_alloc ?_ _)); refine blk_put (cs := #[.string (⟨#[]⟩ : ByteArray), .string (⟨#[]⟩ : ByteArray)]) ?_ 1 _ rfl; (with_reducible repeat (first | refine blk_drewN ?_ _ | refine blk_drew ?_ | refine blk_alloc ?_ _)); refine blk_put (cs := #[.string (⟨#[]⟩ : ByteArray), .string (⟨#[]⟩ : ByteArray)]) ?_ 0 _ rfl; (with_reducible repeat (first | refine blk_drewN ?_ _ | refine blk_drew ?_ | refine blk_alloc ?_ _)); exact BK360.out) Tryz.underlying23 rfl (by kernel_rfl)) rfl ?_
        exact ⟨by first | rfl | (simp [errW_none, errW_some] <;> rfl) | (simp [*, errW_none, errW_some] <;> rfl), by repeat (first | (with_reducible first | exact HB.out | apply below_alloc | apply pw_below_drewN | apply below_drew1 | refine below_set ?_ GE360.out) | exact HB.out)⟩
      · replace c9 := Bool.eq_false_iff.mpr c9
        subst c9
        have H1 : ((yardstickref03_Compare.f kj4 a1 (⟨#[48]⟩ : ByteArray)).bind fun t363 => (if t363 < 0 then ((yardstickref03_Sub.f kj4 (⟨#[48]⟩ : ByteArray) a0).bind fun bt364 => ((yardstickref03_Sub.f kj4 (⟨#[48]⟩ : ByteArray) a1).bind fun bt366 => (yardstickref04_Make.j1 kj4 bt364.1 bt366.1))) else (yardstickref04_Make.j1 kj4 a0 a1))) = some (r1, r2, r3) := by rw [if_neg (show ¬ (false = true) by decide)] at H; exact H
        clear H
        have H := H1
        clear H1
        replace H := Option.bind_eq_some_iff.mp H
        obtain ⟨t363, A110, H⟩ := H
        replace H : (if t363 < 0 then ((yardstickref03_Sub.f kj4 (⟨#[48]⟩ : ByteArray) a0).bind fun bt364 => ((yardstickref03_Sub.f kj4 (⟨#[48]⟩ : ByteArray) a1).bind fun bt366 => (yardstickref04_Make.j1 kj4 bt364.1 bt366.1))) else (yardstickref04_Make.j1 kj4 a0 a1)) = some (r1, r2, r3) := H
        have A11 := Aside0.mk A110
        clear A110
        have HC12 := Aside0.mk H
        clear H
        go_upto_if 33 with (first | ((with_reducible refine gate_callee (f := 67) rfl ?_); refine goesL_ (some 32) rfl rfl Tryz.func67 (by kernel_rfl) rfl #[.string a1, .string (⟨#[48]⟩ : ByteArray)] rfl (by (try simp only [List.map_toArray, List.map_cons, List.map_nil]); first | done | rfl | (simp only [List.length_drop, List.length_take]; rfl)) ?_; (with_reducible refine (yardstickref03_Compare.calls kj4 a1 (⟨#[48]⟩ : ByteArray) t363 _ A11.out).mono ?_); rintro e w13 ⟨rfl, hb⟩; refine ⟨_, rfl, ?_⟩; have n0_ := Aside0.mk (blk_below (g := gb360) (o := .cells #[.string (⟨#[]⟩ : ByteArray), .string (⟨#[]⟩ : ByteArray)] 23 (0, 0)) (by (with_reducible repeat (first | refine blk_drewN ?_ _ | refine blk_drew ?_ | refine blk_alloc ?_ _)); exact BK360.out) hb); have n1_ := Aside0.mk (below_step (by repeat (first | (with_reducible first | exact HB.out | apply below_alloc | apply pw_below_drewN | apply below_drew1 | refine below_set ?_ GE360.out) | exact HB.out)) hb); clear BK360; clear HB; have BK360 := n0_; have HB := n1_; clear n0_ n1_; (try clear hb); (try clear hb2); (try clear hk); (try clear hi)))
        (try simp only [Act.put, List.setIfInBounds_toArray, List.set_cons_zero, List.set_cons_succ])
        go_cut [0, 1] (fun v0 v1 wc => ∃ (kq : Nat) (x0_11 : ByteArray) (x1_11 : ByteArray), v0 = .string x0_11 ∧ v1 = .string x1_11 ∧ Aside0 (yardstickref04_Make.j1 kq x0_11 x1_11 = some (r1, r2, r3)) ∧ Aside0 (kq ≤ kj4) ∧ Aside0 (wc.heap[gb360]? = some (.cells #[.string (⟨#[]⟩ : ByteArray), .string (⟨#[]⟩ : ByteArray)] 23 (0, 0))) ∧ Aside0 (Below w.heap.size w wc))
        case first =>
          have H := HC12.out
          clear HC12
          by_cases c14 : t363 < 0
          · rw [if_pos c14] at H
            have c14b0 : decide (t363 < 0) = true := decide_eq_true c14
            clear c14
            (first | rw [c14b0] | (simp only [i64_w, i32_w]; rw [c14b0]) | skip)
            replace H := Option.bind_eq_some_iff.mp H
            obtain ⟨⟨t364, t365⟩, A150, H⟩ := H
            replace H : ((yardstickref03_Sub.f kj4 (⟨#[48]⟩ : ByteArray) a1).bind fun bt366 => (yardstickref04_Make.j1 kj4 t364 bt366.1)) = some (r1, r2, r3) := H
            have A15 := Aside0.mk A150
            clear A150
            replace H := Option.bind_eq_some_iff.mp H
            obtain ⟨⟨t366, t367⟩, A160, H⟩ := H
            replace H : (yardstickref04_Make.j1 kj4 t364 t366) = some (r1, r2, r3) := H
            have A16 := Aside0.mk A160
            clear A160
            have H' := Aside0.mk H
            clear H
            go_wp2_with (first | ((with_reducible refine gate_callee (f := 65) rfl ?_); refine goesL_ (some 36) rfl rfl Tryz.func65 (by kernel_rfl) rfl #[.string (⟨#[48]⟩ : ByteArray), .string a0] rfl (by (try simp only [List.map_toArray, List.map_cons, List.map_nil]); first | done | rfl | (simp only [List.length_drop, List.length_take]; rfl)) ?_; (with_reducible refine (yardstickref03_Sub.calls kj4 (⟨#[48]⟩ : ByteArray) a0 t364 t365 _ A15.out).mono ?_); rintro e w17 ⟨rfl, hb⟩; refine ⟨_, rfl, ?_⟩; have n0_ := Aside0.mk (blk_below (g := gb360) (o := .cells #[.string (⟨#[]⟩ : ByteArray), .string (⟨#[]⟩ : ByteArray)] 23 (0, 0)) (by (with_reducible repeat (first | refine blk_drewN ?_ _ | refine blk_drew ?_ | refine blk_alloc ?_ _)); exact BK360.out) hb); have n1_ := Aside0.mk (below_step (by repeat (first | (with_reducible first | exact HB.out | apply below_alloc | apply pw_below_drewN | apply below_drew1 | refine below_set ?_ GE360.out) | exact HB.out)) hb); clear BK360; clear HB; have BK360 := n0_; have HB := n1_; clear n0_ n1_; (try clear hb); (try clear hb2); (try clear hk); (try clear hi)) | ((with_reducible refine gate_callee (f := 65) rfl ?_); refine goesL_ (some 41) rfl rfl Tryz.func65 (by kernel_rfl) rfl #[.string (⟨#[48]⟩ : ByteArray), .string a1] rfl (by (try simp only [List.map_toArray, List.map_cons, List.map_nil]); first | done | rfl | (simp only [List.length_drop, List.length_take]; rfl)) ?_; (with_reducible refine (yardstickref03_Sub.calls kj4 (⟨#[48]⟩ : ByteArray) a1 t366 t367 _ A16.out).mono ?_); rintro e w18 ⟨rfl, hb⟩; refine ⟨_, rfl, ?_⟩; have n0_ := Aside0.mk (blk_below (g := gb360) (o := .cells #[.string (⟨#[]⟩ : ByteArray), .string (⟨#[]⟩ : ByteArray)] 23 (0, 0)) (by (with_reducible repeat (first | refine blk_drewN ?_ _ | refine blk_drew ?_ | refine blk_alloc ?_ _)); exact BK360.out) hb); have n1_ := Aside0.mk (below_step (by repeat (first | (with_reducible first | exact HB.out | apply below_alloc | apply pw_below_drewN | apply below_drew1 | refine below_set ?_ GE360.out) | exact HB.out)) hb); clear BK360; clear HB; have BK360 := n0_; have HB := n1_; clear n0_ n1_; (try clear hb); (try clear hb2); (try clear hk); (try clear hi)))
            go_meet
            case rel => exact ⟨_, (t364), (t366), (by first | rfl | (simp; done) | (simp [*]; done)), (by first | rfl | (simp; done) | (simp [*]; done)), H', ⟨by have := HJ4.out; first | omega | exact Nat.le_refl _⟩, ⟨by (with_reducible repeat (first | refine blk_drewN ?_ _ | refine blk_drew ?_ | refine blk_alloc ?_ _)); exact BK360.out⟩, ⟨by repeat (first | (with_reducible first | exact HB.out | apply below_alloc | apply pw_below_drewN | apply below_drew1 | refine below_set ?_ GE360.out) | exact HB.out)⟩⟩
          · rw [if_neg c14] at H
            have c14b0 : decide (t363 < 0) = false := decide_eq_false c14
            clear c14
            (first | rw [c14b0] | (simp only [i64_w, i32_w]; rw [c14b0]) | skip)
            have H' := Aside0.mk H
            clear H
            go_wp2
            go_meet
            case rel => exact ⟨_, (a0), (a1), (by first | rfl | (simp; done) | (simp [*]; done)), (by first | rfl | (simp; done) | (simp [*]; done)), H', ⟨by have := HJ4.out; first | omega | exact Nat.le_refl _⟩, ⟨by (with_reducible repeat (first | refine blk_drewN ?_ _ | refine blk_drew ?_ | refine blk_alloc ?_ _)); exact BK360.out⟩, ⟨by repeat (first | (with_reducible first | exact HB.out | apply below_alloc | apply pw_below_drewN | apply below_drew1 | refine below_set ?_ GE360.out) | exact HB.out)⟩⟩
        case rest =>
          clear HC12
          try clear c1
          try clear p2
          try clear c3
          try clear c5
          try clear c6
          try clear c7
          try clear c8
          try clear c9
          try clear c14
          try clear c14b0
          try clear hcz10_0
          try clear hcz10_1
          try clear hfz10_0
          try clear hfz10_1
          try clear p2
          obtain ⟨kq, x0_11, x1_11, rfl, rfl, HA, HJ11, BK360, HB⟩ := hcut
          cases kq with
          | zero => exact absurd HA.out (by simp [yardstickref04_Make.j1])
          | succ kj11 =>
            have H := HA.out
            clear HA
            simp only [yardstickref04_Make.j1] at H
            replace H := Option.bind_eq_some_iff.mp H
            obtain ⟨⟨t368, t369⟩, A190, H⟩ := H
            replace H : ((yardstickref03_Div.f kj11 x0_11 t368).bind fun bt370 => ((yardstickref03_Div.f kj11 x1_11 t368).bind fun bt373 => (if bt370.2.2 = 0 then (if bt373.2.2 = 0 then (some (bt370.1, bt373.1, 0)) else (some ((⟨#[]⟩ : ByteArray), (⟨#[]⟩ : ByteArray), 40))) else (some ((⟨#[]⟩ : ByteArray), (⟨#[]⟩ : ByteArray), 40))))) = some (r1, r2, r3) := H
            have A19 := Aside0.mk A190
            clear A190
            replace H := Option.bind_eq_some_iff.mp H
            obtain ⟨⟨t370, t371, t372⟩, A200, H⟩ := H
            replace H : ((yardstickref03_Div.f kj11 x1_11 t368).bind fun bt373 => (if t372 = 0 then (if bt373.2.2 = 0 then (some (t370, bt373.1, 0)) else (some ((⟨#[]⟩ : ByteArray), (⟨#[]⟩ : ByteArray), 40))) else (some ((⟨#[]⟩ : ByteArray), (⟨#[]⟩ : ByteArray), 40)))) = some (r1, r2, r3) := H
            have A20 := Aside0.mk A200
            clear A200
            replace H := Option.bind_eq_some_iff.mp H
            obtain ⟨⟨t373, t374, t375⟩, A210, H⟩ := H
            replace H : (if t372 = 0 then (if t375 = 0 then (some (t370, t373, 0)) else (some ((⟨#[]⟩ : ByteArray), (⟨#[]⟩ : ByteArray), 40))) else (some ((⟨#[]⟩ : ByteArray), (⟨#[]⟩ : ByteArray), 40))) = some (r1, r2, r3) := H
            have A21 := Aside0.mk A210
            clear A210
            by_cases c22 : t372 = 0
            · rw [if_pos c22] at H
              have c22b0 : (t372 == 0) = true := beq_iff_eq.mpr c22
              have c22b1 : (t372 != 0) = false := bne_eq_false_iff_eq.mpr c22
              clear c22
              by_cases c23 : t375 = 0
              · rw [if_pos c23] at H
                have c23b0 : (t375 == 0) = true := beq_iff_eq.mpr c23
                have c23b1 : (t375 != 0) = false := bne_eq_false_iff_eq.mpr c23
                clear c23
                simp only [Option.some.injEq, Prod.mk.injEq] at H
                obtain ⟨rfl, rfl, rfl⟩ := H
                go_wp2_with (first | ((with_reducible refine gate_callee (f := 71) rfl ?_); refine goesL_ (some 47) rfl rfl Tryz.func71 (by kernel_rfl) rfl #[.string x0_11, .string x1_11] rfl (by (try simp only [List.map_toArray, List.map_cons, List.map_nil]); first | done | rfl | (simp only [List.length_drop, List.length_take]; rfl)) ?_; (with_reducible refine (yardstickref03_Gcd.calls kj11 x0_11 x1_11 t368 t369 _ A19.out).mono ?_); rintro e w24 ⟨rfl, hb⟩; refine ⟨_, rfl, ?_⟩; have n0_ := Aside0.mk (blk_below (g := gb360) (o := .cells #[.string (⟨#[]⟩ : ByteArray), .string (⟨#[]⟩ : ByteArray)] 23 (0, 0)) (by (with_reducible repeat (first | refine blk_drewN ?_ _ | refine blk_drew ?_ | refine blk_alloc ?_ _)); exact BK360.out) hb); have n1_ := Aside0.mk (below_step (by repeat (first | (with_reducible first | exact HB.out | apply below_alloc | apply pw_below_drewN | apply below_drew1 | refine below_set ?_ GE360.out) | exact HB.out)) hb); clear BK360; clear HB; have BK360 := n0_; have HB := n1_; clear n0_ n1_; (try clear hb); (try clear hb2); (try clear hk); (try clear hi)) | ((with_reducible refine gate_callee (f := 66) rfl ?_); refine goesL_ (some 53) rfl rfl Tryz.func66 (by kernel_rfl) rfl #[.string x0_11, .string t368] rfl (by (try simp only [List.map_toArray, List.map_cons, List.map_nil]); first | done | rfl | (simp only [List.length_drop, List.length_take]; rfl)) ?_; (with_reducible refine (yardstickref03_Div.calls kj11 x0_11 t368 t370 t371 t372 _ A20.out).mono ?_); rintro e w25 ⟨rfl, hb⟩; refine ⟨_, rfl, ?_⟩; have n0_ := Aside0.mk (blk_below (g := gb360) (o := .cells #[.string (⟨#[]⟩ : ByteArray), .string (⟨#[]⟩ : ByteArray)] 23 (0, 0)) (by (with_reducible repeat (first | refine blk_drewN ?_ _ | refine blk_drew ?_ | refine blk_alloc ?_ _)); exact BK360.out) hb); have n1_ := Aside0.mk (below_step (by repeat (first | (with_reducible first | exact HB.out | apply below_alloc | apply pw_below_drewN | apply below_drew1 | refine below_set ?_ GE360.out) | exact HB.out)) hb); clear BK360; clear HB; have BK360 := n0_; have HB := n1_; clear n0_ n1_; (try clear hb); (try clear hb2); (try clear hk); (try clear hi)) | ((with_reducible refine gate_callee (f := 66) rfl ?_); refine goesL_ (some 60) rfl rfl Tryz.func66 (by kernel_rfl) rfl #[.string x1_11, .string t368] rfl (by (try simp only [List.map_toArray, List.map_cons, List.map_nil]); first | done | rfl | (simp only [List.length_drop, List.length_take]; rfl)) ?_; (with_reducible refine (yardstickref03_Div.calls kj11 x1_11 t368 t373 t374 t375 _ A21.out).mono ?_); rintro e w26 ⟨rfl, hb⟩; refine ⟨_, rfl, ?_⟩; have n0_ := Aside0.mk (blk_below (g := gb360) (o := .cells #[.string (⟨#[]⟩ : ByteArray), .string (⟨#[]⟩ : ByteArray)] 23 (0, 0)) (by (with_reducible repeat (first | refine blk_drewN ?_ _ | refine blk_drew ?_ | refine blk_alloc ?_ _)); exact BK360.out) hb); have n1_ := Aside0.mk (below_step (by repeat (first | (with_reducible first | exact HB.out | apply below_alloc | apply pw_below_drewN | apply below_drew1 | refine below_set ?_ GE360.out) | exact HB.out)) hb); clear BK360; clear HB; have BK360 := n0_; have HB := n1_; clear n0_ n1_; (try clear hb); (try clear hb2); (try clear hk); (try clear hi); have hcz27_0 : w26.cell? ⟨gb360, 0, none⟩ = some (.string (⟨#[]⟩ : ByteArray)) := (blk_cell BK360.out 0).trans rfl; have hcz27_1 : w26.cell? ⟨gb360, 1, none⟩ = some (.string (⟨#[]⟩ : ByteArray)) := (blk_cell BK360.out 1).trans rfl; have hfz27_0 := blk_frozen BK360.out 0; have hfz27_1 := blk_frozen BK360.out 1))
                refine bodyPost_ret (results_ct rfl _ _ gb360 23 #[.string t370, .string t373] (0, 0) _ rfl (by (with_reducible repeat (first | refine blk_drewN ?_ _ | refine blk_drew ?_ | refine blk_alloc ?_ _)); refine blk_put (cs := #[.string t370, .string (⟨#[]⟩ : ByteArray)]) ?_ 1 _ rfl; (with_reducible repeat (first | refine blk_drewN ?_ _ | refine blk_drew ?_ | refine blk_alloc ?_ _)); refine blk_put (cs := #[.string (⟨#[]⟩ : ByteArray), .string (⟨#[]⟩ : ByteArray)]) ?_ 0 _ rfl; (with_reducible repeat (first | refine blk_drewN ?_ _ | refine blk_drew ?_ | refine blk_alloc ?_ _)); exact BK360.out) Tryz.underlying23 rfl (by kernel_rfl)) rfl ?_
                exact ⟨by first | rfl | (simp [errW_none, errW_some] <;> rfl) | (simp [*, errW_none, errW_some] <;> rfl), by repeat (first | (with_reducible first | exact HB.out | apply below_alloc | apply pw_below_drewN | apply below_drew1 | refine below_set ?_ GE360.out) | exact HB.out)⟩
              · rw [if_neg c23] at H
                have c23b0 : (t375 == 0) = false := beq_eq_false_iff_ne.mpr c23
                have c23b1 : (t375 != 0) = true := bne_iff_ne.mpr c23
                simp only [Option.some.injEq, Prod.mk.injEq] at H
                obtain ⟨rfl, rfl, rfl⟩ := H
                go_wp2_with (first | ((with_reducible refine gate_callee (f := 71) rfl ?_); refine goesL_ (some 47) rfl rfl Tryz.func71 (by kernel_rfl) rfl #[.string x0_11, .string x1_11] rfl (by (try simp only [List.map_toArray, List.map_cons, List.map_nil]); first | done | rfl | (simp only [List.length_drop, List.length_take]; rfl)) ?_; (with_reducible refine (yardstickref03_Gcd.calls kj11 x0_11 x1_11 t368 t369 _ A19.out).mono ?_); rintro e w28 ⟨rfl, hb⟩; refine ⟨_, rfl, ?_⟩; have n0_ := Aside0.mk (blk_below (g := gb360) (o := .cells #[.string (⟨#[]⟩ : ByteArray), .string (⟨#[]⟩ : ByteArray)] 23 (0, 0)) (by (with_reducible repeat (first | refine blk_drewN ?_ _ | refine blk_drew ?_ | refine blk_alloc ?_ _)); exact BK360.out) hb); have n1_ := Aside0.mk (below_step (by repeat (first | (with_reducible first | exact HB.out | apply below_alloc | apply pw_below_drewN | apply below_drew1 | refine below_set ?_ GE360.out) | exact HB.out)) hb); clear BK360; clear HB; have BK360 := n0_; have HB := n1_; clear n0_ n1_; (try clear hb); (try clear hb2); (try clear hk); (try clear hi)) | ((with_reducible refine gate_callee (f := 66) rfl ?_); refine goesL_ (some 53) rfl rfl Tryz.func66 (by kernel_rfl) rfl #[.string x0_11, .string t368] rfl (by (try simp only [List.map_toArray, List.map_cons, List.map_nil]); first | done | rfl | (simp only [List.length_drop, List.length_take]; rfl)) ?_; (with_reducible refine (yardstickref03_Div.calls kj11 x0_11 t368 t370 t371 t372 _ A20.out).mono ?_); rintro e w29 ⟨rfl, hb⟩; refine ⟨_, rfl, ?_⟩; have n0_ := Aside0.mk (blk_below (g := gb360) (o := .cells #[.string (⟨#[]⟩ : ByteArray), .string (⟨#[]⟩ : ByteArray)] 23 (0, 0)) (by (with_reducible repeat (first | refine blk_drewN ?_ _ | refine blk_drew ?_ | refine blk_alloc ?_ _)); exact BK360.out) hb); have n1_ := Aside0.mk (below_step (by repeat (first | (with_reducible first | exact HB.out | apply below_alloc | apply pw_below_drewN | apply below_drew1 | refine below_set ?_ GE360.out) | exact HB.out)) hb); clear BK360; clear HB; have BK360 := n0_; have HB := n1_; clear n0_ n1_; (try clear hb); (try clear hb2); (try clear hk); (try clear hi)) | ((with_reducible refine gate_callee (f := 66) rfl ?_); refine goesL_ (some 60) rfl rfl Tryz.func66 (by kernel_rfl) rfl #[.string x1_11, .string t368] rfl (by (try simp only [List.map_toArray, List.map_cons, List.map_nil]); first | done | rfl | (simp only [List.length_drop, List.length_take]; rfl)) ?_; (with_reducible refine (yardstickref03_Div.calls kj11 x1_11 t368 t373 t374 t375 _ A21.out).mono ?_); rintro e w30 ⟨rfl, hb⟩; refine ⟨_, rfl, ?_⟩; have n0_ := Aside0.mk (blk_below (g := gb360) (o := .cells #[.string (⟨#[]⟩ : ByteArray), .string (⟨#[]⟩ : ByteArray)] 23 (0, 0)) (by (with_reducible repeat (first | refine blk_drewN ?_ _ | refine blk_drew ?_ | refine blk_alloc ?_ _)); exact BK360.out) hb); have n1_ := Aside0.mk (below_step (by repeat (first | (with_reducible first | exact HB.out | apply below_alloc | apply pw_below_drewN | apply below_drew1 | refine below_set ?_ GE360.out) | exact HB.out)) hb); clear BK360; clear HB; have BK360 := n0_; have HB := n1_; clear n0_ n1_; (try clear hb); (try clear hb2); (try clear hk); (try clear hi); have hcz31_0 : w30.cell? ⟨gb360, 0, none⟩ = some (.string (⟨#[]⟩ : ByteArray)) := (blk_cell BK360.out 0).trans rfl; have hcz31_1 : w30.cell? ⟨gb360, 1, none⟩ = some (.string (⟨#[]⟩ : ByteArray)) := (blk_cell BK360.out 1).trans rfl; have hfz31_0 := blk_frozen BK360.out 0; have hfz31_1 := blk_frozen BK360.out 1))
                refine bodyPost_ret (results_ct rfl _ _ gb360 23 #[.string (⟨#[]⟩ : ByteArray), .string (⟨#[]⟩ : ByteArray)] (0, 0) _ rfl (by (with_reducible repeat (first | refine blk_drewN ?_ _ | refine blk_drew ?_ | refine blk_alloc ?_ _)); refine blk_put (cs := #[.string (⟨#[]⟩ : ByteArray), .string (⟨#[]⟩ : ByteArray)]) ?_ 1 _ rfl; (with_reducible repeat (first | refine blk_drewN ?_ _ | refine blk_drew ?_ | refine blk_alloc ?_ _)); refine blk_put (cs := #[.string (⟨#[]⟩ : ByteArray), .string (⟨#[]⟩ : ByteArray)]) ?_ 0 _ rfl; (with_reducible repeat (first | refine blk_drewN ?_ _ | refine blk_drew ?_ | refine blk_alloc ?_ _)); exact BK360.out) Tryz.underlying23 rfl (by kernel_rfl)) rfl ?_
                exact ⟨by first | rfl | (simp [errW_none, errW_some] <;> rfl) | (simp [*, errW_none, errW_some] <;> rfl), by repeat (first | (with_reducible first | exact HB.out | apply below_alloc | apply pw_below_drewN | apply below_drew1 | refine below_set ?_ GE360.out) | exact HB.out)⟩
            · rw [if_neg c22] at H
              have c22b0 : (t372 == 0) = false := beq_eq_false_iff_ne.mpr c22
              have c22b1 : (t372 != 0) = true := bne_iff_ne.mpr c22
              simp only [Option.some.injEq, Prod.mk.injEq] at H
              obtain ⟨rfl, rfl, rfl⟩ := H
              go_wp2_with (first | ((with_reducible refine gate_callee (f := 71) rfl ?_); refine goesL_ (some 47) rfl rfl Tryz.func71 (by kernel_rfl) rfl #[.string x0_11, .string x1_11] rfl (by (try simp only [List.map_toArray, List.map_cons, List.map_nil]); first | done | rfl | (simp only [List.length_drop, List.length_take]; rfl)) ?_; (with_reducible refine (yardstickref03_Gcd.calls kj11 x0_11 x1_11 t368 t369 _ A19.out).mono ?_); rintro e w32 ⟨rfl, hb⟩; refine ⟨_, rfl, ?_⟩; have n0_ := Aside0.mk (blk_below (g := gb360) (o := .cells #[.string (⟨#[]⟩ : ByteArray), .string (⟨#[]⟩ : ByteArray)] 23 (0, 0)) (by (with_reducible repeat (first | refine blk_drewN ?_ _ | refine blk_drew ?_ | refine blk_alloc ?_ _)); exact BK360.out) hb); have n1_ := Aside0.mk (below_step (by repeat (first | (with_reducible first | exact HB.out | apply below_alloc | apply pw_below_drewN | apply below_drew1 | refine below_set ?_ GE360.out) | exact HB.out)) hb); clear BK360; clear HB; have BK360 := n0_; have HB := n1_; clear n0_ n1_; (try clear hb); (try clear hb2); (try clear hk); (try clear hi)) | ((with_reducible refine gate_callee (f := 66) rfl ?_); refine goesL_ (some 53) rfl rfl Tryz.func66 (by kernel_rfl) rfl #[.string x0_11, .string t368] rfl (by (try simp only [List.map_toArray, List.map_cons, List.map_nil]); first | done | rfl | (simp only [List.length_drop, List.length_take]; rfl)) ?_; (with_reducible refine (yardstickref03_Div.calls kj11 x0_11 t368 t370 t371 t372 _ A20.out).mono ?_); rintro e w33 ⟨rfl, hb⟩; refine ⟨_, rfl, ?_⟩; have n0_ := Aside0.mk (blk_below (g := gb360) (o := .cells #[.string (⟨#[]⟩ : ByteArray), .string (⟨#[]⟩ : ByteArray)] 23 (0, 0)) (by (with_reducible repeat (first | refine blk_drewN ?_ _ | refine blk_drew ?_ | refine blk_alloc ?_ _)); exact BK360.out) hb); have n1_ := Aside0.mk (below_step (by repeat (first | (with_reducible first | exact HB.out | apply below_alloc | apply pw_below_drewN | apply below_drew1 | refine below_set ?_ GE360.out) | exact HB.out)) hb); clear BK360; clear HB; have BK360 := n0_; have HB := n1_; clear n0_ n1_; (try clear hb); (try clear hb2); (try clear hk); (try clear hi)) | ((with_reducible refine gate_callee (f := 66) rfl ?_); refine goesL_ (some 60) rfl rfl Tryz.func66 (by kernel_rfl) rfl #[.string x1_11, .string t368] rfl (by (try simp only [List.map_toArray, List.map_cons, List.map_nil]); first | done | rfl | (simp only [List.length_drop, List.length_take]; rfl)) ?_; (with_reducible refine (yardstickref03_Div.calls kj11 x1_11 t368 t373 t374 t375 _ A21.out).mono ?_); rintro e w34 ⟨rfl, hb⟩; refine ⟨_, rfl, ?_⟩; have n0_ := Aside0.mk (blk_below (g := gb360) (o := .cells #[.string (⟨#[]⟩ : ByteArray), .string (⟨#[]⟩ : ByteArray)] 23 (0, 0)) (by (with_reducible repeat (first | refine blk_drewN ?_ _ | refine blk_drew ?_ | refine blk_alloc ?_ _)); exact BK360.out) hb); have n1_ := Aside0.mk (below_step (by repeat (first | (with_reducible first | exact HB.out | apply below_alloc | apply pw_below_drewN | apply below_drew1 | refine below_set ?_ GE360.out) | exact HB.out)) hb); clear BK360; clear HB; have BK360 := n0_; have HB := n1_; clear n0_ n1_; (try clear hb); (try clear hb2); (try clear hk); (try clear hi); have hcz35_0 : w34.cell? ⟨gb360, 0, none⟩ = some (.string (⟨#[]⟩ : ByteArray)) := (blk_cell BK360.out 0).trans rfl; have hcz35_1 : w34.cell? ⟨gb360, 1, none⟩ = some (.string (⟨#[]⟩ : ByteArray)) := (blk_cell BK360.out 1).trans rfl; have hfz35_0 := blk_frozen BK360.out 0; have hfz35_1 := blk_frozen BK360.out 1))
              refine bodyPost_ret (results_ct rfl _ _ gb360 23 #[.string (⟨#[]⟩ : ByteArray), .string (⟨#[]⟩ : ByteArray)] (0, 0) _ rfl (by (with_reducible repeat (first | refine blk_drewN ?_ _ | refine blk_drew ?_ | refine blk_alloc ?_ _)); refine blk_put (cs := #[.string (⟨#[]⟩ : ByteArray), .string (⟨#[]⟩ : ByteArray)]) ?_ 1 _ rfl; (with_reducible repeat (first | refine blk_drewN ?_ _ | refine blk_drew ?_ | refine blk_alloc ?_ _)); refine blk_put (cs := #[.string (⟨#[]⟩ : ByteArray), .string (⟨#[]⟩ : ByteArray)]) ?_ 0 _ rfl; (with_reducible repeat (first | refine blk_drewN ?_ _ | refine blk_drew ?_ | refine blk_alloc ?_ _)); exact BK360.out) Tryz.underlying23 rfl (by kernel_rfl)) rfl ?_
              exact ⟨by first | rfl | (simp [errW_none, errW_some] <;> rfl) | (simp [*, errW_none, errW_some] <;> rfl), by repeat (first | (with_reducible first | exact HB.out | apply below_alloc | apply pw_below_drewN | apply below_drew1 | refine below_set ?_ GE360.out) | exact HB.out)⟩

def yardstickref04_Of.f (k : Nat) (a0 : Int) (a1 : Int) : Option (ByteArray × ByteArray × Int) := (yardstickref03_FromInt.f k a0).bind fun t387 => ((yardstickref03_FromInt.f k a1).bind fun t388 => ((yardstickref04_Make.f k t387 t388).bind fun bt389 => (some (bt389.1, bt389.2.1, bt389.2.2))))
theorem yardstickref04_Of.mono : ∀ a0 a1 k, LeO (yardstickref04_Of.f k a0 a1) (yardstickref04_Of.f (k + 1) a0 a1) := by
  intro a0 a1 k
  unfold yardstickref04_Of.f
  repeat' first
      | (with_reducible exact yardstickref03_FromInt.mono _ _)
      | (with_reducible exact yardstickref04_Make.mono _ _ _)
      | (with_reducible exact LeO.refl _)
      | (with_reducible exact LeO.none _)
      | (with_reducible refine LeO.ite ?_ ?_)
      | (with_reducible refine LeO.bind ?_ (fun _ => ?_))
      | exact yardstickref03_FromInt.mono _ _
      | exact yardstickref04_Make.mono _ _ _
      | exact LeO.none _
      | refine LeO.ite ?_ ?_
      | refine LeO.bind ?_ (fun _ => ?_)
set_option maxHeartbeats 8000000 in
set_option maxRecDepth 100000 in
theorem yardstickref04_Of.calls (k : Nat) (a0 : Int) (a1 : Int) (r1 : ByteArray) (r2 : ByteArray) (r3 : Int) (w : World) (h : yardstickref04_Of.f k a0 a1 = some (r1, r2, r3)) :
    Calls Tryz.prog 42 #[.int .i64 a0, .int .i64 a1] w fun e w' => e = .returned (.tuple #[.agg #[.string r1, .string r2], .int .i64 r3]) ∧ Below w.heap.size w w' := by
  have hu23 := Tryz.underlying23
  have HB := Aside0.mk (Below.refl w.heap.size w)
  have H : ((yardstickref03_FromInt.f k a0).bind fun t387 => ((yardstickref03_FromInt.f k a1).bind fun t388 => ((yardstickref04_Make.f k t387 t388).bind fun bt389 => (some (bt389.1, bt389.2.1, bt389.2.2))))) = some (r1, r2, r3) := h
  clear h
  replace H := Option.bind_eq_some_iff.mp H
  obtain ⟨t387, A30, H⟩ := H
  replace H : ((yardstickref03_FromInt.f k a1).bind fun t388 => ((yardstickref04_Make.f k t387 t388).bind fun bt389 => (some (bt389.1, bt389.2.1, bt389.2.2)))) = some (r1, r2, r3) := H
  have A3 := Aside0.mk A30
  clear A30
  replace H := Option.bind_eq_some_iff.mp H
  obtain ⟨t388, A40, H⟩ := H
  replace H : ((yardstickref04_Make.f k t387 t388).bind fun bt389 => (some (bt389.1, bt389.2.1, bt389.2.2))) = some (r1, r2, r3) := H
  have A4 := Aside0.mk A40
  clear A40
  replace H := Option.bind_eq_some_iff.mp H
  obtain ⟨⟨t389, t390, t391⟩, A50, H⟩ := H
  replace H : (some (t389, t390, t391)) = some (r1, r2, r3) := H
  have A5 := Aside0.mk A50
  clear A50
  simp only [Option.some.injEq, Prod.mk.injEq] at H
  obtain ⟨rfl, rfl, rfl⟩ := H
  go_enter Tryz.func42, Tryz.ntmps42
  go_wp2_with (first | ((with_reducible refine gate_dst (N := 4) rfl ?_); refine box_event ?hg (N := 4) ?hd (cs := #[.string (⟨#[]⟩ : ByteArray), .string (⟨#[]⟩ : ByteArray)]) (t := 23) ?hr ?_; (case hd => rfl); (case hg => rfl); (case hr => first | (go_simp; done) | (go_simp; rfl)); intro gb386 hg w6 hbox hb; have n0_ := Aside0.mk (below_step (by repeat (first | (with_reducible first | exact HB.out | apply below_alloc | apply pw_below_drewN | apply below_drew1) | exact HB.out)) hb); have n1_ := Aside0.mk (hbox); have n2_ := Aside0.mk ((by rw [hg]; exact (below_size (by repeat (first | (with_reducible first | exact HB.out | apply below_alloc | apply pw_below_drewN | apply below_drew1) | exact HB.out))) : w.heap.size ≤ gb386)); have n3_ := Aside0.mk ((by rw [hg]; exact (below_size (by repeat (first | (with_reducible first | exact HB.out | apply below_alloc | apply pw_below_drewN | apply below_drew1) | exact HB.out))) : w.heap.size ≤ gb386)); clear HB; have HB := n0_; have BK386 := n1_; have GW386 := n2_; have GE386 := n3_; clear n0_ n1_ n2_ n3_; clear hb hbox hg) | ((with_reducible refine gate_callee (f := 20) rfl ?_); refine goesL_ (some 7) rfl rfl Tryz.func20 (by kernel_rfl) rfl #[.int .i64 a0] rfl (by (try simp only [List.map_toArray, List.map_cons, List.map_nil]); first | done | rfl | (simp only [List.length_drop, List.length_take]; rfl)) ?_; (with_reducible refine (yardstickref03_FromInt.calls k a0 t387 _ A3.out).mono ?_); rintro e w7 ⟨rfl, hb⟩; refine ⟨_, rfl, ?_⟩; have n0_ := Aside0.mk (blk_below (g := gb386) (o := .cells #[.string (⟨#[]⟩ : ByteArray), .string (⟨#[]⟩ : ByteArray)] 23 (0, 0)) (by (with_reducible repeat (first | refine blk_drewN ?_ _ | refine blk_drew ?_ | refine blk_alloc ?_ _)); exact BK386.out) hb); have n1_ := Aside0.mk (below_step (by repeat (first | (with_reducible first | exact HB.out | apply below_alloc | apply pw_below_drewN | apply below_drew1 | refine below_set ?_ GE386.out) | exact HB.out)) hb); clear BK386; clear HB; have BK386 := n0_; have HB := n1_; clear n0_ n1_; (try clear hb); (try clear hb2); (try clear hk); (try clear hi)) | ((with_reducible refine gate_callee (f := 20) rfl ?_); refine goesL_ (some 9) rfl rfl Tryz.func20 (by kernel_rfl) rfl #[.int .i64 a1] rfl (by (try simp only [List.map_toArray, List.map_cons, List.map_nil]); first | done | rfl | (simp only [List.length_drop, List.length_take]; rfl)) ?_; (with_reducible refine (yardstickref03_FromInt.calls k a1 t388 _ A4.out).mono ?_); rintro e w8 ⟨rfl, hb⟩; refine ⟨_, rfl, ?_⟩; have n0_ := Aside0.mk (blk_below (g := gb386) (o := .cells #[.string (⟨#[]⟩ : ByteArray), .string (⟨#[]⟩ : ByteArray)] 23 (0, 0)) (by (with_reducible repeat (first | refine blk_drewN ?_ _ | refine blk_drew ?_ | refine blk_alloc ?_ _)); exact BK386.out) hb); have n1_ := Aside0.mk (below_step (by repeat (first | (with_reducible first | exact HB.out | apply below_alloc | apply pw_below_drewN | apply below_drew1 | refine below_set ?_ GE386.out) | exact HB.out)) hb); clear BK386; clear HB; have BK386 := n0_; have HB := n1_; clear n0_ n1_; (try clear hb); (try clear hb2); (try clear hk); (try clear hi)) | ((with_reducible refine gate_callee (f := 39) rfl ?_); refine goesL_ (some 10) rfl rfl Tryz.func39 (by kernel_rfl) rfl #[.string t387, .string t388] rfl (by (try simp only [List.map_toArray, List.map_cons, List.map_nil]); first | done | rfl | (simp only [List.length_drop, List.length_take]; rfl)) ?_; (with_reducible refine (yardstickref04_Make.calls k t387 t388 t389 t390 t391 _ A5.out).mono ?_); rintro e w9 ⟨rfl, hb⟩; refine ⟨_, rfl, ?_⟩; have n0_ := Aside0.mk (blk_below (g := gb386) (o := .cells #[.string (⟨#[]⟩ : ByteArray), .string (⟨#[]⟩ : ByteArray)] 23 (0, 0)) (by (with_reducible repeat (first | refine blk_drewN ?_ _ | refine blk_drew ?_ | refine blk_alloc ?_ _)); exact BK386.out) hb); have n1_ := Aside0.mk (below_step (by repeat (first | (with_reducible first | exact HB.out | apply below_alloc | apply pw_below_drewN | apply below_drew1 | refine below_set ?_ GE386.out) | exact HB.out)) hb); clear BK386; clear HB; have BK386 := n0_; have HB := n1_; clear n0_ n1_; (try clear hb); (try clear hb2); (try clear hk); (try clear hi); have hcz10_0 : w9.cell? ⟨gb386, 0, none⟩ = some (.string (⟨#[]⟩ : ByteArray)) := (blk_cell BK386.out 0).trans rfl; have hcz10_1 : w9.cell? ⟨gb386, 1, none⟩ = some (.string (⟨#[]⟩ : ByteArray)) := (blk_cell BK386.out 1).trans rfl; have hfz10_0 := blk_frozen BK386.out 0; have hfz10_1 := blk_frozen BK386.out 1))
  refine bodyPost_ret (results_ct rfl _ _ gb386 23 #[.string t389, .string t390] (0, 0) _ rfl (by (with_reducible repeat (first | refine blk_drewN ?_ _ | refine blk_drew ?_ | refine blk_alloc ?_ _)); refine blk_put (cs := #[.string t389, .string (⟨#[]⟩ : ByteArray)]) ?_ 1 _ rfl; (with_reducible repeat (first | refine blk_drewN ?_ _ | refine blk_drew ?_ | refine blk_alloc ?_ _)); refine blk_put (cs := #[.string (⟨#[]⟩ : ByteArray), .string (⟨#[]⟩ : ByteArray)]) ?_ 0 _ rfl; (with_reducible repeat (first | refine blk_drewN ?_ _ | refine blk_drew ?_ | refine blk_alloc ?_ _)); exact BK386.out) Tryz.underlying23 rfl (by kernel_rfl)) rfl ?_
  exact ⟨by first | rfl | (simp [errW_none, errW_some] <;> rfl) | (simp [*, errW_none, errW_some] <;> rfl), by repeat (first | (with_reducible first | exact HB.out | apply below_alloc | apply pw_below_drewN | apply below_drew1 | refine below_set ?_ GE386.out) | exact HB.out)⟩

-- NOT PRINTED: function 28 (yardstickref04_Small)

-- NOT PRINTED: function 25 (rational_Mul)

-- NOT PRINTED: function 44 (rational_Sub)

-- NOT PRINTED: function 29 (yardsticklaw04_four)

end Go.Proofs.YtnhjidbjibehpaaGreatDoor.Ref

/- Functions of the reference, each as a plain Lean function, and that the machine's call does what it says: yardstickref04.cross, yardstickref04.Add, yardstickref04.Sub, yardstickref04.Mul, yardstickref04.Div. -/


/- The reference's fractions: Valid, Make, Of, the four operations, in rational numbers. -/
namespace Go.Proofs.YtnhjidbjibehpaaGreatDoor.Ref
open Go.RowKit Go.Proofs.YtnhjidbjibehpaaGreatDoorW.PrintWords Go.Proofs.YtnhjidbjibehpaaGreatDoorW.PrintLast Go.Proofs.YtnhjidbjibehpaaGreatDoorW.PrintMore Yd Go.Lib
set_option linter.unusedVariables false
set_option linter.unusedSimpArgs false

theorem itx_iv {z : Int} (h : z.natAbs < DL) : ival (itx z).data.toList = some z := by rw [itx_data]; exact ival_itoa h
theorem iv_itx {s : ByteArray} {x : Int} (h : ival s.data.toList = some x) : s = itx x := ba_eq (by rw [itx_data]; exact (ival_iff.1 h).1)
theorem lit0 : (⟨#[48]⟩ : ByteArray) = itx 0 := ba_eq (by rw [itx_data, itoa_zero])
theorem iv0 : ival (⟨#[48]⟩ : ByteArray).data.toList = some 0 := by rw [lit0]; exact itx_iv DL_gt0
theorem cte_ok {z : Int} (h : sm z = true) : cte z = (itx z, 0) := by unfold cte; rw [if_pos (sm_iff.1 h)]
theorem cgcd_sm {p q : Int} (hq : q.natAbs < DL) (h0 : q ≠ 0) : sm (cgcd p q) = true := by
  rw [sm_iff]; unfold cgcd; rw [Int.natAbs_natCast]
  exact Nat.lt_of_le_of_lt (Nat.gcd_le_right _ (by omega)) hq
theorem cgcd_pos {p q : Int} (h0 : q ≠ 0) : 0 < cgcd p q := by
  unfold cgcd
  have : 0 < Nat.gcd p.natAbs q.natAbs := Nat.gcd_pos_of_pos_right _ (by omega)
  omega
theorem itx_eq0 (z : Int) : ((itx z).toList == [48]) = decide (z = 0) := by
  rw [tl_data, itx_data, Bool.eq_iff_iff, beq_iff_eq, decide_eq_true_iff]; exact itoa_zero_iff z

/-- a fraction, or an error -/
def crat (o : Option Rat) : ByteArray × ByteArray × Int := match o with
  | some r => (itx r.num, itx r.den, 0)
  | none => (⟨#[]⟩, ⟨#[]⟩, 40)
abbrev SZ (s : ByteArray) : Prop := s.size ≤ 9223372036854775806

theorem num_sgn (x y : Int) (h : y ≠ 0) : (if y < 0 then -x else x) / cgcd x y = (Rat.divInt x y).num := by
  rw [Rat.num_divInt]
  unfold cgcd
  rw [show y.gcd x = Nat.gcd x.natAbs y.natAbs from Nat.gcd_comm _ _]
  congr 1
  split
  · rename_i h; rw [Int.sign_eq_neg_one_of_neg h]; omega
  · rw [Int.sign_eq_one_of_pos (by omega)]; omega
theorem den_sgn (x y : Int) (h : y ≠ 0) : (if y < 0 then -y else y) / cgcd x y = ((Rat.divInt x y).den : Int) := by
  rw [Rat.den_divInt, if_neg h]
  unfold cgcd
  rw [show y.gcd x = Nat.gcd x.natAbs y.natAbs from Nat.gcd_comm _ _, Int.natCast_ediv]
  congr 1
  split <;> omega
theorem cgcd_neg (x y : Int) : cgcd (-x) (-y) = cgcd x y := by unfold cgcd; rw [Int.natAbs_neg, Int.natAbs_neg]
theorem itxSZ {z : Int} (h : z.natAbs < DL) : SZ (itx z) := Nat.le_trans (itx_size h) (by omega)
theorem cdivR_tx {x y : Int} (hx : x.natAbs < DL) (hy : y.natAbs < DL) (h0 : y ≠ 0) : cdivR (itx x) (itx y) = (itx (x / y), itx (x % y), 0) := by
  unfold cdivR; rw [itx_iv hx, itx_iv hy]; exact if_neg h0
theorem make_j1 (x y : Int) (hx : x.natAbs < DL) (hy : y.natAbs < DL) (h0 : y ≠ 0) : Ev (fun k => yardstickref04_Make.j1 k (itx x) (itx y)) (itx (x / cgcd x y), itx (y / cgcd x y), 0) := by
  apply Ev.hop
  simp only [yardstickref04_Make.j1]
  have hg := gcd_ev (itx x) (itx y) (itxSZ hx) (itxSZ hy)
  have hc := cgcd_sm (p := x) hy h0
  have hp := cgcd_pos (p := x) h0
  rw [copR_yes (itx_iv hx) (itx_iv hy), cte_ok hc] at hg
  refine Ev.bind hg ?_
  have d1 := div_ev (itx x) (itx (cgcd x y)) (itxSZ hx) (itxSZ (sm_iff.1 hc))
  have d2 := div_ev (itx y) (itx (cgcd x y)) (itxSZ hy) (itxSZ (sm_iff.1 hc))
  rw [cdivR_tx hx (sm_iff.1 hc) (by omega)] at d1
  rw [cdivR_tx hy (sm_iff.1 hc) (by omega)] at d2
  refine Ev.bind d1 ?_
  refine Ev.bind d2 ?_
  simp only [if_true]; exact Ev.now _
theorem make_ev (s t : ByteArray) (hs : SZ s) (ht : SZ t) : Ev (fun k => yardstickref04_Make.f k s t) (crat (mkO s.data.toList t.data.toList)) := by
  unfold yardstickref04_Make.f
  refine Ev.bind (valid_ev s hs) ?_
  refine Ev.bind (valid_ev t ht) ?_
  rw [ivalid_iff_isSome, ivalid_iff_isSome]
  have bad : ∀ o, o = none → Ev (fun k => yardstickref04_Make.j0 k s t true) (crat o) := by
    intro o ho
    subst ho
    apply Ev.hop
    simp only [yardstickref04_Make.j0, if_true]; exact Ev.now _
  unfold mkO
  cases h1 : ival s.data.toList with
  | none => simp only [Option.isSome_none, Bool.false_eq_true, if_false]; exact bad _ rfl
  | some x => cases h2 : ival t.data.toList with
    | none => simp only [Option.isSome_none, Option.isSome_some, Bool.false_eq_true, if_false, if_true]; exact bad _ rfl
    | some y =>
      simp only [Option.isSome_some, if_true]
      have hx := ival_lt h1
      have hy := ival_lt h2
      obtain rfl := iv_itx h1
      obtain rfl := iv_itx h2
      rw [itx_eq0]
      unfold mk2
      by_cases h0 : y = 0
      · rw [decide_eq_true h0, if_pos h0]; exact bad _ rfl
      · rw [decide_eq_false h0, if_neg h0]
        apply Ev.hop
        simp only [yardstickref04_Make.j0, Bool.false_eq_true, if_false]
        refine Ev.bind (compare_ev (itx y) ⟨#[48]⟩ ht (by decide)) ?_
        rw [ccmp_yes h2 iv0, Int.sub_zero]
        rw [show crat (some (Rat.divInt x y)) = (itx ((if y < 0 then -x else x) / cgcd x y), itx ((if y < 0 then -y else y) / cgcd x y), 0) by rw [num_sgn x y h0, den_sgn x y h0]; rfl]
        by_cases hn : y < 0
        · have e : sgn y < 0 := by unfold sgn; rw [if_pos hn]; omega
          simp only [if_pos e, if_pos hn]
          have s1 := sub_ev ⟨#[48]⟩ (itx x) (by decide) hs
          have s2 := sub_ev ⟨#[48]⟩ (itx y) (by decide) ht
          rw [copR_yes iv0 h1, show (0 : Int) - x = -x by omega, cte_ok (by rw [sm_neg]; exact sm_iff.2 hx)] at s1
          rw [copR_yes iv0 h2, show (0 : Int) - y = -y by omega, cte_ok (by rw [sm_neg]; exact sm_iff.2 hy)] at s2
          refine Ev.bind s1 ?_
          refine Ev.bind s2 ?_
          have := make_j1 (-x) (-y) (by rwa [Int.natAbs_neg]) (by rwa [Int.natAbs_neg]) (by omega)
          rw [cgcd_neg] at this
          exact this
        · have e : ¬ sgn y < 0 := by unfold sgn; rw [if_neg hn]; split <;> omega
          simp only [if_neg e, if_neg hn]
          exact make_j1 x y hx hy h0
theorem mkO_itx {x y : Int} (hx : x.natAbs < DL) (hy : y.natAbs < DL) : mkO (itx x).data.toList (itx y).data.toList = mk2 x y := by unfold mkO; rw [itx_iv hx, itx_iv hy]
theorem DL_64 {n : Int} (h0 : -9223372036854775808 ≤ n) (h1 : n ≤ 9223372036854775807) : n.natAbs < DL := by
  rw [DL_eq]
  have : n.natAbs < 10 ^ 19 := by omega
  exact Nat.lt_of_lt_of_le this (Nat.pow_le_pow_right (by omega) (by omega))
theorem of_ev (x y : Int) (hx0 : -9223372036854775808 ≤ x) (hx1 : x ≤ 9223372036854775807) (hy0 : -9223372036854775808 ≤ y) (hy1 : y ≤ 9223372036854775807) : Ev (fun k => yardstickref04_Of.f k x y) (crat (mk2 x y)) := by
  unfold yardstickref04_Of.f
  refine Ev.bind (fromInt_ev x hx0 hx1) ?_
  refine Ev.bind (fromInt_ev y hy0 hy1) ?_
  have := make_ev (itx x) (itx y) (itxSZ (DL_64 hx0 hx1)) (itxSZ (DL_64 hy0 hy1))
  rw [mkO_itx (DL_64 hx0 hx1) (DL_64 hy0 hy1)] at this
  exact Ev.bind this (Ev.now _)

end Go.Proofs.YtnhjidbjibehpaaGreatDoor.Ref

/- Functions of the reference, each as a plain Lean function, and that the machine's call does what it says: yardstickref04.zeroOr, yardstickref04.Compare, yardstickref04.power, yardstickref04.grid, yardstickref04.Down, yardstickref04.Up. -/


/- Functions of the reference, each as a plain Lean function, and that the machine's call does what it says: yardstickref04.Print, yardstickref04.Parse, yardsticklaw04.cut. -/


/- The reference's fractions: Compare, Down, Up, Print, Parse, in rational numbers. -/


/- Layer 4: the contracts of the reference's functions, in rational numbers. -/
namespace Go.Proofs.YtnhjidbjibehpaaGreatDoor.L4
open Go.Shelf Go.RowKit Go.Proofs.YtnhjidbjibehpaaGreatDoorW.PrintWords Go.Proofs.YtnhjidbjibehpaaGreatDoorW.PrintLast Go.Proofs.YtnhjidbjibehpaaGreatDoorW.PrintMore Yd L3
set_option linter.unusedVariables false
set_option linter.unusedSimpArgs false

theorem crat_V (o : Option Rat) : ∀ r1 r2 r3, Ref.crat o = (r1, r2, r3) → (Value.tuple #[.agg #[.string r1, .string r2], .int .i64 r3]) = ratO o := by
  intro r1 r2 r3 h
  cases o with
  | none => injection h with h1 h2; injection h2 with h2 h3; subst h1 h2 h3; rfl
  | some r => injection h with h1 h2; injection h2 with h2 h3; subst h1 h2 h3; rfl
theorem q_make (s t : ByteArray) (w : World) (h1 : Ref.SZ s) (h2 : Ref.SZ t) :
    Calls Tryz.prog 39 #[.string s, .string t] w fun e w' => e = .returned (ratO (mkO s.data.toList t.data.toList)) ∧ Below w.heap.size w w' := by
  obtain ⟨k, hk⟩ := (Ref.make_ev s t h1 h2).rounds
  obtain ⟨⟨r1, r2, r3⟩, he⟩ : ∃ r : ByteArray × ByteArray × Int, Ref.crat (mkO s.data.toList t.data.toList) = r := ⟨_, rfl⟩
  rw [← crat_V _ _ _ _ he]
  exact Ref.yardstickref04_Make.calls k s t r1 r2 r3 w (hk.trans (congrArg some he))
theorem q_of (x y : Int) (w : World) (hx0 : -9223372036854775808 ≤ x) (hx1 : x ≤ 9223372036854775807) (hy0 : -9223372036854775808 ≤ y) (hy1 : y ≤ 9223372036854775807) :
    Calls Tryz.prog 42 #[.int .i64 x, .int .i64 y] w fun e w' => e = .returned (ratO (mk2 x y)) ∧ Below w.heap.size w w' := by
  obtain ⟨k, hk⟩ := (Ref.of_ev x y hx0 hx1 hy0 hy1).rounds
  obtain ⟨⟨r1, r2, r3⟩, he⟩ : ∃ r : ByteArray × ByteArray × Int, Ref.crat (mk2 x y) = r := ⟨_, rfl⟩
  rw [← crat_V _ _ _ _ he]
  exact Ref.yardstickref04_Of.calls k x y r1 r2 r3 w (hk.trans (congrArg some he))
end Go.Proofs.YtnhjidbjibehpaaGreatDoor.L4
