/- Layer 3, walked: Mul. -/
import Derived.Test.YtnhjidbjibehpaaGreatDoorIt
import Derived.Test.YtnhjidbjibehpaaGreatDoorIh
import Derived.Deep.RegionHeld3
import Derived.Deep.DrawnRows
namespace Go.Proofs.YtnhjidbjibehpaaGreatDoor.L3
open Go.Shelf Go.RowKit Go.Proofs.YtnhjidbjibehpaaGreatDoorW.PrintWords Go.Proofs.YtnhjidbjibehpaaGreatDoorW.PrintLast Go.Proofs.YtnhjidbjibehpaaGreatDoorW.PrintMore Yd
set_option linter.unusedVariables false
set_option linter.unusedSimpArgs false
attribute [local go_sem ↓] Go.wp_at_zero Go.wp_at_succ

set_option maxRecDepth 100000 in
set_option maxHeartbeats 4000000 in
/-- Mul -/
theorem mul_calls (s t : ByteArray) (w : World) (hT : Tab w) :
    Calls Tryz.prog 89 #[.string s, .string t] w fun e w' => e = .returned (bin (· * ·) s.data.toList t.data.toList) ∧ Below w.heap.size w w' := by
  have HT := Aside0.mk hT
  clear hT
  go_enter Tryz.func89, Tryz.ntmps89
  go_wp2_with fail
  rcases ival_cases s.data.toList t.data.toList with h | ⟨x, y, h1, h2⟩
  · refine (both_no s t _ h).mono ?_
    rintro e w1 ⟨rfl, hb⟩
    have HE := Aside0.mk (bin_no (f := (· * ·)) h)
    have HB := Aside0.mk hb
    clear hb h
    go_wp2_with fail
    go_ret2
    exact ⟨by rw [HE.out]; rfl, alloc2 HB.out _ _⟩
  · refine (both_yes s t x y _ h1 h2).mono ?_
    rintro e w1 ⟨v, v', rfl, hx, hy, hb⟩
    have HE := Aside0.mk (bin_yes (f := (· * ·)) h1 h2)
    have HB := Aside0.mk hb
    have HX := Aside0.mk hx.sg
    have HY := Aside0.mk hy.sg
    have HGX := Aside0.mk (GL_ival h1)
    have HGY := Aside0.mk (GL_ival h2)
    obtain ⟨r, er, hr⟩ := tres_tuple ((· * ·) x y)
    have HR := Aside0.mk hr
    obtain ⟨b1, u1, n1, rfl, hn1, hx1⟩ := hx.sg
    obtain ⟨b2, u2, n2, rfl, hn2, hy1⟩ := hy.sg
    have hg1 : GL n1 ≤ 50 := by have := GL_ival h1; rw [hx1] at this; split at this <;> simpa using this
    have hg2 : GL n2 ≤ 50 := by have := GL_ival h2; rw [hy1] at this; split at this <;> simpa using this
    obtain ⟨A1, c1, rfl, hn1'⟩ := id hn1
    obtain ⟨A2, c2, rfl, hn2'⟩ := id hn2
    have HN1 := Aside0.mk hn1
    have HN2 := Aside0.mk hn2
    have HG1 := Aside0.mk hg1
    have HG2 := Aside0.mk hg2
    have HZ := Aside0.mk (show x * y = if (b1 != b2) = true then -((n1 * n2 : Nat) : Int) else ((n1 * n2 : Nat) : Int) by rw [hx1, hy1]; cases b1 <;> cases b2 <;> simp [Int.neg_mul, Int.mul_neg])
    have hp := PBx.start w1 #[.bool b1, .slice A1 (bd 10000 n1).length c1] #[.bool b2, .slice A2 (bd 10000 n2).length c2]
    clear hb h1 h2 hx1 hy1 hr hn1 hn2 hn1' hn2' hg1 hg2
    go_wp2_with fail
    generalize ((w1.alloc (.cells #[.bool b1, .slice A1 (bd 10000 n1).length c1] 100)).alloc (.cells #[.bool b2, .slice A2 (bd 10000 n2).length c2] 100)) = W0 at *
    have HP0 := Aside0.mk hp
    obtain ⟨c0, c1', f0, f1⟩ := pair_facts hp.p0
    obtain ⟨d0, d1, g0, g1⟩ := pair_facts hp.p1
    clear hp
    go_region_held3 (fun w' => w'.cell? ⟨w1.heap.size, 0, none⟩ = some (.bool b1) ∧ w'.cell? ⟨w1.heap.size, 1, none⟩ = some (.slice A1 (bd 10000 n1).length c1) ∧ w'.cell? ⟨w1.heap.size + 1, 0, none⟩ = some (.bool b2) ∧ w'.cell? ⟨w1.heap.size + 1, 1, none⟩ = some (.slice A2 (bd 10000 n2).length c2)) (first | exact ⟨c0, c1', d0, d1⟩ | go_keep) (first
      | (go_at_call 116; refine (ntimes_calls _ _ n1 n2 _ (Nm.below HN1.out (below_drew HP0.out.bl)) (Nm.below HN2.out (below_drew HP0.out.bl)) (Nat.le_trans HG1.out (by omega)) (Nat.le_trans HG2.out (by omega))).mono ?_; rintro e W3 ⟨v3, rfl, hn3, hb3⟩; obtain ⟨A3, c3, rfl, hn3'⟩ := id hn3; have hp := PBx.next (W := W0.drew) (W' := W3) ⟨below_drew HP0.out.bl, HP0.out.p0, HP0.out.p1⟩ hb3; have HP := Aside0.mk hp; obtain ⟨c0, c1', f0, f1⟩ := pair_facts hp.p0; obtain ⟨d0, d1, g0, g1⟩ := pair_facts hp.p1; have HN3 := Aside0.mk hn3; clear hn3 hn3' hb3 hp)
      | (go_at_call 82; refine (text_calls _ (x * y) _ ⟨b1 != b2, _, n1 * n2, rfl, HN3.out, HZ.out⟩ (HT.out.below (HB.out.trans (HP.out.bl.mono HB.out.size)) (Nat.le_refl _)) (Nat.le_trans (GL_mulI HGX.out HGY.out) (by omega))).mono ?_; rintro e W4 ⟨rfl, hb4⟩; rw [HR.out]; have hp := PBx.next HP.out hb4; obtain ⟨c0, c1', f0, f1⟩ := pair_facts hp.p0; obtain ⟨d0, d1, g0, g1⟩ := pair_facts hp.p1; clear hp; have HB4 := Aside0.mk (HB.out.trans ((HP.out.bl.trans (hb4.mono HP.out.bl.size)).mono HB.out.size)); clear hb4))
    all_goals
      go_wp2_with fail
      go_ret2
      exact ⟨by rw [HE.out, HR.out]; rfl, HB4.out⟩

end Go.Proofs.YtnhjidbjibehpaaGreatDoor.L3
