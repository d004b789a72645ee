/- Layer 3, walked: Compare, Gcd. -/
import Derived.Test.YtnhjidbjibehpaaGreatDoorIu
import Derived.Test.YtnhjidbjibehpaaGreatDoorIm
import Derived.Deep.Cut
import Derived.Deep.DeepMust
import Derived.Test.YtnhjidbjibehpaaGreatDoorRgrid
namespace Go.Proofs.YtnhjidbjibehpaaGreatDoor.L3
open Go.Shelf Go.RowKit Go.Proofs.YtnhjidbjibehpaaGreatDoorW.PrintWords Go.Proofs.YtnhjidbjibehpaaGreatDoorW.PrintLast Go.Proofs.YtnhjidbjibehpaaGreatDoorW.PrintMore Yd
set_option linter.unusedVariables false
set_option linter.unusedSimpArgs false
attribute [local go_sem ↓] Go.wp_at_zero Go.wp_at_succ

/-- what Compare returns -/
def cmpT (s t : List UInt8) : Int := match ival s, ival t with
  | some x, some y => cmpI x y
  | _, _ => 0
theorem cmpT_no {s t : List UInt8} (h : ival s = none ∨ ival t = none) : cmpT s t = 0 := by
  unfold cmpT
  rcases h with h | h
  · rw [h]
  · rw [h]; cases ival s <;> rfl
theorem cmpT_yes {s t : List UInt8} {x y : Int} (h1 : ival s = some x) (h2 : ival t = some y) : cmpT s t = cmpI x y := by unfold cmpT; rw [h1, h2]
theorem Sp.flag {w : World} {v : Value} {x : Int} (h : Sp w v x) : ∃ b, b = decide (x < 0) ∧ ∃ (u : Value) (n : Nat), v = .agg #[.bool b, u] ∧ Nm w u n ∧ x = if b then -(n : Int) else (n : Int) := ⟨_, rfl, h⟩

set_option maxRecDepth 100000 in
set_option maxHeartbeats 4000000 in
/-- Compare -/
theorem compare_calls (s t : ByteArray) (w : World) :
    Calls Tryz.prog 50 #[.string s, .string t] w fun e w' => e = .returned (.int .i64 (cmpT s.data.toList t.data.toList)) ∧ Below w.heap.size w w' := by
  go_enter Tryz.func50, Tryz.ntmps50
  go_wp2_with fail
  rcases ival_cases s.data.toList t.data.toList with h | ⟨x, y, h1, h2⟩
  · refine (both_no s t _ h).mono ?_
    rintro e w1 ⟨rfl, hb⟩
    have HE := Aside0.mk (cmpT_no h)
    have HB := Aside0.mk hb
    clear hb h
    go_wp2_with fail
    go_ret
    exact ⟨by rw [HE.out]; rfl, alloc2 HB.out _ _⟩
  · refine (both_yes s t x y _ h1 h2).mono ?_
    rintro e w1 ⟨v, v', rfl, hx, hy, hb⟩
    have HE := Aside0.mk (cmpT_yes h1 h2)
    have HB := Aside0.mk hb
    obtain ⟨b1, hbs1, u1, n1, rfl, hn1, hx1⟩ := hx.flag
    obtain ⟨b2, hbs2, u2, n2, rfl, hn2, hy1⟩ := hy.flag
    have hg1 : GL n1 ≤ 50 := by have := GL_ival h1; rw [hx1] at this; split at this <;> simpa using this
    have hg2 : GL n2 ≤ 50 := by have := GL_ival h2; rw [hy1] at this; split at this <;> simpa using this
    obtain ⟨A1, c1, rfl, hn1'⟩ := id hn1
    obtain ⟨A2, c2, rfl, hn2'⟩ := id hn2
    have HN1 := Aside0.mk hn1
    have HN2 := Aside0.mk hn2
    have HG1 := Aside0.mk (Nat.le_trans hg1 (show 50 ≤ 1000 by omega))
    have HG2 := Aside0.mk (Nat.le_trans hg2 (show 50 ≤ 1000 by omega))
    have HX := Aside0.mk hx1
    have HY := Aside0.mk hy1
    have HI1 := Aside0.mk hbs1
    have HI2 := Aside0.mk hbs2
    clear hb h1 h2 hbs1 hbs2 hx1 hy1 hn1 hn2 hn1' hn2' hg1 hg2
    cases b1 <;> cases b2
    · go_wp2_with fail
      refine (ncmp_calls _ _ n1 n2 _ (HN1.out.below (alloc2' w1 _ _)) (HN2.out.below (alloc2' w1 _ _)) HG1.out HG2.out).mono ?_
      rintro e W3 ⟨rfl, hb3⟩
      have HB3 := Aside0.mk (HB.out.trans (((alloc2' w1 _ _).trans (hb3.mono (alloc2' w1 _ _).size)).mono HB.out.size))
      clear hb3
      go_wp2_with fail
      go_ret
      refine ⟨?_, HB3.out⟩
      rw [HE.out, HX.out, HY.out]; rfl
    · go_wp2_with fail
      go_ret
      refine ⟨?_, alloc2 HB.out _ _⟩
      have hy := HY.out
      have hpos : n2 ≠ 0 := by
        have := HI2.out; rw [HY.out] at this; simp at this; omega
      rw [HE.out, HX.out, hy]
      unfold cmpI
      rw [if_neg (by simp), if_pos (by simp; omega)]; rfl
    · go_wp2_with fail
      go_ret
      refine ⟨?_, alloc2 HB.out _ _⟩
      have hpos : n1 ≠ 0 := by
        have := HI1.out; rw [HX.out] at this; simp at this; omega
      rw [HE.out, HX.out, HY.out]
      unfold cmpI
      rw [if_pos (by simp; omega)]; rfl
    · go_wp2_with fail
      refine (ncmp_calls _ _ n2 n1 _ (HN2.out.below (alloc2' w1 _ _)) (HN1.out.below (alloc2' w1 _ _)) HG2.out HG1.out).mono ?_
      rintro e W3 ⟨rfl, hb3⟩
      have HB3 := Aside0.mk (HB.out.trans (((alloc2' w1 _ _).trans (hb3.mono (alloc2' w1 _ _).size)).mono HB.out.size))
      clear hb3
      go_wp2_with fail
      go_ret
      refine ⟨?_, HB3.out⟩
      rw [HE.out, HX.out, HY.out]
      unfold cmpI
      simp only [if_true]
      have : (if -(n1 : Int) < -(n2 : Int) then (-1 : Int) else if -(n1 : Int) > -(n2 : Int) then 1 else 0) = if (n2 : Int) < (n1 : Int) then -1 else if (n2 : Int) > (n1 : Int) then 1 else 0 := by
        by_cases k1 : (n2 : Int) < (n1 : Int)
        · rw [if_pos k1, if_pos (by omega)]
        · rw [if_neg k1, if_neg (by omega)]
          by_cases k2 : (n2 : Int) > (n1 : Int)
          · rw [if_pos k2, if_pos (by omega)]
          · rw [if_neg k2, if_neg (by omega)]
      rw [this]; rfl

end Go.Proofs.YtnhjidbjibehpaaGreatDoor.L3

/- Layer 3, walked: Gcd. -/
namespace Go.Proofs.YtnhjidbjibehpaaGreatDoor.L3
open Go.Shelf Go.RowKit Go.Proofs.YtnhjidbjibehpaaGreatDoorW.PrintWords Go.Proofs.YtnhjidbjibehpaaGreatDoorW.PrintLast Go.Proofs.YtnhjidbjibehpaaGreatDoorW.PrintMore Yd
set_option linter.unusedVariables false
set_option linter.unusedSimpArgs false
attribute [local go_sem ↓] Go.wp_at_zero Go.wp_at_succ

def igcd (x y : Int) : Int := (Nat.gcd x.natAbs y.natAbs : Int)

set_option maxRecDepth 100000 in
set_option maxHeartbeats 4000000 in
/-- Gcd -/
theorem gcd_calls (s t : ByteArray) (w : World) (hT : Tab w) :
    Calls Tryz.prog 51 #[.string s, .string t] w fun e w' => e = .returned (bin igcd s.data.toList t.data.toList) ∧ Below w.heap.size w w' := by
  have HT := Aside0.mk hT
  clear hT
  go_enter Tryz.func51, Tryz.ntmps51
  go_wp2_with fail
  rcases ival_cases s.data.toList t.data.toList with h | ⟨x, y, h1, h2⟩
  · refine (both_no s t _ h).mono ?_
    rintro e w1 ⟨rfl, hb⟩
    have HE := Aside0.mk (bin_no (f := igcd) h)
    have HB := Aside0.mk hb
    clear hb h
    go_wp2_with fail
    go_ret2
    exact ⟨by rw [HE.out]; rfl, alloc2 HB.out _ _⟩
  · refine (both_yes s t x y _ h1 h2).mono ?_
    rintro e w1 ⟨v, v', rfl, hx, hy, hb⟩
    have HE := Aside0.mk (bin_yes (f := igcd) h1 h2)
    have HB := Aside0.mk hb
    obtain ⟨b1, hbs1, u1, n1, rfl, hn1, hx1⟩ := hx.flag
    obtain ⟨b2, hbs2, u2, n2, rfl, hn2, hy1⟩ := hy.flag
    have ha1 : x.natAbs = n1 := by rw [hx1]; split <;> simp
    have ha2 : y.natAbs = n2 := by rw [hy1]; split <;> simp
    have hg1 : GL n1 ≤ 50 := by have := GL_ival h1; rwa [ha1] at this
    have hg2 : GL n2 ≤ 50 := by have := GL_ival h2; rwa [ha2] at this
    obtain ⟨A1, c1, rfl, hn1'⟩ := id hn1
    obtain ⟨A2, c2, rfl, hn2'⟩ := id hn2
    have HN1 := Aside0.mk (hn1.below (alloc2' w1 (.cells #[.bool b1, .slice A1 (bd 10000 n1).length c1] 100) (.cells #[.bool b2, .slice A2 (bd 10000 n2).length c2] 100)))
    have HN2 := Aside0.mk (hn2.below (alloc2' w1 (.cells #[.bool b1, .slice A1 (bd 10000 n1).length c1] 100) (.cells #[.bool b2, .slice A2 (bd 10000 n2).length c2] 100)))
    have HG1 := Aside0.mk hg1
    have HG2 := Aside0.mk hg2
    have HGC : Aside0 (igcd x y = (Nat.gcd n1 n2 : Int)) := ⟨by unfold igcd; rw [ha1, ha2]⟩
    have HB1 := Aside0.mk (alloc2 hb (.cells #[.bool b1, .slice A1 (bd 10000 n1).length c1] 100) (.cells #[.bool b2, .slice A2 (bd 10000 n2).length c2] 100))
    have hp := PBx.start w1 #[.bool b1, .slice A1 (bd 10000 n1).length c1] #[.bool b2, .slice A2 (bd 10000 n2).length c2]
    clear hb h1 h2 hbs1 hbs2 hx hy hx1 hy1 ha1 ha2 hn1 hn2 hn1' hn2' hg1 hg2
    go_wp2_with fail
    generalize ((w1.alloc (.cells #[.bool b1, .slice A1 (bd 10000 n1).length c1] 100)).alloc (.cells #[.bool b2, .slice A2 (bd 10000 n2).length c2] 100)) = W0 at *
    obtain ⟨c0, c1', f0, f1⟩ := pair_facts hp.p0
    obtain ⟨d0, d1, g0, g1⟩ := pair_facts hp.p1
    clear hp
    go_region_held3 (fun w' => w'.cell? ⟨w1.heap.size, 1, none⟩ = some (.slice A1 (bd 10000 n1).length c1) ∧ w'.cell? ⟨w1.heap.size + 1, 1, none⟩ = some (.slice A2 (bd 10000 n2).length c2)) (first | exact ⟨c1', d1⟩ | go_keep) (fail)
    all_goals
      clear c0 c1' f0 f1 d0 d1 g0 g1
      go_wp2_with fail
    go_loopg [9, 10] n2 (fun kq v9 v10 W => ∃ (a b : Nat) (A B : Option Addr) (c d : Nat), v9 = .slice A (bd 10000 a).length c ∧ v10 = .slice B (bd 10000 b).length d ∧ b ≤ kq ∧ Aside0 (Nm W (.slice A (bd 10000 a).length c) a) ∧ Aside0 (Nm W (.slice B (bd 10000 b).length d) b) ∧ Aside0 (GL a ≤ 50) ∧ Aside0 (GL b ≤ 50) ∧ Aside0 (Nat.gcd a b = Nat.gcd n1 n2) ∧ Aside0 (Below w.heap.size w W))
    case atStart => exact ⟨n1, n2, A1, A2, c1, c2, rfl, rfl, Nat.le_refl _, ⟨HN1.out.below (below_drew (Below.refl _ W0))⟩, ⟨HN2.out.below (below_drew (Below.refl _ W0))⟩, HG1, HG2, ⟨rfl⟩, ⟨below_drew HB1.out⟩⟩
    case round =>
      obtain ⟨a, b, A, B, c, d, rfl, rfl, hk, HA, HB', HGA, HGB, HGG, HBW⟩ := hrel
      by_cases hb0 : 0 < b
      · have hpos : 0 < (bd 10000 b).length := bd_len_pos (by omega) hb0
        have e1 : decide (0 < ((bd 10000 b).length : Int)) = true := decide_eq_true (by omega)
        have e2 : decide (0 < (bd 10000 b).length) = true := decide_eq_true hpos
        have HK := Aside0.mk hk
        have HB0 := Aside0.mk hb0
        clear hk hb0 hpos
        go_wp2_with fail
        refine (nover_calls _ _ a b _ HA.out HB'.out (Nat.le_trans HGA.out (by omega)) (Nat.le_trans HGB.out (by omega)) HB0.out).mono ?_
        rintro e W3 ⟨v3, v4, rfl, hq, hr, hb3⟩
        obtain ⟨A3, c3, rfl, hq'⟩ := id hq
        obtain ⟨A4, c4, rfl, hr'⟩ := id hr
        have HR := Aside0.mk hr
        have HB3 := Aside0.mk hb3
        clear hq hq' hr hr' hb3
        go_wp2_with fail
        go_roundg (a % b)
        case measure => have := Nat.mod_lt a HB0.out; have := HK.out; omega
        case rel =>
          refine ⟨b, a % b, B, A4, d, c4, rfl, rfl, Nat.le_refl _, ⟨HB'.out.below HB3.out⟩, HR, HGB, ⟨Nat.le_trans (bd_length_mono (by omega) (Nat.le_of_lt (Nat.mod_lt a HB0.out))) HGB.out⟩, ⟨?_⟩, ⟨HBW.out.trans (HB3.out.mono HBW.out.size)⟩⟩
          rw [← HGG.out, Nat.gcd_comm a b, Nat.gcd_rec b a, Nat.gcd_comm]
      · obtain rfl : b = 0 := by omega
        have hz : (bd 10000 0).length = 0 := by rw [bd_zero]; rfl
        rw [hz]
        have HAG : Aside0 (a = Nat.gcd n1 n2) := ⟨by rw [← HGG.out, Nat.gcd_zero_right]⟩
        have hgcd : GL a ≤ 50 := HGA.out
        obtain ⟨r, er, hr⟩ := tres_tuple (igcd x y)
        have HR := Aside0.mk hr
        clear hr hgcd
        have HAI : Aside0 ((a : Int) = igcd x y) := ⟨by rw [HGC.out, HAG.out]⟩
        go_wp2_with fail
        refine (text_calls _ (igcd x y) _ ⟨false, _, a, rfl, HA.out, by rw [← HAI.out]; rfl⟩ (HT.out.below HBW.out (Nat.le_refl _)) (by rw [← HAI.out]; exact Nat.le_trans HGA.out (by omega))).mono ?_
        rintro e W4 ⟨rfl, hb4⟩
        rw [HR.out]
        have HB4 := Aside0.mk (HBW.out.trans (hb4.mono HBW.out.size))
        clear hb4
        go_wp2_with fail
        go_ret2
        exact ⟨by rw [HE.out, HR.out]; rfl, HB4.out⟩

end Go.Proofs.YtnhjidbjibehpaaGreatDoor.L3

/- Layer 3, walked: Div. -/
namespace Go.Proofs.YtnhjidbjibehpaaGreatDoor.L3
open Go.Shelf Go.RowKit Go.Proofs.YtnhjidbjibehpaaGreatDoorW.PrintWords Go.Proofs.YtnhjidbjibehpaaGreatDoorW.PrintLast Go.Proofs.YtnhjidbjibehpaaGreatDoorW.PrintMore Yd
set_option linter.unusedVariables false
set_option linter.unusedSimpArgs false
attribute [local go_sem ↓] Go.wp_at_zero Go.wp_at_succ

def bad3 : Value := .tuple #[.string ⟨#[]⟩, .string ⟨#[]⟩, .int .i64 30]
/-- what Div returns -/
def divV (s t : List UInt8) : Value := match ival s, ival t with
  | some x, some y => if y = 0 then bad3 else if (x / y).natAbs < DL then .tuple #[.string ⟨(Lib.itoa (x / y)).toArray⟩, .string ⟨(Lib.itoa (x % y)).toArray⟩, .int .i64 0] else bad3
  | _, _ => bad3
theorem divV_no {s t : List UInt8} (h : ival s = none ∨ ival t = none) : divV s t = bad3 := by
  unfold divV
  rcases h with h | h
  · rw [h]
  · rw [h]; cases ival s <;> rfl
theorem divV_yes {s t : List UInt8} {x y : Int} (h1 : ival s = some x) (h2 : ival t = some y) : divV s t = if y = 0 then bad3 else if (x / y).natAbs < DL then .tuple #[.string ⟨(Lib.itoa (x / y)).toArray⟩, .string ⟨(Lib.itoa (x % y)).toArray⟩, .int .i64 0] else bad3 := by
  unfold divV; rw [h1, h2]

theorem tres_ok {z : Int} (h : z.natAbs < DL) : tres z = .tuple #[.string ⟨(Lib.itoa z).toArray⟩, .int .i64 0] := if_pos h
theorem tres_bad {z : Int} (h : ¬ z.natAbs < DL) : tres z = .tuple #[.string ⟨#[]⟩, .int .i64 30] := if_neg h
theorem GL_succ {n : Nat} (h : GL n ≤ 50) : GL (n + 1) ≤ 51 := by
  apply GL_lt
  have a := lt_pow_GL h
  rw [Nat.pow_succ]
  generalize 10000 ^ 50 = p at *
  omega
/-- the quotient and the remainder by sizes -/
theorem div_signs {x y : Int} {n m : Nat} {b c : Bool} (hm : 0 < m) (hx : x = if b = true then -(n : Int) else (n : Int)) (hy : y = if c = true then -(m : Int) else (m : Int)) :
    ((b = false ∨ n % m = 0) → x / y = (if (b != c) = true then -((n / m : Nat) : Int) else ((n / m : Nat) : Int)) ∧ x % y = ((n % m : Nat) : Int)) ∧
    (b = true → 0 < n % m → x / y = (if (b != c) = true then -((n / m + 1 : Nat) : Int) else ((n / m + 1 : Nat) : Int)) ∧ x % y = ((m - n % m : Nat) : Int)) := by
  have hdm := Nat.div_add_mod n m
  have hml := Nat.mod_lt n hm
  have key : ∀ q r : Int, x = y * q + r → 0 ≤ r → r < (m : Int) → x / y = q ∧ x % y = r := by
    intro q r h1 h2 h3
    rcases Int.lt_or_gt_of_ne (show y ≠ 0 by rw [hy]; split <;> omega) with hneg | hpos
    · refine (Int.ediv_emod_unique' hneg).2 ⟨by rw [h1]; omega, h2, ?_⟩
      have : -y = (m : Int) := by rw [hy] at hneg ⊢; split at hneg <;> rename_i hc <;> simp [hc] <;> omega
      omega
    · refine (Int.ediv_emod_unique hpos).2 ⟨by rw [h1]; omega, h2, ?_⟩
      have : y = (m : Int) := by rw [hy] at hpos ⊢; split at hpos <;> rename_i hc <;> simp [hc] <;> omega
      omega
  have hdi : (n : Int) = (m : Int) * ((n / m : Nat) : Int) + ((n % m : Nat) : Int) := by rw [← Int.natCast_mul, ← Int.natCast_add, hdm]
  generalize n / m = q at *
  generalize n % m = r at *
  constructor
  · intro h
    refine key _ _ ?_ (by omega) (by omega)
    rw [hx, hy, hdi]
    cases b <;> cases c <;> simp at h ⊢
    all_goals (try subst h) <;> simp [Int.neg_mul, Int.mul_neg]
  · intro hb hr
    subst hb
    refine key _ _ ?_ (by omega) (by omega)
    rw [hx, hy, hdi, Int.ofNat_sub (by omega)]
    cases c
    · simp [Int.neg_mul, Int.mul_neg, Int.mul_add]; omega
    · simp [Int.neg_mul, Int.mul_neg, Int.mul_add]; omega

set_option maxRecDepth 100000 in
set_option maxHeartbeats 4000000 in
/-- Div -/
theorem div_calls (s t : ByteArray) (w : World) (hT : Tab w) :
    Calls Tryz.prog 58 #[.string s, .string t] w fun e w' => e = .returned (divV s.data.toList t.data.toList) ∧ Below w.heap.size w w' := by
  have HT := Aside0.mk hT
  clear hT
  go_enter Tryz.func58, Tryz.ntmps58
  go_wp2_with fail
  rcases ival_cases s.data.toList t.data.toList with h | ⟨x, y, h1, h2⟩
  · refine (both_no s t _ h).mono ?_
    rintro e w1 ⟨rfl, hb⟩
    have HE := Aside0.mk (divV_no h)
    have HB := Aside0.mk hb
    clear hb h
    go_wp2_with fail
    refine bodyPost_ret (results_list (rs := [.tmp _, .tmp _, .tmp _]) rfl (by simp) (.tmp (.tmp (.tmp .nil)))) rfl ?_
    exact ⟨by rw [HE.out]; rfl, alloc2 HB.out _ _⟩
  · refine (both_yes s t x y _ h1 h2).mono ?_
    rintro e w1 ⟨v, v', rfl, hx, hy, hb⟩
    have HE := Aside0.mk (divV_yes h1 h2)
    have HB := Aside0.mk hb
    obtain ⟨b1, hbs1, u1, n1, rfl, hn1, hx1⟩ := hx.flag
    obtain ⟨b2, hbs2, u2, n2, rfl, hn2, hy1⟩ := hy.flag
    have ha1 : x.natAbs = n1 := by rw [hx1]; split <;> simp
    have ha2 : y.natAbs = n2 := by rw [hy1]; split <;> simp
    have hg1 : GL n1 ≤ 50 := by have := GL_ival h1; rwa [ha1] at this
    have hg2 : GL n2 ≤ 50 := by have := GL_ival h2; rwa [ha2] at this
    obtain ⟨A1, c1, rfl, hn1'⟩ := id hn1
    obtain ⟨A2, c2, rfl, hn2'⟩ := id hn2
    have HN1 := Aside0.mk (hn1.below (alloc2' w1 (.cells #[.bool b1, .slice A1 (bd 10000 n1).length c1] 100) (.cells #[.bool b2, .slice A2 (bd 10000 n2).length c2] 100)))
    have HN2 := Aside0.mk (hn2.below (alloc2' w1 (.cells #[.bool b1, .slice A1 (bd 10000 n1).length c1] 100) (.cells #[.bool b2, .slice A2 (bd 10000 n2).length c2] 100)))
    have HG1 := Aside0.mk hg1
    have HG2 := Aside0.mk hg2
    have HB1 := Aside0.mk (alloc2 hb (.cells #[.bool b1, .slice A1 (bd 10000 n1).length c1] 100) (.cells #[.bool b2, .slice A2 (bd 10000 n2).length c2] 100))
    have hp := PBx.start w1 #[.bool b1, .slice A1 (bd 10000 n1).length c1] #[.bool b2, .slice A2 (bd 10000 n2).length c2]
    have HX := Aside0.mk hx1
    have HY := Aside0.mk hy1
    by_cases h0 : n2 = 0
    · have hbd : (bd 10000 n2).length = 0 := by rw [h0, bd_zero]; rfl
      have hy0 : y = 0 := by rw [hy1, h0]; split <;> rfl
      have HY0 := Aside0.mk hy0
      rw [hbd] at hp ⊢
      clear hb h1 h2 hbs1 hbs2 hx hy hx1 hy1 ha1 ha2 hn1 hn2 hn1' hn2' hg1 hg2 h0 hbd hy0
      go_wp2_with fail
      refine bodyPost_ret (results_list (rs := [.tmp _, .tmp _, .tmp _]) rfl (by simp) (.tmp (.tmp (.tmp .nil)))) rfl ?_
      exact ⟨by rw [HE.out, if_pos HY0.out]; rfl, alloc2 HB.out _ _⟩
    · have hpos : 0 < (bd 10000 n2).length := bd_len_pos (by omega) (by omega)
      have b1' : (((bd 10000 n2).length : Int) == 0) = false := by rw [beq_eq_false_iff_ne]; omega
      have b2' : ((bd 10000 n2).length == 0) = false := by rw [beq_eq_false_iff_ne]; omega
      have HM0 : Aside0 (0 < n2) := ⟨by omega⟩
      have hyn : y ≠ 0 := by rw [hy1]; split <;> omega
      have HYN := Aside0.mk hyn
      have HRD := Aside0.mk (show (x % y).natAbs < DL by
        have h3 := (ival_iff.1 h2).2
        have h4 := Int.emod_nonneg x hyn
        have h5 := Int.emod_lt x hyn
        generalize DL = d at *
        omega)
      clear hb h1 h2 hbs1 hbs2 hx hy hx1 hy1 ha1 ha2 hn1 hn2 hn1' hn2' hg1 hg2 hyn h0 hpos
      go_wp2_with fail
      generalize ((w1.alloc (.cells #[.bool b1, .slice A1 (bd 10000 n1).length c1] 100)).alloc (.cells #[.bool b2, .slice A2 (bd 10000 n2).length c2] 100)) = W0 at *
      have HP0 := Aside0.mk hp
      clear hp
      refine (nover_calls _ _ n1 n2 _ HN1.out HN2.out (Nat.le_trans HG1.out (by omega)) (Nat.le_trans HG2.out (by omega)) HM0.out).mono ?_
      rintro e W3 ⟨v3, v4, rfl, hq, hr, hb3⟩
      obtain ⟨A3, c3, rfl, hq'⟩ := id hq
      obtain ⟨A4, c4, rfl, hr'⟩ := id hr
      have hp := HP0.out.next hb3
      have HQ := Aside0.mk hq
      have HR := Aside0.mk hr
      have HP := Aside0.mk hp
      obtain ⟨c0, c1', f0, f1⟩ := pair_facts hp.p0
      obtain ⟨d0, d1, g0, g1⟩ := pair_facts hp.p1
      have HGQ : Aside0 (GL (n1 / n2) ≤ 50) := ⟨Nat.le_trans (bd_length_mono (by omega) (Nat.div_le_self n1 n2)) HG1.out⟩
      have HGR : Aside0 (GL (n1 % n2) ≤ 50) := ⟨Nat.le_trans (bd_length_mono (by omega) (Nat.mod_le n1 n2)) HG1.out⟩
      have HN2' := Aside0.mk (HN2.out.below hb3)
      have hds := div_signs HM0.out HX.out HY.out
      clear hq hq' hr hr' hb3 hp
      have hlen : (0 < (bd 10000 (n1 % n2)).length) ↔ 0 < n1 % n2 := by
        constructor
        · intro h; rcases Nat.eq_zero_or_pos (n1 % n2) with h' | h'
          · rw [h', bd_zero] at h; simp at h
          · exact h'
        · exact bd_len_pos (by omega)
      have HDS := Aside0.mk hds
      have HLE := Aside0.mk hlen
      clear hds hlen
      have HBW := Aside0.mk (HB.out.trans (HP.out.bl.mono HB.out.size))
      cases b1
      · have hd1 := HDS.out.1 (.inl rfl)
        have HZQ := Aside0.mk (show x / y = if b2 = true then -((n1 / n2 : Nat) : Int) else ((n1 / n2 : Nat) : Int) by rw [hd1.1]; cases b2 <;> rfl)
        have HZR := Aside0.mk hd1.2
        clear hd1 HDS HLE
        go_wp2_with fail
        refine (text_calls _ (x / y) _ ⟨b2, _, _, rfl, HQ.out, HZQ.out⟩ (HT.out.below HBW.out (Nat.le_refl _)) (by rw [HZQ.out]; split <;> simp <;> exact Nat.le_trans HGQ.out (by omega))).mono ?_
        rintro e W5 ⟨rfl, hb5⟩
        have HB5 := Aside0.mk (HBW.out.trans (hb5.mono HBW.out.size))
        have HR5 := Aside0.mk (HR.out.below hb5)
        clear hb5
        by_cases hDL : (x / y).natAbs < DL
        · have HE' := Aside0.mk (by rw [HE.out, if_neg HYN.out, if_pos hDL] : divV s.data.toList t.data.toList = _)
          rw [tres_ok hDL]
          clear hDL
          go_wp2_with fail
          refine (text_calls _ (x % y) _ ⟨false, _, _, rfl, HR5.out, HZR.out⟩ (HT.out.below HB5.out (Nat.le_refl _)) (by rw [HZR.out]; simp; exact Nat.le_trans HGR.out (by omega))).mono ?_
          rintro e W6 ⟨rfl, hb6⟩
          rw [tres_ok HRD.out]
          have HB6 := Aside0.mk (HB5.out.trans (hb6.mono HB5.out.size))
          clear hb6
          go_wp2_with fail
          refine bodyPost_ret (results_list (rs := [.tmp _, .tmp _, .tmp _]) rfl (by simp) (.tmp (.tmp (.tmp .nil)))) rfl ?_
          exact ⟨by rw [HE'.out]; rfl, HB6.out⟩
        · have HE' := Aside0.mk (by rw [HE.out, if_neg HYN.out, if_neg hDL] : divV s.data.toList t.data.toList = _)
          rw [tres_bad hDL]
          clear hDL
          go_wp2_with fail
          refine bodyPost_ret (results_list (rs := [.tmp _, .tmp _, .tmp _]) rfl (by simp) (.tmp (.tmp (.tmp .nil)))) rfl ?_
          exact ⟨by rw [HE'.out]; rfl, HB5.out⟩
      · clear HBW
        go_upto_if 45 with (fail)
        go_cut [10, 11] from 16 (fun v10 v11 wc => ∃ (A3 A4 : Option Addr) (c3 c4 qn rn : Nat), v10 = .slice A3 (bd 10000 qn).length c3 ∧ v11 = .slice A4 (bd 10000 rn).length c4 ∧ Aside0 (Nm wc (.slice A3 (bd 10000 qn).length c3) qn) ∧ Aside0 (Nm wc (.slice A4 (bd 10000 rn).length c4) rn) ∧
          Aside0 (x / y = if (!b2) = true then -((qn : Nat) : Int) else ((qn : Nat) : Int)) ∧ Aside0 (x % y = ((rn : Nat) : Int)) ∧ Aside0 (GL qn ≤ 51) ∧ Aside0 (GL rn ≤ 50) ∧ Aside0 (PBx w1 wc #[.bool true, .slice A1 (bd 10000 n1).length c1] #[.bool b2, .slice A2 (bd 10000 n2).length c2]))
        case first =>
          have HN2W := Aside0.mk (Nm.below (w := W3) (w1 := W3.drew) HN2'.out (below_drew (Below.refl _ W3)))
          have HQW := Aside0.mk (Nm.below (w := W3) (w1 := W3.drew) HQ.out (below_drew (Below.refl _ W3)))
          have HRW := Aside0.mk (Nm.below (w := W3) (w1 := W3.drew) HR.out (below_drew (Below.refl _ W3)))
          have hmd := Nat.mod_lt n1 HM0.out
          have HML := Aside0.mk (Nat.le_of_lt hmd)
          have HGR2 : Aside0 (GL (n2 - n1 % n2) ≤ 50) := ⟨Nat.le_trans (bd_length_mono (by omega) (Nat.sub_le _ _)) HG2.out⟩
          clear hmd
          go_wp2_with fail
          · rename_i hr0
            have hr1 : 0 < n1 % n2 := HLE.out.1 (by omega)
            have hds2 := HDS.out.2 trivial hr1
            have HDS2 := Aside0.mk hds2
            clear hds2 hr1 hr0
            have HGO : Aside0 (GL 1 ≤ 1000) := ⟨Nat.le_trans (GL_lt (n := 1) (k := 1) (by omega)) (by omega)⟩
            have HPC := Aside0.mk (PBx.next (W' := W3.drew) HP.out (below_drew (Below.refl _ W3)))
            clear HP
            go_region_held3 (fun w' => w'.cell? ⟨w1.heap.size + 1, 1, none⟩ = some (.slice A2 (bd 10000 n2).length c2)) (first | exact d1 | go_keep) (first
              | (go_at_call 87; refine (one_calls _).mono ?_; rintro e W5 ⟨v5, rfl, hn5, hbx⟩; obtain ⟨A5, c5, rfl, hn5'⟩ := id hn5; have HO := Aside0.mk hn5; clear hn5 hn5'; have hp := PBx.next HPC.out hbx; clear HPC; have HPC := Aside0.mk hp; obtain ⟨d0, d1, g0, g1⟩ := pair_facts hp.p1; clear hp; (try (have hx := Nm.below HQW.out hbx; clear HQW; have HQW := Aside0.mk hx; clear hx)); (try (have hx := Nm.below HRW.out hbx; clear HRW; have HRW := Aside0.mk hx; clear hx)); (try (have hx := Nm.below HN2W.out hbx; clear HN2W; have HN2W := Aside0.mk hx; clear hx)); (try (have hx := Nm.below HPL.out hbx; clear HPL; have HPL := Aside0.mk hx; clear hx)); (try (have hx := Nm.below HMI.out hbx; clear HMI; have HMI := Aside0.mk hx; clear hx)); clear hbx)
              | (go_at_call 86; go_must (refine (nplus_calls _ _ (n1 / n2) 1 _ HQW.out HO.out (Nat.le_trans HGQ.out (by omega)) HGO.out).mono ?_); rintro e W6 ⟨v6, rfl, hn6, hbx⟩; obtain ⟨A6, c6, rfl, hn6'⟩ := id hn6; have HPL := Aside0.mk hn6; clear hn6 hn6'; have hp := PBx.next HPC.out hbx; clear HPC; have HPC := Aside0.mk hp; obtain ⟨d0, d1, g0, g1⟩ := pair_facts hp.p1; clear hp; (try (have hx := Nm.below HQW.out hbx; clear HQW; have HQW := Aside0.mk hx; clear hx)); (try (have hx := Nm.below HRW.out hbx; clear HRW; have HRW := Aside0.mk hx; clear hx)); (try (have hx := Nm.below HN2W.out hbx; clear HN2W; have HN2W := Aside0.mk hx; clear hx)); (try (have hx := Nm.below HO.out hbx; clear HO; have HO := Aside0.mk hx; clear hx)); (try (have hx := Nm.below HMI.out hbx; clear HMI; have HMI := Aside0.mk hx; clear hx)); clear hbx)
              | (go_at_call 88; refine (nminus_calls _ _ n2 (n1 % n2) _ HN2W.out HRW.out (Nat.le_trans HG2.out (by omega)) HML.out).mono ?_; rintro e W7 ⟨v7, rfl, hn7, hbx⟩; obtain ⟨A7, c7, rfl, hn7'⟩ := id hn7; have HMI := Aside0.mk hn7; clear hn7 hn7'; have hp := PBx.next HPC.out hbx; clear HPC; have HPC := Aside0.mk hp; obtain ⟨d0, d1, g0, g1⟩ := pair_facts hp.p1; clear hp; (try (have hx := Nm.below HQW.out hbx; clear HQW; have HQW := Aside0.mk hx; clear hx)); (try (have hx := Nm.below HRW.out hbx; clear HRW; have HRW := Aside0.mk hx; clear hx)); (try (have hx := Nm.below HN2W.out hbx; clear HN2W; have HN2W := Aside0.mk hx; clear hx)); (try (have hx := Nm.below HO.out hbx; clear HO; have HO := Aside0.mk hx; clear hx)); (try (have hx := Nm.below HPL.out hbx; clear HPL; have HPL := Aside0.mk hx; clear hx)); clear hbx))
            all_goals
              go_wp2_with fail
              go_meet
              case rel => exact ⟨A6, A7, c6, c7, n1 / n2 + 1, n2 - n1 % n2, rfl, rfl, HPL, HMI, ⟨by rw [HDS2.out.1]; cases b2 <;> rfl⟩, ⟨HDS2.out.2⟩, ⟨GL_succ HGQ.out⟩, HGR2, HPC⟩
          · rename_i hr0
            have hr1 : ¬ 0 < n1 % n2 := fun h => by have := HLE.out.2 h; omega
            have hds1 := HDS.out.1 (.inr (by omega))
            go_meet
            case rel => exact ⟨A3, A4, c3, c4, n1 / n2, n1 % n2, rfl, rfl, HQ, HR, ⟨by rw [hds1.1]; cases b2 <;> rfl⟩, ⟨hds1.2⟩, ⟨Nat.le_trans HGQ.out (by omega)⟩, HGR, HP⟩
        case rest =>
          obtain ⟨A3, A4, c3, c4, qn, rn, rfl, rfl, HQ, HR, HZQ, HZR, HGQ, HGR, HP⟩ := hcut
          obtain ⟨c0, c1', f0, f1⟩ := pair_facts HP.out.p0
          obtain ⟨d0, d1, g0, g1⟩ := pair_facts HP.out.p1
          have HBW := Aside0.mk (HB.out.trans (HP.out.bl.mono HB.out.size))
          go_wp2_with fail
          refine (text_calls _ (x / y) _ ⟨!b2, _, _, rfl, HQ.out, HZQ.out⟩ (HT.out.below HBW.out (Nat.le_refl _)) (by rw [HZQ.out]; split <;> simp <;> exact Nat.le_trans HGQ.out (by omega))).mono ?_
          rintro e W5 ⟨rfl, hb5⟩
          have HB5 := Aside0.mk (HBW.out.trans (hb5.mono HBW.out.size))
          have HR5 := Aside0.mk (HR.out.below hb5)
          clear hb5
          by_cases hDL : (x / y).natAbs < DL
          · have HE' := Aside0.mk (by rw [HE.out, if_neg HYN.out, if_pos hDL] : divV s.data.toList t.data.toList = _)
            rw [tres_ok hDL]
            clear hDL
            go_wp2_with fail
            refine (text_calls _ (x % y) _ ⟨false, _, _, rfl, HR5.out, HZR.out⟩ (HT.out.below HB5.out (Nat.le_refl _)) (by rw [HZR.out]; simp; exact Nat.le_trans HGR.out (by omega))).mono ?_
            rintro e W6 ⟨rfl, hb6⟩
            rw [tres_ok HRD.out]
            have HB6 := Aside0.mk (HB5.out.trans (hb6.mono HB5.out.size))
            clear hb6
            go_wp2_with fail
            refine bodyPost_ret (results_list (rs := [.tmp _, .tmp _, .tmp _]) rfl (by simp) (.tmp (.tmp (.tmp .nil)))) rfl ?_
            exact ⟨by rw [HE'.out]; rfl, HB6.out⟩
          · have HE' := Aside0.mk (by rw [HE.out, if_neg HYN.out, if_neg hDL] : divV s.data.toList t.data.toList = _)
            rw [tres_bad hDL]
            clear hDL
            go_wp2_with fail
            refine bodyPost_ret (results_list (rs := [.tmp _, .tmp _, .tmp _]) rfl (by simp) (.tmp (.tmp (.tmp .nil)))) rfl ?_
            exact ⟨by rw [HE'.out]; rfl, HB5.out⟩

end Go.Proofs.YtnhjidbjibehpaaGreatDoor.L3

/- Layer 4, walked: work.do, mul, quotient. -/
namespace Go.Proofs.YtnhjidbjibehpaaGreatDoor.L4
open Go.Shelf Go.RowKit Go.Proofs.YtnhjidbjibehpaaGreatDoorW.PrintWords Go.Proofs.YtnhjidbjibehpaaGreatDoorW.PrintLast Go.Proofs.YtnhjidbjibehpaaGreatDoorW.PrintMore Yd L3
set_option linter.unusedVariables false
set_option linter.unusedSimpArgs false
attribute [local go_sem ↓] Go.wp_at_zero Go.wp_at_succ

/-- a text and an error -/
abbrev TE := ByteArray × Int
def teV (r : TE) : Value := .tuple #[.string r.1, .int .i64 r.2]
def teI (z : Int) : TE := if z.natAbs < DL then (⟨(Lib.itoa z).toArray⟩, 0) else (⟨#[]⟩, 30)
def teBad : TE := (⟨#[]⟩, 30)
theorem tres_te (z : Int) : tres z = teV (teI z) := by unfold tres teI; split <;> rfl
/-- an operation of two integers -/
def opR (f : Int → Int → Int) (s t : ByteArray) : TE := match ival s.data.toList, ival t.data.toList with
  | some x, some y => teI (f x y)
  | _, _ => teBad
theorem bin_te (f : Int → Int → Int) (s t : ByteArray) : bin f s.data.toList t.data.toList = teV (opR f s t) := by
  unfold bin opR
  cases ival s.data.toList with
  | none => rfl
  | some x => cases ival t.data.toList with
    | none => rfl
    | some y => exact tres_te _
/-- the quotient alone -/
def quoR (s t : ByteArray) : TE := match ival s.data.toList, ival t.data.toList with
  | some x, some y => if y = 0 then teBad else teI (x / y)
  | _, _ => teBad
def remR (s t : ByteArray) : ByteArray := match ival s.data.toList, ival t.data.toList with
  | some x, some y => if y = 0 then ⟨#[]⟩ else if (x / y).natAbs < DL then ⟨(Lib.itoa (x % y)).toArray⟩ else ⟨#[]⟩
  | _, _ => ⟨#[]⟩
theorem divV_te (s t : ByteArray) : divV s.data.toList t.data.toList = .tuple #[.string (quoR s t).1, .string (remR s t), .int .i64 (quoR s t).2] := by
  unfold divV quoR remR
  cases ival s.data.toList with
  | none => rfl
  | some x => cases ival t.data.toList with
    | none => rfl
    | some y =>
      simp only []
      split
      · rfl
      · unfold teI; split <;> rfl

/-- what do returns, and the state behind it -/
def doR (b : Bool) (r : TE) : ByteArray := if b then ⟨#[]⟩ else r.1
def doB (b : Bool) (r : TE) : Bool := b || r.2 != 0
theorem doR_false (r : TE) : doR false r = r.1 := rfl
theorem doR_true (r : TE) : doR true r = ⟨#[]⟩ := rfl
theorem doB_false {r : TE} : doB false r = (r.2 != 0) := rfl
theorem doB_true (r : TE) : doB true r = true := rfl
/-- a function of two texts, called -/
def OpIs (g : Nat) (F : ByteArray → ByteArray → TE) : Prop :=
  (∀ args W, (callFunc g args).run Tryz.prog W = .ok (.enter g args) W) ∧
  ∀ s t W, Tab W → Calls Tryz.prog g #[.string s, .string t] W fun e W' => e = .returned (teV (F s t)) ∧ Below W.heap.size W W'
theorem op_add : OpIs 62 (opR (· + ·)) := ⟨enters_of Tryz.func62 (by kernel_rfl) rfl, fun s t W hT => by have h := add_calls s t W hT; rwa [bin_te] at h⟩
theorem op_sub : OpIs 73 (opR (· - ·)) := ⟨enters_of Tryz.func73 (by kernel_rfl) rfl, fun s t W hT => by have h := sub_calls s t W hT; rwa [bin_te] at h⟩
theorem op_mul : OpIs 89 (opR (· * ·)) := ⟨enters_of Tryz.func89 (by kernel_rfl) rfl, fun s t W hT => by have h := mul_calls s t W hT; rwa [bin_te] at h⟩
theorem op_gcd : OpIs 51 (opR igcd) := ⟨enters_of Tryz.func51 (by kernel_rfl) rfl, fun s t W hT => by have h := gcd_calls s t W hT; rwa [bin_te] at h⟩

set_option maxRecDepth 100000 in
set_option maxHeartbeats 4000000 in
theorem quo1_calls (s t : ByteArray) (W : World) (hT : Tab W) : Calls Tryz.prog 111 #[.string s, .string t] W fun e W' => e = .returned (teV (quoR s t)) ∧ Below W.heap.size W W' := by
  go_enter Tryz.func111, Tryz.ntmps111
  go_wp2_with fail
  refine (div_calls s t W hT).mono ?_
  rintro e w1 ⟨rfl, hb⟩
  rw [divV_te]
  have HB := Aside0.mk hb
  clear hb
  go_wp2_with fail
  go_ret2
  exact ⟨rfl, HB.out⟩
theorem op_quo : OpIs 111 quoR := ⟨enters_of Tryz.func111 (by kernel_rfl) rfl, fun s t W hT => quo1_calls s t W hT⟩

theorem grown_setB {W w1 : World} (h : Below W.heap.size W w1) (B : Nat) (v : Value) : W.grownBy (w1.setCell ⟨B, 0, none⟩ v) (some B) :=
  ⟨h.os, h.tape, h.output, by rw [World.size_setCell]; exact h.size, fun k hk hne => (Below.heap_setCell w1 ⟨B, 0, none⟩ v k (fun e => hne (by show some k = some B; rw [show k = B from e]))).trans (h.block k hk)⟩
/-- the state of a calculation -/
def Wk (W : World) (B : Nat) (b : Bool) : Prop := W.heap[B]? = some (.cells #[.bool b] 78)
theorem Wk.cell {W : World} {B : Nat} {b : Bool} (h : Wk W B b) : W.cell? ⟨B, 0, none⟩ = some (.bool b) := blk_cell h 0
theorem Wk.frozen {W : World} {B : Nat} {b : Bool} (h : Wk W B b) : W.frozen? ⟨B, 0, none⟩ = false := blk_frozen h 0

set_option maxRecDepth 100000 in
set_option maxHeartbeats 4000000 in
/-- do -/
theorem do_calls (g : Nat) (F : ByteArray → ByteArray → TE) (hF : OpIs g F) (W : World) (B : Nat) (b : Bool) (s t : ByteArray) (hw : Wk W B b) (hT : Tab W) :
    Calls Tryz.prog 84 #[.pointer (some ⟨B, 0, none⟩), .func (.func g) #[] #[], .string s, .string t] W fun e W' => e = .returned (.string (doR b (F s t))) ∧ Wk W' B (doB b (F s t)) ∧ W.grownBy W' (some B) := by
  obtain ⟨eg, hop⟩ := hF
  have HW := Aside0.mk hw
  have HT := Aside0.mk hT
  have HOP := Aside0.mk hop
  have hc := hw.cell
  have hf := hw.frozen
  clear hw hT hop
  go_enter Tryz.func84, Tryz.ntmps84
  cases b
  · go_wp2_with fail
    refine (HOP.out s t W HT.out).mono ?_
    rintro e w1 ⟨rfl, hb⟩
    unfold teV
    have hw1 : Wk w1 B false := (hb.block B (blk_lt HW.out)).trans HW.out
    have HW1 := Aside0.mk hw1
    have hc := hw1.cell
    have hf := hw1.frozen
    have HB := Aside0.mk hb
    clear hb hw1
    obtain ⟨er, her⟩ : ∃ er, (F s t).2 = er := ⟨_, rfl⟩
    rw [her]
    have HER := Aside0.mk her
    clear her
    go_wp2_with fail
    go_ret
    exact ⟨by rw [doR_false]; rfl, by rw [doB_false, HER.out]; exact blk_set HW1.out 0 _, grown_setB HB.out _ _⟩
  · go_wp2_with fail
    go_ret
    exact ⟨by rw [doR_true]; rfl, by rw [doB_true]; exact HW.out, ⟨rfl, rfl, rfl, Nat.le_refl _, fun _ _ _ => rfl⟩⟩

set_option maxRecDepth 100000 in
set_option maxHeartbeats 4000000 in
/-- mul -/
theorem wmul_calls (W : World) (B : Nat) (b : Bool) (s t : ByteArray) (hw : Wk W B b) (hT : Tab W) :
    Calls Tryz.prog 60 #[.pointer (some ⟨B, 0, none⟩), .string s, .string t] W fun e W' => e = .returned (.string (doR b (opR (· * ·) s t))) ∧ Wk W' B (doB b (opR (· * ·) s t)) ∧ W.grownBy W' (some B) := by
  have HW := Aside0.mk hw
  have HT := Aside0.mk hT
  clear hw hT
  go_enter Tryz.func60, Tryz.ntmps60
  go_wp2_with fail
  refine (do_calls _ _ op_mul W B b s t HW.out HT.out).mono ?_
  rintro e w1 ⟨rfl, hw1, hg⟩
  have HW1 := Aside0.mk hw1
  have HG := Aside0.mk hg
  clear hw1 hg
  obtain ⟨r, hr⟩ : ∃ r, doR b (opR (· * ·) s t) = r := ⟨_, rfl⟩
  rw [hr]
  go_wp2_with fail
  go_ret
  exact ⟨by rw [hr]; rfl, HW1.out, HG.out⟩

set_option maxRecDepth 100000 in
set_option maxHeartbeats 4000000 in
/-- quotient -/
theorem wquo_calls (W : World) (B : Nat) (b : Bool) (s t : ByteArray) (hw : Wk W B b) (hT : Tab W) :
    Calls Tryz.prog 85 #[.pointer (some ⟨B, 0, none⟩), .string s, .string t] W fun e W' => e = .returned (.string (doR b (quoR s t))) ∧ Wk W' B (doB b (quoR s t)) ∧ W.grownBy W' (some B) := by
  have HW := Aside0.mk hw
  have HT := Aside0.mk hT
  clear hw hT
  go_enter Tryz.func85, Tryz.ntmps85
  go_wp2_with fail
  refine (do_calls _ _ op_quo W B b s t HW.out HT.out).mono ?_
  rintro e w1 ⟨rfl, hw1, hg⟩
  have HW1 := Aside0.mk hw1
  have HG := Aside0.mk hg
  clear hw1 hg
  obtain ⟨r, hr⟩ : ∃ r, doR b (quoR s t) = r := ⟨_, rfl⟩
  rw [hr]
  go_wp2_with fail
  go_ret
  exact ⟨by rw [hr]; rfl, HW1.out, HG.out⟩

/-- rational.Valid: both integers, the denominator positive, and nothing in common -/
def rvalid (s t : List UInt8) : Bool := match ival s, ival t with
  | some p, some q => decide (0 < q) && decide (igcd p q = 1)
  | _, _ => false

end Go.Proofs.YtnhjidbjibehpaaGreatDoor.L4

/- Layer 4, walked: rational.Valid. -/
namespace Go.Proofs.YtnhjidbjibehpaaGreatDoor.L4
open Go.Shelf Go.RowKit Go.Proofs.YtnhjidbjibehpaaGreatDoorW.PrintWords Go.Proofs.YtnhjidbjibehpaaGreatDoorW.PrintLast Go.Proofs.YtnhjidbjibehpaaGreatDoorW.PrintMore Yd L3
set_option linter.unusedVariables false
set_option linter.unusedSimpArgs false
attribute [local go_sem ↓] Go.wp_at_zero Go.wp_at_succ

theorem itoa_0 : Lib.itoa 0 = [48] := by rw [itoa_pos (by omega), show (0 : Int).natAbs = 0 from rfl, decDigits_zero]
theorem ival_0 : ival [48] = some 0 := by rw [← itoa_0]; exact ival_itoa (by rw [DL_eq]; exact Nat.pow_pos (by omega))
theorem itoa_1 : Lib.itoa 1 = [49] := by
  rw [itoa_pos (by omega), show (1 : Int).natAbs = 1 from rfl, decDigits_small (by omega)]; rfl
theorem itoa_1_iff (x : Int) : Lib.itoa x = [49] ↔ x = 1 := ⟨fun h => itoa_inj (h.trans itoa_1.symm), fun h => by rw [h, itoa_1]⟩
theorem itoa_0_iff (x : Int) : Lib.itoa x = [48] ↔ x = 0 := ⟨fun h => itoa_inj (h.trans itoa_0.symm), fun h => by rw [h, itoa_0]⟩
theorem cmpT_zero {t : List UInt8} {q : Int} (h : ival t = some q) : cmpT t [48] = cmpI q 0 := cmpT_yes h ival_0
theorem igcd_lt {p q : Int} (hp : p.natAbs < DL) (hq : q.natAbs < DL) (h0 : q ≠ 0) : (igcd p q).natAbs < DL := by
  unfold igcd
  rw [Int.natAbs_natCast]
  exact Nat.lt_of_le_of_lt (Nat.gcd_le_right _ (by omega)) hq

/-- a fraction's box -/
structure RB (w W : World) (s t : ByteArray) : Prop where
  bl : Below w.heap.size w W
  p0 : W.heap[w.heap.size]? = some (.cells #[.string s, .string t] 23)
theorem RB.start (w : World) (s t : ByteArray) : RB w (w.alloc (.cells #[.string s, .string t] 23)) s t := ⟨below_alloc (Below.refl _ w) _, alloc_here w _⟩
theorem RB.next {w W W' : World} {s t : ByteArray} (h : RB w W s t) (hb : Below W.heap.size W W') : RB w W' s t := ⟨h.bl.trans (hb.mono h.bl.size), (hb.block _ (blk_lt h.p0)).trans h.p0⟩

set_option maxRecDepth 100000 in
set_option maxHeartbeats 4000000 in
/-- Valid -/
theorem rvalid_calls (s t : ByteArray) (w : World) (hT : Tab w) :
    Calls Tryz.prog 17 #[.agg #[.string s, .string t]] w fun e w' => e = .returned (.bool (rvalid s.data.toList t.data.toList)) ∧ Below w.heap.size w w' := by
  have HT := Aside0.mk hT
  clear hT
  go_enter Tryz.func17, Tryz.ntmps17
  go_wp2_with fail
  have HR0 := Aside0.mk (RB.start w s t)
  generalize w.alloc (.cells #[.string s, .string t] 23) = W0 at *
  refine (valid_calls s _).mono ?_
  rintro e w1 ⟨rfl, hb1⟩
  have HR1 := Aside0.mk (HR0.out.next hb1)
  obtain ⟨c0, c1, f0, f1⟩ := pair_facts HR1.out.p0
  clear hb1 HR0
  rw [ivalid_iff_isSome]
  cases h1 : ival s.data.toList with
  | none =>
    simp only [Option.isSome_none]
    have HE : Aside0 (rvalid s.data.toList t.data.toList = false) := ⟨by unfold rvalid; rw [h1]⟩
    clear h1
    go_wp2_with fail
    go_ret
    exact ⟨by rw [HE.out]; rfl, HR1.out.bl⟩
  | some p =>
    simp only [Option.isSome_some]
    have H1 := Aside0.mk h1
    clear h1
    go_wp2_with fail
    refine (valid_calls t _).mono ?_
    rintro e w2 ⟨rfl, hb2⟩
    have HR2 := Aside0.mk (HR1.out.next hb2)
    obtain ⟨c0, c1, f0, f1⟩ := pair_facts HR2.out.p0
    clear hb2 HR1
    rw [ivalid_iff_isSome]
    cases h2 : ival t.data.toList with
    | none =>
      simp only [Option.isSome_none]
      have HE : Aside0 (rvalid s.data.toList t.data.toList = false) := ⟨by unfold rvalid; rw [h2]; cases ival s.data.toList <;> rfl⟩
      clear h2
      go_wp2_with fail
      go_ret
      exact ⟨by rw [HE.out]; rfl, HR2.out.bl⟩
    | some q =>
      simp only [Option.isSome_some]
      have H2 := Aside0.mk h2
      have HC := Aside0.mk (cmpT_zero h2)
      have HE : Aside0 (rvalid s.data.toList t.data.toList = (decide (0 < q) && decide (igcd p q = 1))) := ⟨by unfold rvalid; rw [H1.out, h2]⟩
      clear h2
      go_wp2_with fail
      refine (compare_calls t ⟨#[48]⟩ _).mono ?_
      rintro e w3 ⟨rfl, hb3⟩
      have HR3 := Aside0.mk (HR2.out.next hb3)
      obtain ⟨c0, c1, f0, f1⟩ := pair_facts HR3.out.p0
      clear hb3 HR2
      rw [HC.out]
      by_cases hq : 0 < q
      · have e1 : decide (cmpI q 0 ≤ 0) = false := decide_eq_false (by unfold cmpI; split <;> (try split) <;> omega)
        have HQ := Aside0.mk hq
        obtain ⟨cc, hcc⟩ : ∃ cc, cmpI q 0 = cc := ⟨_, rfl⟩
        rw [hcc] at e1 ⊢
        clear hcc hq
        go_wp2_with fail
        refine (gcd_calls s t _ (HT.out.below HR3.out.bl (Nat.le_refl _))).mono ?_
        rintro e w4 ⟨rfl, hb4⟩
        have HB4 := Aside0.mk (HR3.out.bl.trans (hb4.mono HR3.out.bl.size))
        rw [bin_yes H1.out H2.out, tres_ok (igcd_lt (ival_iff.1 H1.out).2 (ival_iff.1 H2.out).2 (by have := HQ.out; omega))]
        clear hb4 HR3 c0 c1 f0 f1
        have HG := Aside0.mk (itoa_1_iff (igcd p q))
        obtain ⟨g, hg⟩ : ∃ g, Lib.itoa (igcd p q) = g := ⟨_, rfl⟩
        rw [hg] at HG ⊢
        have e2 : ((0 : Int) == 0) = true := rfl
        clear hg
        go_wp2_with fail
        go_ret
        refine ⟨?_, HB4.out⟩
        rw [HE.out, decide_eq_true HQ.out, Bool.true_and]
        have : (g == [49]) = decide (igcd p q = 1) := by
          rw [Bool.eq_iff_iff, beq_iff_eq, decide_eq_true_iff]; exact HG.out
        rw [← this]; rfl
      · have e1 : decide (cmpI q 0 ≤ 0) = true := decide_eq_true (by unfold cmpI; split <;> (try split) <;> omega)
        have HQ := Aside0.mk hq
        obtain ⟨cc, hcc⟩ : ∃ cc, cmpI q 0 = cc := ⟨_, rfl⟩
        rw [hcc] at e1 ⊢
        clear hcc hq
        go_wp2_with fail
        go_ret
        exact ⟨by rw [HE.out, decide_eq_false (Int.not_lt.2 HQ.out)]; rfl, HR3.out.bl⟩

end Go.Proofs.YtnhjidbjibehpaaGreatDoor.L4

/- Layer 4, walked: work.reduced. -/
namespace Go.Proofs.YtnhjidbjibehpaaGreatDoor.L4
open Go.Shelf Go.RowKit Go.Proofs.YtnhjidbjibehpaaGreatDoorW.PrintWords Go.Proofs.YtnhjidbjibehpaaGreatDoorW.PrintLast Go.Proofs.YtnhjidbjibehpaaGreatDoorW.PrintMore Yd L3
set_option linter.unusedVariables false
set_option linter.unusedSimpArgs false
attribute [local go_sem ↓] Go.wp_at_zero Go.wp_at_succ

/-- an integer's text -/
def tx (x : Int) : ByteArray := ⟨(Lib.itoa x).toArray⟩
theorem tx_data (x : Int) : (tx x).data.toList = Lib.itoa x := by simp [tx]
theorem tx_list (x : Int) : (tx x).toList = Lib.itoa x := by rw [Lib.toList_data, tx_data]
theorem tx_of {s : ByteArray} {x : Int} (h : ival s.data.toList = some x) : s = tx x ∧ x.natAbs < DL := ⟨ba_ext (by rw [tx_data]; exact (ival_iff.1 h).1), (ival_iff.1 h).2⟩
theorem ival_tx {x : Int} (h : x.natAbs < DL) : ival (tx x).data.toList = some x := by rw [tx_data]; exact ival_itoa h
theorem tx_0 : tx 0 = ⟨#[48]⟩ := by unfold tx; rw [itoa_0]
theorem tx_1 : tx 1 = ⟨#[49]⟩ := by unfold tx; rw [itoa_1]
theorem DL_pos : 0 < DL := by rw [DL_eq]; exact Nat.pow_pos (by omega)
theorem DL_one : 1 < DL := by rw [DL_eq]; exact Nat.one_lt_pow (by omega) (by omega)
theorem teI_ok {z : Int} (h : z.natAbs < DL) : teI z = (tx z, 0) := if_pos h
theorem teI_bad {z : Int} (h : ¬ z.natAbs < DL) : teI z = teBad := if_neg h
theorem opR_tx (f : Int → Int → Int) {x y : Int} (hx : x.natAbs < DL) (hy : y.natAbs < DL) : opR f (tx x) (tx y) = teI (f x y) := by unfold opR; rw [ival_tx hx, ival_tx hy]
theorem quoR_tx {x y : Int} (hx : x.natAbs < DL) (hy : y.natAbs < DL) (h0 : y ≠ 0) : quoR (tx x) (tx y) = teI (x / y) := by unfold quoR; rw [ival_tx hx, ival_tx hy]; exact if_neg h0
theorem div_lt {x y : Int} (hx : x.natAbs < DL) : (x / y).natAbs < DL := Nat.lt_of_le_of_lt (Int.natAbs_ediv_le_natAbs x y) hx

def ratV (s t : ByteArray) (e : Int) : Value := .tuple #[.agg #[.string s, .string t], .int .i64 e]
def badR : Value := ratV ⟨#[]⟩ ⟨#[]⟩ 40
/-- numerator and denominator in lowest terms -/
def nn (x y : Int) : Int := (if y < 0 then -x else x) / igcd x y
def dd (x y : Int) : Int := (if y < 0 then -y else y) / igcd x y
def mkV (x y : Int) : Value := if y = 0 then badR else ratV (tx (nn x y)) (tx (dd x y)) 0
theorem igcd_pos {x y : Int} (h : y ≠ 0) : 0 < igcd x y := by
  unfold igcd
  have : 0 < Nat.gcd x.natAbs y.natAbs := Nat.gcd_pos_of_pos_right _ (by omega)
  omega
theorem igcd_neg (x y : Int) : igcd (-x) (-y) = igcd x y := by unfold igcd; rw [Int.natAbs_neg, Int.natAbs_neg]

set_option maxRecDepth 100000 in
set_option maxHeartbeats 4000000 in
/-- reduced, when something has failed -/
theorem red_bad (W : World) (B : Nat) (s t : ByteArray) (hw : Wk W B true) :
    Calls Tryz.prog 57 #[.pointer (some ⟨B, 0, none⟩), .string s, .string t] W fun e W' => e = .returned badR ∧ Below W.heap.size W W' := by
  have hc := hw.cell
  have hf := hw.frozen
  have hlt := blk_lt hw
  clear hw
  go_enter Tryz.func57, Tryz.ntmps57
  go_wp2_with fail
  refine bodyPost_ret (results_list (rs := [.cell _ _, .tmp _]) rfl (by simp) (.cell W.heap.size 23 _ (0, 0) _ rfl (alloc_here W _) Tryz.underlying23 rfl (by kernel_rfl) (.tmp .nil))) rfl ?_
  exact ⟨rfl, below_alloc (Below.refl _ W) _⟩

/-- the state of reduced: the result's box, and the calculation's -/
structure RS (W0 W : World) (B : Nat) (b : Bool) (s t : ByteArray) : Prop where
  gb : W0.grownBy W (some B)
  wk : Wk W B b
  rb : W.heap[W0.heap.size]? = some (.cells #[.string s, .string t] 23)
theorem RS.lt {W0 W : World} {B : Nat} {b : Bool} {s t : ByteArray} (h : RS W0 W B b s t) (hB : B < W0.heap.size) : W0.heap.size < W.heap.size := blk_lt h.rb
theorem grown_trans {W0 W W' : World} {B : Nat} (h : W0.grownBy W (some B)) (k : W.grownBy W' (some B)) : W0.grownBy W' (some B) :=
  ⟨k.os.trans h.os, k.tape.trans h.tape, k.output.trans h.output, Nat.le_trans h.size k.size, fun i hi hne => (k.block i (Nat.lt_of_lt_of_le hi h.size) hne).trans (h.block i hi hne)⟩
theorem RS.start {W0 : World} {B : Nat} {b : Bool} (hw : Wk W0 B b) : RS W0 (W0.alloc (.cells #[.string ⟨#[]⟩, .string ⟨#[]⟩] 23)) B b ⟨#[]⟩ ⟨#[]⟩ :=
  ⟨⟨rfl, rfl, rfl, by rw [World.size_alloc]; omega, fun k hk _ => alloc_old W0 _ hk⟩, (alloc_old W0 _ (blk_lt hw)).trans hw, alloc_here W0 _⟩
theorem RS.next {W0 W W' : World} {B : Nat} {b b' : Bool} {s t : ByteArray} (h : RS W0 W B b s t) (hB : B < W0.heap.size) (hw : Wk W' B b') (hg : W.grownBy W' (some B)) : RS W0 W' B b' s t :=
  ⟨grown_trans h.gb hg, hw, (hg.block _ (blk_lt h.rb) (by intro e; injection e with e; omega)).trans h.rb⟩
theorem RS.same {W0 W W' : World} {B : Nat} {b : Bool} {s t : ByteArray} (h : RS W0 W B b s t) (hB : B < W0.heap.size) (hb : Below W.heap.size W W') : RS W0 W' B b s t :=
  h.next hB ((hb.block _ (blk_lt h.wk)).trans h.wk) (grown_of_below hb _)
theorem RS.set {W0 W : World} {B : Nat} {b : Bool} {s t s' t' : ByteArray} (h : RS W0 W B b s t) (hB : B < W0.heap.size) : RS W0 ((W.setCell ⟨W0.heap.size, 0, none⟩ (.string s')).setCell ⟨W0.heap.size, 1, none⟩ (.string t')) B b s' t' := by
  have h1 := h.gb
  refine ⟨⟨h1.os, h1.tape, h1.output, by simpa using h1.size, fun k hk hne => ?_⟩, ?_, blk_set (blk_set h.rb 0 (.string s')) 1 _⟩
  · exact ((Below.heap_setCell _ ⟨W0.heap.size, 1, none⟩ _ k (by show k ≠ W0.heap.size; omega)).trans (Below.heap_setCell _ ⟨W0.heap.size, 0, none⟩ _ k (by show k ≠ W0.heap.size; omega))).trans (h1.block k hk hne)
  · exact ((Below.heap_setCell _ ⟨W0.heap.size, 1, none⟩ _ B (by show B ≠ W0.heap.size; omega)).trans (Below.heap_setCell _ ⟨W0.heap.size, 0, none⟩ _ B (by show B ≠ W0.heap.size; omega))).trans h.wk
theorem Tab.grown {w W W' : World} {B : Nat} (h : Tab w) (hb : Below w.heap.size w W) (hB : w.heap.size ≤ B) (hg : W.grownBy W' (some B)) : Tab W' :=
  h.below (hb.grown hg hb.size (fun k e => by injection e with e; omega)) (Nat.le_refl _)

set_option maxRecDepth 100000 in
set_option maxHeartbeats 4000000 in
/-- reduced -/
theorem red_calls (w W : World) (B : Nat) (x y : Int) (hw : Wk W B false) (hx : x.natAbs < DL) (hy : y.natAbs < DL) (hT : Tab w) (hb : Below w.heap.size w W) (hB : w.heap.size ≤ B) :
    Calls Tryz.prog 57 #[.pointer (some ⟨B, 0, none⟩), .string (tx x), .string (tx y)] W fun e W' => e = .returned (mkV x y) ∧ W.grownBy W' (some B) := by
  have hlt : B < W.heap.size := blk_lt hw
  have HRS := Aside0.mk (RS.start hw)
  have HX := Aside0.mk hx
  have HY := Aside0.mk hy
  have HTB : Aside0 (∀ W' : World, W.grownBy W' (some B) → Tab W') := ⟨fun W' hg => Tab.grown hT hb hB hg⟩
  have HLT := Aside0.mk hlt
  have hc := hw.cell
  have hf := hw.frozen
  clear hw hx hy hT hb hB
  go_enter Tryz.func57, Tryz.ntmps57
  by_cases hy0 : y = 0
  · have e1 : ((tx y).toList == [48]) = true := by rw [tx_list, hy0, itoa_0]; rfl
    have HE : Aside0 (mkV x y = badR) := ⟨if_pos hy0⟩
    clear hy0
    generalize tx y = ty at *
    go_wp2_with fail
    refine bodyPost_ret (results_list (rs := [.cell _ _, .tmp _]) rfl (by simp) (.cell W.heap.size 23 _ (0, 0) _ rfl HRS.out.rb Tryz.underlying23 rfl (by kernel_rfl) (.tmp .nil))) rfl ?_
    exact ⟨by rw [HE.out]; rfl, HRS.out.gb⟩
  · have e1 : ((tx y).toList == [48]) = false := by rw [tx_list, beq_eq_false_iff_ne]; exact fun h => hy0 ((itoa_0_iff y).1 h)
    have HY0 := Aside0.mk hy0
    clear hy0
    go_wp2_with fail
    generalize W.alloc (.cells #[.string ⟨#[]⟩, .string ⟨#[]⟩] 23) = W1 at *
    refine (compare_calls (tx y) ⟨#[48]⟩ _).mono ?_
    rintro e W2 ⟨rfl, hb2⟩
    have hr2 := HRS.out.same HLT.out hb2
    have HR2 := Aside0.mk hr2
    have hc := hr2.wk.cell
    have hf := hr2.wk.frozen
    have hcc := cmpT_zero (ival_tx HY.out)
    have HCC : Aside0 (cmpT (tx y).data.toList [48] < 0 ↔ y < 0) := ⟨by rw [hcc]; unfold cmpI; split <;> (try split) <;> omega⟩
    clear hb2 hr2 hcc HRS
    have hl : (⟨#[48]⟩ : ByteArray).data.toList = [48] := rfl
    rw [hl]
    clear hl
    obtain ⟨cc, hcc⟩ : ∃ cc, cmpT (tx y).data.toList [48] = cc := ⟨_, rfl⟩
    rw [hcc] at HCC ⊢
    clear hcc
    go_upto_if 21 with (fail)
    go_cut [1, 2] from 10 (fun v1 v2 wc => ∃ x' y' : Int, v1 = .string (tx x') ∧ v2 = .string (tx y') ∧ Aside0 (x' = if y < 0 then -x else x) ∧ Aside0 (y' = if y < 0 then -y else y) ∧ Aside0 (RS W wc B false ⟨#[]⟩ ⟨#[]⟩))
    case first =>
      have hs1 : opR (· - ·) ⟨#[48]⟩ (tx x) = (tx (-x), 0) := by rw [← tx_0, opR_tx _ (by simpa using DL_pos) HX.out, show (0 : Int) - x = -x by omega, teI_ok (by rw [Int.natAbs_neg]; exact HX.out)]
      have hs2 : opR (· - ·) ⟨#[48]⟩ (tx y) = (tx (-y), 0) := by rw [← tx_0, opR_tx _ (by simpa using DL_pos) HY.out, show (0 : Int) - y = -y by omega, teI_ok (by rw [Int.natAbs_neg]; exact HY.out)]
      have HS1 := Aside0.mk hs1
      have HS2 := Aside0.mk hs2
      clear hs1 hs2
      go_wp2_with fail
      · have HYN := Aside0.mk (HCC.out.1 (by assumption))
        refine (do_calls _ _ op_sub W2 B false _ _ HR2.out.wk (HTB.out _ HR2.out.gb)).mono ?_
        rintro e W3 ⟨rfl, hw3, hg3⟩
        rw [HS1.out] at hw3 ⊢
        have hr3 := HR2.out.next (b' := false) HLT.out hw3 hg3
        have HR3 := Aside0.mk hr3
        rw [show doR false (tx (-x), 0) = tx (-x) from rfl]
        clear hw3 hg3 hr3
        go_wp2_with fail
        refine (do_calls _ _ op_sub W3 B false _ _ HR3.out.wk (HTB.out _ HR3.out.gb)).mono ?_
        rintro e W4 ⟨rfl, hw4, hg4⟩
        rw [HS2.out] at hw4 ⊢
        have hr4 := HR3.out.next (b' := false) HLT.out hw4 hg4
        have HR4 := Aside0.mk hr4
        rw [show doR false (tx (-y), 0) = tx (-y) from rfl]
        clear hw4 hg4 hr4
        go_wp2_with fail
        go_meet
        case rel => exact ⟨-x, -y, rfl, rfl, ⟨by rw [if_pos HYN.out]⟩, ⟨by rw [if_pos HYN.out]⟩, HR4⟩
      · have HYN : Aside0 (¬ y < 0) := ⟨fun h => by have := HCC.out.2 h; omega⟩
        go_meet
        case rel => exact ⟨x, y, rfl, rfl, ⟨by rw [if_neg HYN.out]⟩, ⟨by rw [if_neg HYN.out]⟩, HR2⟩
    case rest =>
      obtain ⟨x', y', rfl, rfl, HX', HY', HR3⟩ := hcut
      have hx' : x'.natAbs < DL := by rw [HX'.out]; split <;> (try rw [Int.natAbs_neg]) <;> exact HX.out
      have hy' : y'.natAbs < DL := by rw [HY'.out]; split <;> (try rw [Int.natAbs_neg]) <;> exact HY.out
      have hy0' : y' ≠ 0 := by have := HY0.out; rw [HY'.out]; split <;> omega
      have hgg : igcd x' y' = igcd x y := by rw [HX'.out, HY'.out]; split; exact igcd_neg x y; rfl
      have hg0 : igcd x' y' ≠ 0 := by have := igcd_pos (x := x') hy0'; omega
      have hgl := igcd_lt hx' hy' hy0'
      have HO1 : Aside0 (opR igcd (tx x') (tx y') = (tx (igcd x' y'), 0)) := ⟨by rw [opR_tx _ hx' hy', teI_ok hgl]⟩
      have HO2 : Aside0 (quoR (tx x') (tx (igcd x' y')) = (tx (x' / igcd x' y'), 0)) := ⟨by rw [quoR_tx hx' hgl hg0, teI_ok (div_lt hx')]⟩
      have HO3 : Aside0 (quoR (tx y') (tx (igcd x' y')) = (tx (y' / igcd x' y'), 0)) := ⟨by rw [quoR_tx hy' hgl hg0, teI_ok (div_lt hy')]⟩
      have HE : Aside0 (mkV x y = ratV (tx (x' / igcd x' y')) (tx (y' / igcd x' y')) 0) := ⟨by unfold mkV nn dd; rw [if_neg HY0.out, hgg, HX'.out, HY'.out]⟩
      clear hx' hy' hy0' hgg hg0 hgl HX' HY'
      have hc := HR3.out.wk.cell
      have hf := HR3.out.wk.frozen
      go_wp2_with fail
      refine (do_calls _ _ op_gcd wc B false _ _ HR3.out.wk (HTB.out _ HR3.out.gb)).mono ?_
      rintro e W4 ⟨rfl, hw4, hg4⟩
      rw [HO1.out] at hw4 ⊢
      have hr4 := HR3.out.next (b' := false) HLT.out hw4 hg4
      have HR4 := Aside0.mk hr4
      rw [show doR false (tx (igcd x' y'), 0) = tx (igcd x' y') from rfl]
      clear hw4 hg4 hr4
      go_wp2_with fail
      refine (wquo_calls _ B false _ _ HR4.out.wk (HTB.out _ HR4.out.gb)).mono ?_
      rintro e W5 ⟨rfl, hw5, hg5⟩
      rw [HO2.out] at hw5 ⊢
      have hr5 := HR4.out.next (b' := false) HLT.out hw5 hg5
      have HR5 := Aside0.mk hr5
      rw [show doR false (tx (x' / igcd x' y'), 0) = tx (x' / igcd x' y') from rfl]
      clear hw5 hg5 hr5
      go_wp2_with fail
      refine (wquo_calls _ B false _ _ HR5.out.wk (HTB.out _ HR5.out.gb)).mono ?_
      rintro e W6 ⟨rfl, hw6, hg6⟩
      rw [HO3.out] at hw6 ⊢
      have hr6 := HR5.out.next (b' := false) HLT.out hw6 hg6
      have HR6 := Aside0.mk hr6
      rw [show doR false (tx (y' / igcd x' y'), 0) = tx (y' / igcd x' y') from rfl]
      have hr7 := hr6.same HLT.out (below_alloc (Below.refl _ W6) (.cells #[.string (tx (x' / igcd x' y')), .string (tx (y' / igcd x' y'))] 23))
      have HR7 := Aside0.mk hr7
      have hc := hr7.wk.cell
      have hf := hr7.wk.frozen
      obtain ⟨k0, k1, m0, m1⟩ := pair_facts hr7.rb
      clear hw6 hg6 hr6 hr7
      go_wp2_with fail
      have HR8 := Aside0.mk (HR7.out.set (s' := tx (x' / igcd x' y')) (t' := tx (y' / igcd x' y')) HLT.out)
      refine bodyPost_ret (results_list (rs := [.cell _ _, .tmp _]) rfl (by simp) (.cell W.heap.size 23 _ (0, 0) _ rfl HR8.out.rb Tryz.underlying23 rfl (by kernel_rfl) (.tmp .nil))) rfl ?_
      exact ⟨by rw [HE.out]; rfl, HR8.out.gb⟩

end Go.Proofs.YtnhjidbjibehpaaGreatDoor.L4

/- Layer 4, walked: Make, Of. -/
namespace Go.Proofs.YtnhjidbjibehpaaGreatDoor.L4
open Go.Shelf Go.RowKit Go.Proofs.YtnhjidbjibehpaaGreatDoorW.PrintWords Go.Proofs.YtnhjidbjibehpaaGreatDoorW.PrintLast Go.Proofs.YtnhjidbjibehpaaGreatDoorW.PrintMore Yd L3
set_option linter.unusedVariables false
set_option linter.unusedSimpArgs false
attribute [local go_sem ↓] Go.wp_at_zero Go.wp_at_succ

/-- what Make returns -/
def mkT (s t : List UInt8) : Value := match ival s, ival t with
  | some x, some y => mkV x y
  | _, _ => badR
theorem ratV_tuple (s t : ByteArray) (e : Int) : ratV s t e = .tuple #[.agg #[.string s, .string t], .int .i64 e] := rfl
theorem mkV_rat (x y : Int) : ∃ s t e, mkV x y = ratV s t e := by
  unfold mkV badR; split <;> exact ⟨_, _, _, rfl⟩
theorem Tab.of_grown {w W : World} {B : Nat} (h : Tab w) (hb : Below w.heap.size w W) : Tab W := h.below hb (Nat.le_refl _)

theorem RB.set {w W : World} {s t : ByteArray} (h : RB w W s t) (s' t' : ByteArray) : RB w ((W.setCell ⟨w.heap.size, 0, none⟩ (.string s')).setCell ⟨w.heap.size, 1, none⟩ (.string t')) s' t' :=
  ⟨(h.bl.setCell (p := ⟨w.heap.size, 0, none⟩) (Nat.le_refl _) _).setCell (p := ⟨w.heap.size, 1, none⟩) (Nat.le_refl _) _, blk_set (blk_set h.p0 0 (.string s')) 1 _⟩
theorem RB.grown {w W W' : World} {B : Nat} {s t : ByteArray} (h : RB w W s t) (hg : W.grownBy W' (some B)) (hB : w.heap.size < B) : RB w W' s t :=
  ⟨h.bl.grown hg h.bl.size (fun k e => by injection e with e; omega), (hg.block _ (blk_lt h.p0) (by intro e; injection e with e; omega)).trans h.p0⟩

set_option maxRecDepth 100000 in
set_option maxHeartbeats 4000000 in
/-- Make -/
theorem make_calls (s t : ByteArray) (w : World) (hT : Tab w) :
    Calls Tryz.prog 22 #[.string s, .string t] w fun e w' => e = .returned (mkT s.data.toList t.data.toList) ∧ Below w.heap.size w w' := by
  have HT := Aside0.mk hT
  clear hT
  go_enter Tryz.func22, Tryz.ntmps22
  go_wp2_with fail
  have HR0 := Aside0.mk (RB.start w ⟨#[]⟩ ⟨#[]⟩)
  generalize w.alloc (.cells #[.string ⟨#[]⟩, .string ⟨#[]⟩] 23) = W0 at *
  refine (valid_calls s _).mono ?_
  rintro e w1 ⟨rfl, hb1⟩
  have HR1 := Aside0.mk (HR0.out.next hb1)
  clear hb1 HR0
  rw [ivalid_iff_isSome]
  cases h1 : ival s.data.toList with
  | none =>
    simp only [Option.isSome_none]
    have HE : Aside0 (mkT s.data.toList t.data.toList = badR) := ⟨by unfold mkT; rw [h1]⟩
    have HWK : Aside0 (Wk (w1.alloc (.cells #[.bool true] 78)) w1.heap.size true) := ⟨alloc_here w1 _⟩
    have HR3 := Aside0.mk (HR1.out.next (below_alloc (Below.refl _ w1) (.cells #[.bool true] 78)))
    clear h1
    go_wp2_with fail
    refine (red_bad _ _ _ _ HWK.out).mono ?_
    rintro e W4 ⟨rfl, hb4⟩
    have HR4 := Aside0.mk (HR3.out.next hb4)
    obtain ⟨c0, c1, f0, f1⟩ := pair_facts HR4.out.p0
    clear hb4
    unfold badR ratV
    go_wp2_with fail
    have HR5 := Aside0.mk (HR4.out.set ⟨#[]⟩ ⟨#[]⟩)
    refine bodyPost_ret (results_list (rs := [.cell _ _, .tmp _]) rfl (by simp) (.cell w.heap.size 23 _ (0, 0) _ rfl HR5.out.p0 Tryz.underlying23 rfl (by kernel_rfl) (.tmp .nil))) rfl ?_
    exact ⟨by rw [HE.out]; rfl, HR5.out.bl⟩
  | some x =>
    simp only [Option.isSome_some]
    go_wp2_with fail
    refine (valid_calls t _).mono ?_
    rintro e w2 ⟨rfl, hb2⟩
    have HR2 := Aside0.mk (HR1.out.next hb2)
    clear hb2 HR1
    rw [ivalid_iff_isSome]
    cases h2 : ival t.data.toList with
    | none =>
      simp only [Option.isSome_none]
      have HE : Aside0 (mkT s.data.toList t.data.toList = badR) := ⟨by unfold mkT; rw [h2]; cases ival s.data.toList <;> rfl⟩
      have HWK : Aside0 (Wk (w2.alloc (.cells #[.bool true] 78)) w2.heap.size true) := ⟨alloc_here w2 _⟩
      have HR3 := Aside0.mk (HR2.out.next (below_alloc (Below.refl _ w2) (.cells #[.bool true] 78)))
      clear h1 h2
      go_wp2_with fail
      refine (red_bad _ _ _ _ HWK.out).mono ?_
      rintro e W4 ⟨rfl, hb4⟩
      have HR4 := Aside0.mk (HR3.out.next hb4)
      obtain ⟨c0, c1, f0, f1⟩ := pair_facts HR4.out.p0
      clear hb4
      unfold badR ratV
      go_wp2_with fail
      have HR5 := Aside0.mk (HR4.out.set ⟨#[]⟩ ⟨#[]⟩)
      refine bodyPost_ret (results_list (rs := [.cell _ _, .tmp _]) rfl (by simp) (.cell w.heap.size 23 _ (0, 0) _ rfl HR5.out.p0 Tryz.underlying23 rfl (by kernel_rfl) (.tmp .nil))) rfl ?_
      exact ⟨by rw [HE.out]; rfl, HR5.out.bl⟩
    | some y =>
      simp only [Option.isSome_some]
      have HE : Aside0 (mkT s.data.toList t.data.toList = mkV x y) := ⟨by unfold mkT; rw [h1, h2]⟩
      have HWK : Aside0 (Wk (w2.alloc (.cells #[.bool false] 78)) w2.heap.size false) := ⟨alloc_here w2 _⟩
      have HR3 := Aside0.mk (HR2.out.next (below_alloc (Below.refl _ w2) (.cells #[.bool false] 78)))
      obtain ⟨hs, hx⟩ := tx_of h1
      obtain ⟨ht, hy⟩ := tx_of h2
      have HX := Aside0.mk hx
      have HY := Aside0.mk hy
      subst hs ht
      obtain ⟨r1, r2, er, hr⟩ := mkV_rat x y
      have HR := Aside0.mk hr
      clear h1 h2 hx hy hr
      go_wp2_with fail
      refine (red_calls w _ _ x y HWK.out HX.out HY.out HT.out HR3.out.bl (by have := HR2.out.bl.size; omega)).mono ?_
      rintro e W4 ⟨rfl, hg4⟩
      have HR4 := Aside0.mk (HR3.out.grown hg4 (blk_lt HR2.out.p0))
      obtain ⟨c0, c1, f0, f1⟩ := pair_facts HR4.out.p0
      clear hg4
      rw [HR.out]
      unfold ratV
      go_wp2_with fail
      have HR5 := Aside0.mk (HR4.out.set r1 r2)
      refine bodyPost_ret (results_list (rs := [.cell _ _, .tmp _]) rfl (by simp) (.cell w.heap.size 23 _ (0, 0) _ rfl HR5.out.p0 Tryz.underlying23 rfl (by kernel_rfl) (.tmp .nil))) rfl ?_
      exact ⟨by rw [HE.out, HR.out]; rfl, HR5.out.bl⟩

end Go.Proofs.YtnhjidbjibehpaaGreatDoor.L4

/- Layer 4, walked: Of, check. -/
namespace Go.Proofs.YtnhjidbjibehpaaGreatDoor.L4
open Go.Shelf Go.RowKit Go.Proofs.YtnhjidbjibehpaaGreatDoorW.PrintWords Go.Proofs.YtnhjidbjibehpaaGreatDoorW.PrintLast Go.Proofs.YtnhjidbjibehpaaGreatDoorW.PrintMore Yd L3
set_option linter.unusedVariables false
set_option linter.unusedSimpArgs false
attribute [local go_sem ↓] Go.wp_at_zero Go.wp_at_succ

theorem tabB {w W : World} (h : Tab w) (hb : Below w.heap.size w W) : Tab W := h.below hb (Nat.le_refl _)
theorem DL_i64 {n : Int} (h0 : -9223372036854775808 ≤ n) (h1 : n ≤ 9223372036854775807) : n.natAbs < DL := by
  have : n.natAbs ≤ 9223372036854775808 := by omega
  refine Nat.lt_of_le_of_lt this ?_
  rw [DL_eq]
  exact Nat.lt_of_lt_of_le (show 9223372036854775808 < 10 ^ 19 by omega) (Nat.pow_le_pow_right (by omega) (by omega))
theorem mkT_tx {x y : Int} (hx : x.natAbs < DL) (hy : y.natAbs < DL) : mkT (tx x).data.toList (tx y).data.toList = mkV x y := by unfold mkT; rw [ival_tx hx, ival_tx hy]

set_option maxRecDepth 100000 in
set_option maxHeartbeats 4000000 in
/-- Of -/
theorem of_calls (x y : Int) (w : World) (hT : Tab w) (hx0 : -9223372036854775808 ≤ x) (hx1 : x ≤ 9223372036854775807) (hy0 : -9223372036854775808 ≤ y) (hy1 : y ≤ 9223372036854775807) :
    Calls Tryz.prog 41 #[.int .i64 x, .int .i64 y] w fun e w' => e = .returned (mkV x y) ∧ Below w.heap.size w w' := by
  have HT := Aside0.mk hT
  have HX := Aside0.mk (DL_i64 hx0 hx1)
  have HY := Aside0.mk (DL_i64 hy0 hy1)
  have HXB := Aside0.mk (And.intro hx0 hx1)
  have HYB := Aside0.mk (And.intro hy0 hy1)
  clear hT hx0 hx1 hy0 hy1
  go_enter Tryz.func41, Tryz.ntmps41
  go_wp2_with fail
  have HR0 := Aside0.mk (RB.start w ⟨#[]⟩ ⟨#[]⟩)
  generalize w.alloc (.cells #[.string ⟨#[]⟩, .string ⟨#[]⟩] 23) = W0 at *
  refine (fromInt_calls x _ HXB.out.1 HXB.out.2 (tabB HT.out HR0.out.bl)).mono ?_
  rintro e w1 ⟨rfl, hb1⟩
  have HR1 := Aside0.mk (HR0.out.next hb1)
  clear hb1 HR0
  go_wp2_with fail
  refine (fromInt_calls y _ HYB.out.1 HYB.out.2 (tabB HT.out HR1.out.bl)).mono ?_
  rintro e w2 ⟨rfl, hb2⟩
  have HR2 := Aside0.mk (HR1.out.next hb2)
  clear hb2 HR1
  go_wp2_with fail
  refine (make_calls (tx x) (tx y) _ (tabB HT.out HR2.out.bl)).mono ?_
  rintro e w3 ⟨rfl, hb3⟩
  have HR3 := Aside0.mk (HR2.out.next hb3)
  obtain ⟨c0, c1, f0, f1⟩ := pair_facts HR3.out.p0
  obtain ⟨r1, r2, er, hr⟩ := mkV_rat x y
  have HR := Aside0.mk hr
  rw [mkT_tx HX.out HY.out, hr]
  unfold ratV
  clear hb3 hr
  go_wp2_with fail
  have HR5 := Aside0.mk (HR3.out.set r1 r2)
  refine bodyPost_ret (results_list (rs := [.cell _ _, .tmp _]) rfl (by simp) (.cell w.heap.size 23 _ (0, 0) _ rfl HR5.out.p0 Tryz.underlying23 rfl (by kernel_rfl) (.tmp .nil))) rfl ?_
  exact ⟨by rw [HR.out]; rfl, HR5.out.bl⟩

end Go.Proofs.YtnhjidbjibehpaaGreatDoor.L4

/- Layer 4, walked: check. -/
namespace Go.Proofs.YtnhjidbjibehpaaGreatDoor.L4
open Go.Shelf Go.RowKit Go.Proofs.YtnhjidbjibehpaaGreatDoorW.PrintWords Go.Proofs.YtnhjidbjibehpaaGreatDoorW.PrintLast Go.Proofs.YtnhjidbjibehpaaGreatDoorW.PrintMore Yd L3
set_option linter.unusedVariables false
set_option linter.unusedSimpArgs false
attribute [local go_sem ↓] Go.wp_at_zero Go.wp_at_succ

def flag (b : Bool) (s1 t1 s2 t2 : ByteArray) (k : Nat) : Bool := b || (decide (0 < k) && !rvalid s1.data.toList t1.data.toList) || (decide (1 < k) && !rvalid s2.data.toList t2.data.toList)
theorem flag_0 (b : Bool) (s1 t1 s2 t2 : ByteArray) : flag b s1 t1 s2 t2 0 = b := by simp [flag]
theorem flag_1 (b : Bool) (s1 t1 s2 t2 : ByteArray) : flag b s1 t1 s2 t2 1 = (b || !rvalid s1.data.toList t1.data.toList) := by simp [flag]
theorem flag_2 (b : Bool) (s1 t1 s2 t2 : ByteArray) : flag b s1 t1 s2 t2 2 = (b || !rvalid s1.data.toList t1.data.toList || !rvalid s2.data.toList t2.data.toList) := by simp [flag]
/-- the state of check -/
structure CS (W0 W : World) (B Bl : Nat) (b : Bool) (s1 t1 s2 t2 : ByteArray) : Prop where
  gb : W0.grownBy W (some B)
  wk : Wk W B b
  lb : W.heap[Bl]? = some (.cells #[.string s1, .string t1, .string s2, .string t2] 23)

theorem CS.next {W0 W W' : World} {B Bl : Nat} {b : Bool} {s1 t1 s2 t2 : ByteArray} (h : CS W0 W B Bl b s1 t1 s2 t2) (hne : B ≠ Bl) (hlt : B < W0.heap.size) (hb : Below W.heap.size W W') : CS W0 W' B Bl b s1 t1 s2 t2 :=
  ⟨grown_trans h.gb (grown_of_below hb _), (hb.block _ (blk_lt h.wk)).trans h.wk, (hb.block _ (blk_lt h.lb)).trans h.lb⟩
theorem CS.set {W0 W : World} {B Bl : Nat} {b b' c : Bool} {s1 t1 s2 t2 : ByteArray} (h : CS W0 W B Bl b s1 t1 s2 t2) (hne : B ≠ Bl) (e : c = b') : CS W0 (W.setCell ⟨B, 0, none⟩ (.bool b')) B Bl c s1 t1 s2 t2 := by
  subst e
  exact ⟨grown_trans h.gb (grown_setB (Below.refl _ W) B _), blk_set h.wk 0 _, (Below.heap_setCell _ ⟨B, 0, none⟩ _ Bl (fun e => hne e.symm)).trans h.lb⟩

set_option maxRecDepth 100000 in
set_option maxHeartbeats 4000000 in
/-- check -/
theorem check2_calls (w W : World) (B Bl : Nat) (b : Bool) (s1 t1 s2 t2 : ByteArray) (hw : Wk W B b) (hl : W.heap[Bl]? = some (.cells #[.string s1, .string t1, .string s2, .string t2] 23)) (hT : Tab w) (hb : Below w.heap.size w W) (hB : w.heap.size ≤ B) (hne : B ≠ Bl) :
    Calls Tryz.prog 59 #[.pointer (some ⟨B, 0, none⟩), .slice (some ⟨Bl, 0, none⟩) 2 2] W fun e W' => e = .returned (.tuple #[]) ∧ Wk W' B (b || !rvalid s1.data.toList t1.data.toList || !rvalid s2.data.toList t2.data.toList) ∧ W.grownBy W' (some B) := by
  have HTB : Aside0 (∀ W' : World, W.grownBy W' (some B) → Tab W') := ⟨fun W' hg => Tab.grown hT hb hB hg⟩
  have HNE := Aside0.mk hne
  have HLT := Aside0.mk (blk_lt hw)
  clear hT hb hB hne
  go_enter Tryz.func59, Tryz.ntmps59
  go_wp2_with fail
  go_loopg [8] 2 (fun kq v8 wr => ∃ k : Nat, v8 = .int .i64 k ∧ k + kq = 2 ∧ Aside0 (CS W wr B Bl (flag b s1 t1 s2 t2 k) s1 t1 s2 t2))
  case atStart => exact ⟨0, rfl, rfl, ⟨⟨⟨rfl, rfl, rfl, Nat.le_refl _, fun _ _ _ => rfl⟩, by rw [flag_0]; exact hw, hl⟩⟩⟩
  case round =>
    obtain ⟨k, rfl, hk, HC⟩ := hrel
    have hk' : k = 0 ∨ k = 1 ∨ k = 2 := by omega
    rcases hk' with rfl | rfl | rfl
    · obtain rfl : gk = 2 := by omega
      have hc7 := HC.out.next HNE.out HLT.out (below_alloc (Below.refl _ wr) (.cells #[.string s1, .string t1] 23))
      have HC7 := Aside0.mk hc7
      have hc := hc7.wk.cell
      have hf := hc7.wk.frozen
      have l0 := blk_cell HC.out.lb 0
      have l1 := blk_cell HC.out.lb 1
      have l2 := blk_cell HC.out.lb 2
      have l3 := blk_cell HC.out.lb 3
      have HFL := Aside0.mk (flag_1 b s1 t1 s2 t2)
      have HFK := Aside0.mk (flag_0 b s1 t1 s2 t2)
      obtain ⟨bb, hbb⟩ : ∃ bb, flag b s1 t1 s2 t2 0 = bb := ⟨_, rfl⟩
      rw [hbb] at hc
      have HBB := Aside0.mk hbb
      have HTW := Aside0.mk (HTB.out _ hc7.gb)
      clear hbb hc7
      cases bb
      · go_wp2_with fail
        refine (rvalid_calls s1 t1 _ HTW.out).mono ?_
        rintro e W4 ⟨rfl, hb4⟩
        have hc8 := HC7.out.next HNE.out HLT.out hb4
        have HC8 := Aside0.mk hc8
        have hc := hc8.wk.cell
        rw [HBB.out] at hc
        have hf := hc8.wk.frozen
        obtain ⟨vv, hvv⟩ : ∃ vv, rvalid s1.data.toList t1.data.toList = vv := ⟨_, rfl⟩
        rw [hvv]
        have HVV := Aside0.mk hvv
        clear hb4 hc8 hvv
        go_wp2_with fail
        all_goals
          go_roundg 1
          case measure => omega
          case rel => exact ⟨1, rfl, rfl, ⟨HC8.out.set HNE.out (by rw [HFL.out, ← HVV.out]; have h := HFK.out; rw [HBB.out] at h; rw [← h]; rfl)⟩⟩
      · go_wp2_with fail
        all_goals
          go_roundg 1
          case measure => omega
          case rel => exact ⟨1, rfl, rfl, ⟨HC7.out.set HNE.out (by rw [HFL.out]; have h := HFK.out; rw [HBB.out] at h; rw [← h]; rfl)⟩⟩
    · obtain rfl : gk = 1 := by omega
      have hc7 := HC.out.next HNE.out HLT.out (below_alloc (Below.refl _ wr) (.cells #[.string s2, .string t2] 23))
      have HC7 := Aside0.mk hc7
      have hc := hc7.wk.cell
      have hf := hc7.wk.frozen
      have l0 := blk_cell HC.out.lb 0
      have l1 := blk_cell HC.out.lb 1
      have l2 := blk_cell HC.out.lb 2
      have l3 := blk_cell HC.out.lb 3
      have HFL := Aside0.mk (flag_2 b s1 t1 s2 t2)
      have HFK := Aside0.mk (flag_1 b s1 t1 s2 t2)
      obtain ⟨bb, hbb⟩ : ∃ bb, flag b s1 t1 s2 t2 1 = bb := ⟨_, rfl⟩
      rw [hbb] at hc
      have HBB := Aside0.mk hbb
      have HTW := Aside0.mk (HTB.out _ hc7.gb)
      clear hbb hc7
      cases bb
      · go_wp2_with fail
        refine (rvalid_calls s2 t2 _ HTW.out).mono ?_
        rintro e W4 ⟨rfl, hb4⟩
        have hc8 := HC7.out.next HNE.out HLT.out hb4
        have HC8 := Aside0.mk hc8
        have hc := hc8.wk.cell
        rw [HBB.out] at hc
        have hf := hc8.wk.frozen
        obtain ⟨vv, hvv⟩ : ∃ vv, rvalid s2.data.toList t2.data.toList = vv := ⟨_, rfl⟩
        rw [hvv]
        have HVV := Aside0.mk hvv
        clear hb4 hc8 hvv
        go_wp2_with fail
        all_goals
          go_roundg 0
          case measure => omega
          case rel => exact ⟨2, rfl, rfl, ⟨HC8.out.set HNE.out (by rw [HFL.out, ← HVV.out]; have h := HFK.out; rw [HBB.out] at h; rw [← h]; rfl)⟩⟩
      · go_wp2_with fail
        all_goals
          go_roundg 0
          case measure => omega
          case rel => exact ⟨2, rfl, rfl, ⟨HC7.out.set HNE.out (by rw [HFL.out]; have h := HFK.out; rw [HBB.out] at h; rw [← h]; rfl)⟩⟩
    · obtain rfl : gk = 0 := by omega
      have HFL := Aside0.mk (flag_2 b s1 t1 s2 t2)
      go_wp2_with fail
      go_end0
      exact ⟨rfl, by rw [← HFL.out]; exact HC.out.wk, HC.out.gb⟩

end Go.Proofs.YtnhjidbjibehpaaGreatDoor.L4

/- Layer 4, walked: Mul (UNDER WAY). -/
namespace Go.Proofs.YtnhjidbjibehpaaGreatDoor.L4
open Go.Shelf Go.RowKit Go.Proofs.YtnhjidbjibehpaaGreatDoorW.PrintWords Go.Proofs.YtnhjidbjibehpaaGreatDoorW.PrintLast Go.Proofs.YtnhjidbjibehpaaGreatDoorW.PrintMore Yd L3
set_option linter.unusedVariables false
set_option linter.unusedSimpArgs false
attribute [local go_sem ↓] Go.wp_at_zero Go.wp_at_succ

/-- two fractions' boxes, the result's box, the calculation's -/
structure R4 (w W : World) (b : Bool) (s1 t1 s2 t2 r1 r2 : ByteArray) : Prop where
  bl : Below w.heap.size w W
  pa : W.heap[w.heap.size]? = some (.cells #[.string s1, .string t1] 23)
  pb : W.heap[w.heap.size + 1]? = some (.cells #[.string s2, .string t2] 23)
  pr : W.heap[w.heap.size + 1 + 1]? = some (.cells #[.string r1, .string r2] 23)
  wk : Wk W (w.heap.size + 1 + 1 + 1) b
theorem R4.grown {w W W' : World} {b b' : Bool} {s1 t1 s2 t2 r1 r2 : ByteArray} (h : R4 w W b s1 t1 s2 t2 r1 r2) (hw : Wk W' (w.heap.size + 1 + 1 + 1) b') (hg : W.grownBy W' (some (w.heap.size + 1 + 1 + 1))) : R4 w W' b' s1 t1 s2 t2 r1 r2 :=
  ⟨h.bl.grown hg h.bl.size (fun k e => by injection e with e; omega), (hg.block _ (blk_lt h.pa) (by intro e; injection e with e; omega)).trans h.pa,
    (hg.block _ (blk_lt h.pb) (by intro e; injection e with e; omega)).trans h.pb, (hg.block _ (blk_lt h.pr) (by intro e; injection e with e; omega)).trans h.pr, hw⟩
theorem R4.next {w W W' : World} {b : Bool} {s1 t1 s2 t2 r1 r2 : ByteArray} (h : R4 w W b s1 t1 s2 t2 r1 r2) (hb : Below W.heap.size W W') : R4 w W' b s1 t1 s2 t2 r1 r2 :=
  h.grown ((hb.block _ (blk_lt h.wk)).trans h.wk) (grown_of_below hb _)
theorem R4.start (w : World) (s1 t1 s2 t2 : ByteArray) : R4 w ((((w.alloc (.cells #[.string s1, .string t1] 23)).alloc (.cells #[.string s2, .string t2] 23)).alloc (.cells #[.string ⟨#[]⟩, .string ⟨#[]⟩] 23)).alloc (.cells #[.bool false] 78)) false s1 t1 s2 t2 ⟨#[]⟩ ⟨#[]⟩ := by
  have h1 := alloc_here w (.cells #[.string s1, .string t1] 23)
  generalize hW1 : w.alloc (.cells #[.string s1, .string t1] 23) = W1 at *
  have z1 : W1.heap.size = w.heap.size + 1 := by rw [← hW1, World.size_alloc]
  have b1 : Below w.heap.size w W1 := by rw [← hW1]; exact below_alloc (Below.refl _ w) _
  have h2 := alloc_here W1 (.cells #[.string s2, .string t2] 23)
  generalize hW2 : W1.alloc (.cells #[.string s2, .string t2] 23) = W2 at *
  have z2 : W2.heap.size = w.heap.size + 1 + 1 := by rw [← hW2, World.size_alloc, z1]
  have b2 : Below W1.heap.size W1 W2 := by rw [← hW2]; exact below_alloc (Below.refl _ W1) _
  have h3 := alloc_here W2 (.cells #[.string ⟨#[]⟩, .string ⟨#[]⟩] 23)
  generalize hW3 : W2.alloc (.cells #[.string ⟨#[]⟩, .string ⟨#[]⟩] 23) = W3 at *
  have z3 : W3.heap.size = w.heap.size + 1 + 1 + 1 := by rw [← hW3, World.size_alloc, z2]
  have b3 : Below W2.heap.size W2 W3 := by rw [← hW3]; exact below_alloc (Below.refl _ W2) _
  have b4 : Below W3.heap.size W3 (W3.alloc (.cells #[.bool false] 78)) := below_alloc (Below.refl _ W3) _
  refine ⟨(b1.trans (b2.mono (by omega))).trans ((b3.trans (b4.mono (by omega))).mono (by omega)), ?_, ?_, ?_, ?_⟩
  · exact (b4.block _ (by omega)).trans ((b3.block _ (by omega)).trans ((b2.block _ (by omega)).trans h1))
  · rw [show w.heap.size + 1 = W1.heap.size by omega]
    exact (b4.block _ (by omega)).trans ((b3.block _ (by omega)).trans h2)
  · rw [show w.heap.size + 1 + 1 = W2.heap.size by omega]
    exact (b4.block _ (by omega)).trans h3
  · rw [show w.heap.size + 1 + 1 + 1 = W3.heap.size by omega]
    exact alloc_here W3 _

theorem R4_size (w : World) (a b c d : Obj) : ((((w.alloc a).alloc b).alloc c).alloc d).heap.size = w.heap.size + 1 + 1 + 1 + 1 := by simp only [World.size_alloc]

/-- reduced, whatever has come before -/
def finV (b : Bool) (n m : ByteArray) : Value := if b then badR else mkT n.data.toList m.data.toList
theorem mkT_rat (s t : List UInt8) : ∃ a c e, mkT s t = ratV a c e := by
  unfold mkT
  split
  · exact mkV_rat _ _
  · exact ⟨_, _, _, rfl⟩
theorem finV_rat (b : Bool) (n m : ByteArray) : ∃ a c e, finV b n m = ratV a c e := by
  unfold finV
  split
  · exact ⟨_, _, _, rfl⟩
  · exact mkT_rat _ _
theorem red_any (w W : World) (B : Nat) (b : Bool) (n m : ByteArray) (hw : Wk W B b) (h : b = false → ∃ x y : Int, n = tx x ∧ m = tx y ∧ x.natAbs < DL ∧ y.natAbs < DL) (hT : Tab w) (hb : Below w.heap.size w W) (hB : w.heap.size ≤ B) :
    Calls Tryz.prog 57 #[.pointer (some ⟨B, 0, none⟩), .string n, .string m] W fun e W' => e = .returned (finV b n m) ∧ W.grownBy W' (some B) := by
  cases b
  · obtain ⟨x, y, rfl, rfl, hx, hy⟩ := h rfl
    refine (red_calls w W B x y hw hx hy hT hb hB).mono ?_
    rintro e W' ⟨rfl, hg⟩
    exact ⟨by unfold finV; rw [mkT_tx hx hy]; rfl, hg⟩
  · refine (red_bad W B n m hw).mono ?_
    rintro e W' ⟨rfl, hg⟩
    exact ⟨rfl, grown_of_below hg _⟩

theorem opR_zero (f : Int → Int → Int) (s t : ByteArray) (h : (opR f s t).2 = 0) : ∃ z, (opR f s t).1 = tx z ∧ z.natAbs < DL := by
  have key : ∀ z, (teI z).2 = 0 → ∃ z', (teI z).1 = tx z' ∧ z'.natAbs < DL := by
    intro z hz
    unfold teI at hz ⊢
    split at hz
    · rename_i h; rw [if_pos h]; exact ⟨z, rfl, h⟩
    · cases hz
  unfold opR at h ⊢
  split at h
  · exact key _ h
  · cases h
theorem doB_zero {b : Bool} {f : Int → Int → Int} {s t : ByteArray} (h : doB b (opR f s t) = false) : b = false ∧ ∃ z, doR b (opR f s t) = tx z ∧ z.natAbs < DL := by
  unfold doB at h
  rw [Bool.or_eq_false_iff] at h
  obtain ⟨rfl, h2⟩ := h
  refine ⟨rfl, ?_⟩
  rw [doR_false]
  exact opR_zero f s t (by simpa using h2)

/-- some fraction is not valid -/
def bad2f (s1 t1 s2 t2 : ByteArray) : Bool := false || !rvalid s1.data.toList t1.data.toList || !rvalid s2.data.toList t2.data.toList
def rmulV (s1 t1 s2 t2 : ByteArray) : Value :=
  finV (doB (doB (false || !rvalid s1.data.toList t1.data.toList || !rvalid s2.data.toList t2.data.toList) (opR (· * ·) s1 s2)) (opR (· * ·) t1 t2))
    (doR (false || !rvalid s1.data.toList t1.data.toList || !rvalid s2.data.toList t2.data.toList) (opR (· * ·) s1 s2)) (doR (doB (false || !rvalid s1.data.toList t1.data.toList || !rvalid s2.data.toList t2.data.toList) (opR (· * ·) s1 s2)) (opR (· * ·) t1 t2))

set_option maxRecDepth 100000 in
set_option maxHeartbeats 4000000 in
/-- Mul -/
theorem rmul_calls (s1 t1 s2 t2 : ByteArray) (w : World) (hT : Tab w) :
    Calls Tryz.prog 25 #[.agg #[.string s1, .string t1], .agg #[.string s2, .string t2]] w fun e w' => e = .returned (rmulV s1 t1 s2 t2) ∧ Below w.heap.size w w' := by
  have HT := Aside0.mk hT
  clear hT
  go_enter Tryz.func25, Tryz.ntmps25
  go_wp2_with fail
  have HR0 := Aside0.mk (R4.start w s1 t1 s2 t2)
  have HZ0 := Aside0.mk (R4_size w (.cells #[.string s1, .string t1] 23) (.cells #[.string s2, .string t2] 23) (.cells #[.string ⟨#[]⟩, .string ⟨#[]⟩] 23) (.cells #[.bool false] 78))
  generalize ((((w.alloc (.cells #[.string s1, .string t1] 23)).alloc (.cells #[.string s2, .string t2] 23)).alloc (.cells #[.string ⟨#[]⟩, .string ⟨#[]⟩] 23)).alloc (.cells #[.bool false] 78)) = W0 at *
  have hl := alloc_here W0 (.cells #[.string s1, .string t1, .string s2, .string t2] 23)
  rw [HZ0.out] at hl
  have HR1 := Aside0.mk (HR0.out.next (below_alloc (Below.refl _ W0) (.cells #[.string s1, .string t1, .string s2, .string t2] 23)))
  refine (check2_calls w _ _ _ false s1 t1 s2 t2 HR1.out.wk hl HT.out HR1.out.bl (by omega) (by omega)).mono ?_
  rintro e W2 ⟨rfl, hw2, hg2⟩
  have hr2 := HR1.out.grown hw2 hg2
  have HR2 := Aside0.mk hr2
  obtain ⟨b2, hb2⟩ : ∃ b2, (false || !rvalid s1.data.toList t1.data.toList || !rvalid s2.data.toList t2.data.toList) = b2 := ⟨_, rfl⟩
  rw [hb2] at HR2
  have HB2 := Aside0.mk hb2
  obtain ⟨c0, c1, f0, f1⟩ := pair_facts hr2.pa
  obtain ⟨d0, d1, g0, g1⟩ := pair_facts hr2.pb
  clear hl hw2 hg2 hr2 hb2 HR0 HZ0 HR1
  go_wp2_with fail
  refine (wmul_calls W2 _ b2 s1 s2 HR2.out.wk (tabB HT.out HR2.out.bl)).mono ?_
  rintro e W3 ⟨rfl, hw3, hg3⟩
  have hr3 := HR2.out.grown hw3 hg3
  have HR3 := Aside0.mk hr3
  obtain ⟨c0, c1, f0, f1⟩ := pair_facts hr3.pa
  obtain ⟨d0, d1, g0, g1⟩ := pair_facts hr3.pb
  obtain ⟨n, hn⟩ : ∃ n, doR b2 (opR (· * ·) s1 s2) = n := ⟨_, rfl⟩
  rw [hn]
  have HN := Aside0.mk hn
  clear hw3 hg3 hr3 hn
  go_wp2_with fail
  refine (wmul_calls W3 _ _ t1 t2 HR3.out.wk (tabB HT.out HR3.out.bl)).mono ?_
  rintro e W4 ⟨rfl, hw4, hg4⟩
  have hr4 := HR3.out.grown hw4 hg4
  have HR4 := Aside0.mk hr4
  obtain ⟨m, hm⟩ : ∃ m, doR (doB b2 (opR (· * ·) s1 s2)) (opR (· * ·) t1 t2) = m := ⟨_, rfl⟩
  rw [hm]
  have HM := Aside0.mk hm
  clear hw4 hg4 hr4 hm
  go_wp2_with fail
  refine (red_any w W4 _ _ n m HR4.out.wk (by
    intro h
    obtain ⟨h1, y, e2, hy⟩ := doB_zero h
    obtain ⟨h3, x, e1, hx⟩ := doB_zero h1
    exact ⟨x, y, by rw [← HN.out, e1], by rw [← HM.out, e2], hx, hy⟩) HT.out HR4.out.bl (by omega)).mono ?_
  rintro e W5 ⟨rfl, hg5⟩
  have hbl5 := HR4.out.bl.grown hg5 HR4.out.bl.size (fun k e => by injection e with e; omega)
  have hpr5 := (hg5.block _ (blk_lt HR4.out.pr) (by intro e; injection e with e; omega)).trans HR4.out.pr
  have HBL := Aside0.mk hbl5
  have HPR := Aside0.mk hpr5
  obtain ⟨k0, k1, m0, m1⟩ := pair_facts hpr5
  have HE : Aside0 (rmulV s1 t1 s2 t2 = finV (doB (doB b2 (opR (· * ·) s1 s2)) (opR (· * ·) t1 t2)) n m) := ⟨by unfold rmulV; rw [HB2.out, HN.out, HM.out]⟩
  obtain ⟨r1, r2, er, hr⟩ := finV_rat (doB (doB b2 (opR (· * ·) s1 s2)) (opR (· * ·) t1 t2)) n m
  rw [hr] at HE ⊢
  unfold ratV
  clear hg5 hbl5 hpr5 hr
  go_wp2_with fail
  refine bodyPost_ret (results_list (rs := [.cell _ _, .tmp _]) rfl (by simp) (.cell (w.heap.size + 1 + 1) 23 _ (0, 0) _ rfl (blk_set (blk_set HPR.out 0 (.string r1)) 1 (.string r2)) Tryz.underlying23 rfl (by kernel_rfl) (.tmp .nil))) rfl ?_
  exact ⟨by rw [HE.out]; rfl, (HBL.out.setCell (p := ⟨w.heap.size + 1 + 1, 0, none⟩) (by show _ ≤ w.heap.size + 1 + 1; omega) _).setCell (p := ⟨w.heap.size + 1 + 1, 1, none⟩) (by show _ ≤ w.heap.size + 1 + 1; omega) _⟩

end Go.Proofs.YtnhjidbjibehpaaGreatDoor.L4

/- Layer 4, walked: Div. -/
namespace Go.Proofs.YtnhjidbjibehpaaGreatDoor.L4
open Go.Shelf Go.RowKit Go.Proofs.YtnhjidbjibehpaaGreatDoorW.PrintWords Go.Proofs.YtnhjidbjibehpaaGreatDoorW.PrintLast Go.Proofs.YtnhjidbjibehpaaGreatDoorW.PrintMore Yd L3
set_option linter.unusedVariables false
set_option linter.unusedSimpArgs false
attribute [local go_sem ↓] Go.wp_at_zero Go.wp_at_succ

def rdivV (s1 t1 s2 t2 : ByteArray) : Value :=
  finV (doB (doB (false || !rvalid s1.data.toList t1.data.toList || !rvalid s2.data.toList t2.data.toList) (opR (· * ·) s1 t2)) (opR (· * ·) t1 s2))
    (doR (false || !rvalid s1.data.toList t1.data.toList || !rvalid s2.data.toList t2.data.toList) (opR (· * ·) s1 t2)) (doR (doB (false || !rvalid s1.data.toList t1.data.toList || !rvalid s2.data.toList t2.data.toList) (opR (· * ·) s1 t2)) (opR (· * ·) t1 s2))

set_option maxRecDepth 100000 in
set_option maxHeartbeats 4000000 in
/-- Div -/
theorem rdiv_calls (s1 t1 s2 t2 : ByteArray) (w : World) (hT : Tab w) :
    Calls Tryz.prog 26 #[.agg #[.string s1, .string t1], .agg #[.string s2, .string t2]] w fun e w' => e = .returned (rdivV s1 t1 s2 t2) ∧ Below w.heap.size w w' := by
  have HT := Aside0.mk hT
  clear hT
  go_enter Tryz.func26, Tryz.ntmps26
  go_wp2_with fail
  have HR0 := Aside0.mk (R4.start w s1 t1 s2 t2)
  have HZ0 := Aside0.mk (R4_size w (.cells #[.string s1, .string t1] 23) (.cells #[.string s2, .string t2] 23) (.cells #[.string ⟨#[]⟩, .string ⟨#[]⟩] 23) (.cells #[.bool false] 78))
  generalize ((((w.alloc (.cells #[.string s1, .string t1] 23)).alloc (.cells #[.string s2, .string t2] 23)).alloc (.cells #[.string ⟨#[]⟩, .string ⟨#[]⟩] 23)).alloc (.cells #[.bool false] 78)) = W0 at *
  have hl := alloc_here W0 (.cells #[.string s1, .string t1, .string s2, .string t2] 23)
  rw [HZ0.out] at hl
  have HR1 := Aside0.mk (HR0.out.next (below_alloc (Below.refl _ W0) (.cells #[.string s1, .string t1, .string s2, .string t2] 23)))
  refine (check2_calls w _ _ _ false s1 t1 s2 t2 HR1.out.wk hl HT.out HR1.out.bl (by omega) (by omega)).mono ?_
  rintro e W2 ⟨rfl, hw2, hg2⟩
  have hr2 := HR1.out.grown hw2 hg2
  have HR2 := Aside0.mk hr2
  obtain ⟨b2, hb2⟩ : ∃ b2, (false || !rvalid s1.data.toList t1.data.toList || !rvalid s2.data.toList t2.data.toList) = b2 := ⟨_, rfl⟩
  rw [hb2] at HR2
  have HB2 := Aside0.mk hb2
  obtain ⟨c0, c1, f0, f1⟩ := pair_facts hr2.pa
  obtain ⟨d0, d1, g0, g1⟩ := pair_facts hr2.pb
  clear hl hw2 hg2 hr2 hb2 HR0 HZ0 HR1
  go_wp2_with fail
  refine (wmul_calls W2 _ b2 s1 t2 HR2.out.wk (tabB HT.out HR2.out.bl)).mono ?_
  rintro e W3 ⟨rfl, hw3, hg3⟩
  have hr3 := HR2.out.grown hw3 hg3
  have HR3 := Aside0.mk hr3
  obtain ⟨c0, c1, f0, f1⟩ := pair_facts hr3.pa
  obtain ⟨d0, d1, g0, g1⟩ := pair_facts hr3.pb
  obtain ⟨n, hn⟩ : ∃ n, doR b2 (opR (· * ·) s1 t2) = n := ⟨_, rfl⟩
  rw [hn]
  have HN := Aside0.mk hn
  clear hw3 hg3 hr3 hn
  go_wp2_with fail
  refine (wmul_calls W3 _ _ t1 s2 HR3.out.wk (tabB HT.out HR3.out.bl)).mono ?_
  rintro e W4 ⟨rfl, hw4, hg4⟩
  have hr4 := HR3.out.grown hw4 hg4
  have HR4 := Aside0.mk hr4
  obtain ⟨m, hm⟩ : ∃ m, doR (doB b2 (opR (· * ·) s1 t2)) (opR (· * ·) t1 s2) = m := ⟨_, rfl⟩
  rw [hm]
  have HM := Aside0.mk hm
  clear hw4 hg4 hr4 hm
  go_wp2_with fail
  refine (red_any w W4 _ _ n m HR4.out.wk (by
    intro h
    obtain ⟨h1, y, e2, hy⟩ := doB_zero h
    obtain ⟨h3, x, e1, hx⟩ := doB_zero h1
    exact ⟨x, y, by rw [← HN.out, e1], by rw [← HM.out, e2], hx, hy⟩) HT.out HR4.out.bl (by omega)).mono ?_
  rintro e W5 ⟨rfl, hg5⟩
  have hbl5 := HR4.out.bl.grown hg5 HR4.out.bl.size (fun k e => by injection e with e; omega)
  have hpr5 := (hg5.block _ (blk_lt HR4.out.pr) (by intro e; injection e with e; omega)).trans HR4.out.pr
  have HBL := Aside0.mk hbl5
  have HPR := Aside0.mk hpr5
  obtain ⟨k0, k1, m0, m1⟩ := pair_facts hpr5
  have HE : Aside0 (rdivV s1 t1 s2 t2 = finV (doB (doB b2 (opR (· * ·) s1 t2)) (opR (· * ·) t1 s2)) n m) := ⟨by unfold rdivV; rw [HB2.out, HN.out, HM.out]⟩
  obtain ⟨r1, r2, er, hr⟩ := finV_rat (doB (doB b2 (opR (· * ·) s1 t2)) (opR (· * ·) t1 s2)) n m
  rw [hr] at HE ⊢
  unfold ratV
  clear hg5 hbl5 hpr5 hr
  go_wp2_with fail
  refine bodyPost_ret (results_list (rs := [.cell _ _, .tmp _]) rfl (by simp) (.cell (w.heap.size + 1 + 1) 23 _ (0, 0) _ rfl (blk_set (blk_set HPR.out 0 (.string r1)) 1 (.string r2)) Tryz.underlying23 rfl (by kernel_rfl) (.tmp .nil))) rfl ?_
  exact ⟨by rw [HE.out]; rfl, (HBL.out.setCell (p := ⟨w.heap.size + 1 + 1, 0, none⟩) (by show _ ≤ w.heap.size + 1 + 1; omega) _).setCell (p := ⟨w.heap.size + 1 + 1, 1, none⟩) (by show _ ≤ w.heap.size + 1 + 1; omega) _⟩

end Go.Proofs.YtnhjidbjibehpaaGreatDoor.L4

/- Layer 4, walked: sum, Add, Sub. -/
namespace Go.Proofs.YtnhjidbjibehpaaGreatDoor.L4
open Go.Shelf Go.RowKit Go.Proofs.YtnhjidbjibehpaaGreatDoorW.PrintWords Go.Proofs.YtnhjidbjibehpaaGreatDoorW.PrintLast Go.Proofs.YtnhjidbjibehpaaGreatDoorW.PrintMore Yd L3
set_option linter.unusedVariables false
set_option linter.unusedSimpArgs false
attribute [local go_sem ↓] Go.wp_at_zero Go.wp_at_succ

/-- what sum returns: the two products are made in either order -/
def rsumV (f : Int → Int → Int) (s1 t1 s2 t2 : ByteArray) : Value :=
  let b4 := (false || !rvalid s1.data.toList t1.data.toList || !rvalid s2.data.toList t2.data.toList) || (opR (· * ·) s1 t2).2 != 0 || (opR (· * ·) s2 t1).2 != 0
  let n := opR f (opR (· * ·) s1 t2).1 (opR (· * ·) s2 t1).1
  let m := opR (· * ·) t1 t2
  finV (doB (doB b4 n) m) (doR b4 n) (doR (doB b4 n) m)
theorem doB_eq (b : Bool) (r : TE) : doB b r = (b || r.2 != 0) := rfl
/-- the two products, in either order -/
structure Two (b b4 : Bool) (m1 m2 : TE) (x1 x2 : ByteArray) : Prop where
  fl : (b || m1.2 != 0 || m2.2 != 0) = b4
  xs : b4 = false → x1 = m1.1 ∧ x2 = m2.1
theorem Two.one {b b3 b4 : Bool} {m1 m2 : TE} {x1 x2 : ByteArray} (h1 : doR b m1 = x1) (h2 : doB b m1 = b3) (h3 : doR b3 m2 = x2) (h4 : doB b3 m2 = b4) : Two b b4 m1 m2 x1 x2 := by
  subst h1 h2 h3 h4
  refine ⟨rfl, fun h => ?_⟩
  simp only [doB_eq, Bool.or_eq_false_iff] at h
  obtain ⟨⟨rfl, h1⟩, h2⟩ := h
  exact ⟨rfl, by rw [doB_eq, h1]; rfl⟩
theorem Two.swap {b b3 b4 : Bool} {m1 m2 : TE} {x1 x2 : ByteArray} (h1 : doR b m2 = x2) (h2 : doB b m2 = b3) (h3 : doR b3 m1 = x1) (h4 : doB b3 m1 = b4) : Two b b4 m1 m2 x1 x2 := by
  have h := Two.one h1 h2 h3 h4
  refine ⟨?_, fun e => ⟨(h.xs e).2, (h.xs e).1⟩⟩
  rw [← h.fl, Bool.or_assoc, Bool.or_assoc, Bool.or_comm (m1.2 != 0)]
theorem sum_fin {b b4 : Bool} {f : Int → Int → Int} {m1 m2 : TE} {x1 x2 t1 t2 : ByteArray} (h : Two b b4 m1 m2 x1 x2) :
    finV (doB (doB b4 (opR f x1 x2)) (opR (· * ·) t1 t2)) (doR b4 (opR f x1 x2)) (doR (doB b4 (opR f x1 x2)) (opR (· * ·) t1 t2)) =
      finV (doB (doB (b || m1.2 != 0 || m2.2 != 0) (opR f m1.1 m2.1)) (opR (· * ·) t1 t2)) (doR (b || m1.2 != 0 || m2.2 != 0) (opR f m1.1 m2.1)) (doR (doB (b || m1.2 != 0 || m2.2 != 0) (opR f m1.1 m2.1)) (opR (· * ·) t1 t2)) := by
  rw [h.fl]
  cases b4
  · obtain ⟨rfl, rfl⟩ := h.xs rfl; rfl
  · rfl

set_option maxRecDepth 100000 in
set_option maxHeartbeats 4000000 in
/-- sum -/
theorem rsum_calls (g : Nat) (f : Int → Int → Int) (hF : OpIs g (opR f)) (s1 t1 s2 t2 : ByteArray) (w : World) (hT : Tab w) :
    Calls Tryz.prog 61 #[.func (.func g) #[] #[], .agg #[.string s1, .string t1], .agg #[.string s2, .string t2]] w fun e w' => e = .returned (rsumV f s1 t1 s2 t2) ∧ Below w.heap.size w w' := by
  have HT := Aside0.mk hT
  have HF := Aside0.mk hF
  clear hT hF
  go_enter Tryz.func61, Tryz.ntmps61
  go_wp2_with fail
  have HR0 := Aside0.mk (R4.start w s1 t1 s2 t2)
  have HZ0 := Aside0.mk (R4_size w (.cells #[.string s1, .string t1] 23) (.cells #[.string s2, .string t2] 23) (.cells #[.string ⟨#[]⟩, .string ⟨#[]⟩] 23) (.cells #[.bool false] 78))
  generalize ((((w.alloc (.cells #[.string s1, .string t1] 23)).alloc (.cells #[.string s2, .string t2] 23)).alloc (.cells #[.string ⟨#[]⟩, .string ⟨#[]⟩] 23)).alloc (.cells #[.bool false] 78)) = W0 at *
  have hl := alloc_here W0 (.cells #[.string s1, .string t1, .string s2, .string t2] 23)
  rw [HZ0.out] at hl
  have HR1 := Aside0.mk (HR0.out.next (below_alloc (Below.refl _ W0) (.cells #[.string s1, .string t1, .string s2, .string t2] 23)))
  refine (check2_calls w _ _ _ false s1 t1 s2 t2 HR1.out.wk hl HT.out HR1.out.bl (by omega) (by omega)).mono ?_
  rintro e W2 ⟨rfl, hw2, hg2⟩
  have hr2 := HR1.out.grown hw2 hg2
  have HR2 := Aside0.mk hr2
  obtain ⟨b2, hb2⟩ : ∃ b2, (false || !rvalid s1.data.toList t1.data.toList || !rvalid s2.data.toList t2.data.toList) = b2 := ⟨_, rfl⟩
  rw [hb2] at HR2
  have HB2 := Aside0.mk hb2
  obtain ⟨c0, c1, f0, f1⟩ := pair_facts hr2.pa
  obtain ⟨d0, d1, g0, g1⟩ := pair_facts hr2.pb
  clear hl hw2 hg2 hr2 hb2 HR0 HZ0 HR1
  go_wp2_with fail
  have hrd := HR2.out.next (below_drew (Below.refl _ W2))
  clear HR2
  have HR2 := Aside0.mk hrd
  clear hrd
  go_region_held3 (fun w' => w'.cell? ⟨w.heap.size, 0, none⟩ = some (.string s1) ∧ w'.cell? ⟨w.heap.size, 1, none⟩ = some (.string t1) ∧ w'.cell? ⟨w.heap.size + 1, 0, none⟩ = some (.string s2) ∧ w'.cell? ⟨w.heap.size + 1, 1, none⟩ = some (.string t2)) (first | exact ⟨c0, c1, d0, d1⟩ | go_keep) (first
    | (go_at_call 60; (refine (wmul_calls _ _ b2 s1 t2 HR2.out.wk (tabB HT.out HR2.out.bl)).mono ?_); rintro e W3 ⟨rfl, hw3, hg3⟩; have hr3 := HR2.out.grown hw3 hg3; clear HR2; obtain ⟨c0, c1, f0, f1⟩ := pair_facts hr3.pa; obtain ⟨d0, d1, g0, g1⟩ := pair_facts hr3.pb; obtain ⟨x1, hx1⟩ : ∃ x, doR b2 (opR (· * ·) s1 t2) = x := ⟨_, rfl⟩; rw [hx1]; have HX1 := Aside0.mk hx1; obtain ⟨b2, hb3⟩ : ∃ b, doB b2 (opR (· * ·) s1 t2) = b := ⟨_, rfl⟩; rw [hb3] at hr3; have HBa := Aside0.mk hb3; have HR2 := Aside0.mk hr3; clear hw3 hg3 hr3 hx1 hb3)
    | (go_at_call 60; (refine (wmul_calls _ _ b2 s2 t1 HR2.out.wk (tabB HT.out HR2.out.bl)).mono ?_); rintro e W3 ⟨rfl, hw3, hg3⟩; have hr3 := HR2.out.grown hw3 hg3; clear HR2; obtain ⟨c0, c1, f0, f1⟩ := pair_facts hr3.pa; obtain ⟨d0, d1, g0, g1⟩ := pair_facts hr3.pb; obtain ⟨x2, hx1⟩ : ∃ x, doR b2 (opR (· * ·) s2 t1) = x := ⟨_, rfl⟩; rw [hx1]; have HX2 := Aside0.mk hx1; obtain ⟨b2, hb3⟩ : ∃ b, doB b2 (opR (· * ·) s2 t1) = b := ⟨_, rfl⟩; rw [hb3] at hr3; have HBb := Aside0.mk hb3; have HR2 := Aside0.mk hr3; clear hw3 hg3 hr3 hx1 hb3)
    | (go_at_call 84; (refine (do_calls g _ HF.out _ _ b2 x1 x2 HR2.out.wk (tabB HT.out HR2.out.bl)).mono ?_); rintro e W5 ⟨rfl, hw5, hg5⟩; have hr5 := HR2.out.grown hw5 hg5; clear HR2; have HR2 := Aside0.mk hr5; obtain ⟨c0, c1, f0, f1⟩ := pair_facts hr5.pa; obtain ⟨d0, d1, g0, g1⟩ := pair_facts hr5.pb; obtain ⟨n, hn⟩ : ∃ n, doR b2 (opR f x1 x2) = n := ⟨_, rfl⟩; rw [hn]; have HN := Aside0.mk hn; clear hw5 hg5 hr5 hn))
  all_goals
    have HTWO := Aside0.mk (show Two _ b2 (opR (· * ·) s1 t2) (opR (· * ·) s2 t1) x1 x2 from by first | exact Two.one HX1.out HBa.out HX2.out HBb.out | exact Two.swap HX2.out HBb.out HX1.out HBa.out)
    have HR5 := Aside0.mk HR2.out
    clear HR2
    go_wp2_with fail
    refine (wmul_calls W5 _ _ t1 t2 HR5.out.wk (tabB HT.out HR5.out.bl)).mono ?_
    rintro e W6 ⟨rfl, hw6, hg6⟩
    have hr6 := HR5.out.grown hw6 hg6
    have HR6 := Aside0.mk hr6
    obtain ⟨m, hm⟩ : ∃ m, doR (doB b2 (opR f x1 x2)) (opR (· * ·) t1 t2) = m := ⟨_, rfl⟩
    rw [hm]
    have HM := Aside0.mk hm
    clear hw6 hg6 hr6 hm
    go_wp2_with fail
    refine (red_any w W6 _ _ n m HR6.out.wk (by
      intro h
      obtain ⟨h1, y, e2, hy⟩ := doB_zero h
      obtain ⟨h3, x, e1, hx⟩ := doB_zero h1
      exact ⟨x, y, by rw [← HN.out, e1], by rw [← HM.out, e2], hx, hy⟩) HT.out HR6.out.bl (by omega)).mono ?_
    rintro e W7 ⟨rfl, hg7⟩
    have hbl5 := HR6.out.bl.grown hg7 HR6.out.bl.size (fun k e => by injection e with e; omega)
    have hpr5 := (hg7.block _ (blk_lt HR6.out.pr) (by intro e; injection e with e; omega)).trans HR6.out.pr
    have HBL := Aside0.mk hbl5
    have HPR := Aside0.mk hpr5
    obtain ⟨k0, k1, m0, m1⟩ := pair_facts hpr5
    have HE : Aside0 (rsumV f s1 t1 s2 t2 = finV (doB (doB b2 (opR f x1 x2)) (opR (· * ·) t1 t2)) n m) := ⟨by rw [← HN.out, ← HM.out, sum_fin HTWO.out, ← HB2.out]; rfl⟩
    obtain ⟨r1, r2, er, hr⟩ := finV_rat (doB (doB b2 (opR f x1 x2)) (opR (· * ·) t1 t2)) n m
    rw [hr] at HE ⊢
    unfold ratV
    clear hg7 hbl5 hpr5 hr
    go_wp2_with fail
    refine bodyPost_ret (results_list (rs := [.cell _ _, .tmp _]) rfl (by simp) (.cell (w.heap.size + 1 + 1) 23 _ (0, 0) _ rfl (blk_set (blk_set HPR.out 0 (.string r1)) 1 (.string r2)) Tryz.underlying23 rfl (by kernel_rfl) (.tmp .nil))) rfl ?_
    exact ⟨by rw [HE.out]; rfl, (HBL.out.setCell (p := ⟨w.heap.size + 1 + 1, 0, none⟩) (by show _ ≤ w.heap.size + 1 + 1; omega) _).setCell (p := ⟨w.heap.size + 1 + 1, 1, none⟩) (by show _ ≤ w.heap.size + 1 + 1; omega) _⟩

end Go.Proofs.YtnhjidbjibehpaaGreatDoor.L4

/- Layer 4, walked: Add, Sub. -/
namespace Go.Proofs.YtnhjidbjibehpaaGreatDoor.L4
open Go.Shelf Go.RowKit Go.Proofs.YtnhjidbjibehpaaGreatDoorW.PrintWords Go.Proofs.YtnhjidbjibehpaaGreatDoorW.PrintLast Go.Proofs.YtnhjidbjibehpaaGreatDoorW.PrintMore Yd L3
set_option linter.unusedVariables false
set_option linter.unusedSimpArgs false
attribute [local go_sem ↓] Go.wp_at_zero Go.wp_at_succ

/-- two boxes, and the result's -/
structure R3 (w W : World) (r1 r2 : ByteArray) : Prop where
  bl : Below w.heap.size w W
  pr : W.heap[w.heap.size + 1 + 1]? = some (.cells #[.string r1, .string r2] 23)
theorem R3.next {w W W' : World} {r1 r2 : ByteArray} (h : R3 w W r1 r2) (hb : Below W.heap.size W W') : R3 w W' r1 r2 :=
  ⟨h.bl.trans (hb.mono h.bl.size), (hb.block _ (blk_lt h.pr)).trans h.pr⟩
theorem R3.start (w : World) (s1 t1 s2 t2 : ByteArray) : R3 w (((w.alloc (.cells #[.string s1, .string t1] 23)).alloc (.cells #[.string s2, .string t2] 23)).alloc (.cells #[.string ⟨#[]⟩, .string ⟨#[]⟩] 23)) ⟨#[]⟩ ⟨#[]⟩ := by
  have e : w.heap.size + 1 + 1 = ((w.alloc (.cells #[.string s1, .string t1] 23)).alloc (.cells #[.string s2, .string t2] 23)).heap.size := by simp only [World.size_alloc]
  refine ⟨((((Below.refl _ w).alloc (Nat.le_refl _) _).alloc (by simp only [World.size_alloc]; omega) _).alloc (by simp only [World.size_alloc]; omega) _), ?_⟩
  rw [e]; exact alloc_here _ _
theorem R3.set {w W : World} {r1 r2 : ByteArray} (h : R3 w W r1 r2) (s' t' : ByteArray) : R3 w ((W.setCell ⟨w.heap.size + 1 + 1, 0, none⟩ (.string s')).setCell ⟨w.heap.size + 1 + 1, 1, none⟩ (.string t')) s' t' :=
  ⟨(h.bl.setCell (p := ⟨w.heap.size + 1 + 1, 0, none⟩) (by show _ ≤ w.heap.size + 1 + 1; omega) _).setCell (p := ⟨w.heap.size + 1 + 1, 1, none⟩) (by show _ ≤ w.heap.size + 1 + 1; omega) _, blk_set (blk_set h.pr 0 (.string s')) 1 _⟩
theorem rsumV_rat (f : Int → Int → Int) (s1 t1 s2 t2 : ByteArray) : ∃ a c e, rsumV f s1 t1 s2 t2 = ratV a c e := finV_rat _ _ _

set_option maxRecDepth 100000 in
set_option maxHeartbeats 4000000 in
/-- Add -/
theorem radd_calls (s1 t1 s2 t2 : ByteArray) (w : World) (hT : Tab w) :
    Calls Tryz.prog 27 #[.agg #[.string s1, .string t1], .agg #[.string s2, .string t2]] w fun e w' => e = .returned (rsumV (· + ·) s1 t1 s2 t2) ∧ Below w.heap.size w w' := by
  have HT := Aside0.mk hT
  clear hT
  go_enter Tryz.func27, Tryz.ntmps27
  go_wp2_with fail
  have HR0 := Aside0.mk (R3.start w s1 t1 s2 t2)
  generalize (((w.alloc (.cells #[.string s1, .string t1] 23)).alloc (.cells #[.string s2, .string t2] 23)).alloc (.cells #[.string ⟨#[]⟩, .string ⟨#[]⟩] 23)) = W0 at *
  refine (rsum_calls _ (· + ·) op_add s1 t1 s2 t2 W0 (tabB HT.out HR0.out.bl)).mono ?_
  rintro e w1 ⟨rfl, hb1⟩
  have HR1 := Aside0.mk (HR0.out.next hb1)
  obtain ⟨c0, c1, f0, f1⟩ := pair_facts HR1.out.pr
  obtain ⟨r1, r2, er, hr⟩ := rsumV_rat (· + ·) s1 t1 s2 t2
  have HR := Aside0.mk hr
  rw [hr]
  unfold ratV
  clear hb1 hr
  go_wp2_with fail
  have HR5 := Aside0.mk (HR1.out.set r1 r2)
  refine bodyPost_ret (results_list (rs := [.cell _ _, .tmp _]) rfl (by simp) (.cell (w.heap.size + 1 + 1) 23 _ (0, 0) _ rfl HR5.out.pr Tryz.underlying23 rfl (by kernel_rfl) (.tmp .nil))) rfl ?_
  exact ⟨by rw [HR.out]; rfl, HR5.out.bl⟩

set_option maxRecDepth 100000 in
set_option maxHeartbeats 4000000 in
/-- Sub -/
theorem rsub_calls (s1 t1 s2 t2 : ByteArray) (w : World) (hT : Tab w) :
    Calls Tryz.prog 44 #[.agg #[.string s1, .string t1], .agg #[.string s2, .string t2]] w fun e w' => e = .returned (rsumV (· - ·) s1 t1 s2 t2) ∧ Below w.heap.size w w' := by
  have HT := Aside0.mk hT
  clear hT
  go_enter Tryz.func44, Tryz.ntmps44
  go_wp2_with fail
  have HR0 := Aside0.mk (R3.start w s1 t1 s2 t2)
  generalize (((w.alloc (.cells #[.string s1, .string t1] 23)).alloc (.cells #[.string s2, .string t2] 23)).alloc (.cells #[.string ⟨#[]⟩, .string ⟨#[]⟩] 23)) = W0 at *
  refine (rsum_calls _ (· - ·) op_sub s1 t1 s2 t2 W0 (tabB HT.out HR0.out.bl)).mono ?_
  rintro e w1 ⟨rfl, hb1⟩
  have HR1 := Aside0.mk (HR0.out.next hb1)
  obtain ⟨c0, c1, f0, f1⟩ := pair_facts HR1.out.pr
  obtain ⟨r1, r2, er, hr⟩ := rsumV_rat (· - ·) s1 t1 s2 t2
  have HR := Aside0.mk hr
  rw [hr]
  unfold ratV
  clear hb1 hr
  go_wp2_with fail
  have HR5 := Aside0.mk (HR1.out.set r1 r2)
  refine bodyPost_ret (results_list (rs := [.cell _ _, .tmp _]) rfl (by simp) (.cell (w.heap.size + 1 + 1) 23 _ (0, 0) _ rfl HR5.out.pr Tryz.underlying23 rfl (by kernel_rfl) (.tmp .nil))) rfl ?_
  exact ⟨by rw [HR.out]; rfl, HR5.out.bl⟩

end Go.Proofs.YtnhjidbjibehpaaGreatDoor.L4

/- Layer 4: what the operations return, in rational numbers. -/
namespace Go.Proofs.YtnhjidbjibehpaaGreatDoor.L4
open Go.Shelf Go.RowKit Go.Proofs.YtnhjidbjibehpaaGreatDoorW.PrintWords Go.Proofs.YtnhjidbjibehpaaGreatDoorW.PrintLast Go.Proofs.YtnhjidbjibehpaaGreatDoorW.PrintMore Yd L3

/-- a fraction, or an error, as it is returned -/
def ratO (o : Option Rat) : Value := match o with
  | some r => ratV (tx r.num) (tx r.den) 0
  | none => badR
theorem ratO_none : ratO none = badR := rfl
theorem ratO_some (r : Rat) : ratO (some r) = ratV (tx r.num) (tx r.den) 0 := rfl
theorem nn_eq (x y : Int) (h : y ≠ 0) : nn x y = (Rat.divInt x y).num := by
  rw [Rat.num_divInt]
  unfold nn igcd
  rw [show y.gcd x = Nat.gcd x.natAbs y.natAbs from Nat.gcd_comm _ _]
  congr 1
  split
  · rename_i h; rw [Int.sign_eq_neg_one_of_neg h]; omega
  · rw [Int.sign_eq_one_of_pos (by omega)]; omega
theorem dd_eq (x y : Int) (h : y ≠ 0) : dd x y = ((Rat.divInt x y).den : Int) := by
  rw [Rat.den_divInt, if_neg h]
  unfold dd igcd
  rw [show y.gcd x = Nat.gcd x.natAbs y.natAbs from Nat.gcd_comm _ _, Int.natCast_ediv]
  congr 1
  split <;> omega
theorem mkV_ratO (x y : Int) : mkV x y = ratO (mk2 x y) := by
  unfold mkV mk2
  split
  · rfl
  · rename_i h
    rw [nn_eq x y h, dd_eq x y h]; rfl
theorem mkT_ratO (s t : List UInt8) : mkT s t = ratO (mkO s t) := by
  unfold mkT mkO
  cases ival s with
  | none => rfl
  | some x => cases ival t with
    | none => rfl
    | some y => exact mkV_ratO x y
theorem rvalid_rval (s t : List UInt8) : rvalid s t = (rval s t).isSome := by
  unfold rvalid rval
  cases ival s with
  | none => rfl
  | some x => cases ival t with
    | none => rfl
    | some y =>
      simp only []
      have e : decide (igcd x y = 1) = decide (Nat.gcd x.natAbs y.natAbs = 1) := by
        unfold igcd; rw [decide_eq_decide]; omega
      rw [e, ← Bool.decide_and]
      split
      · rename_i h; rw [decide_eq_true h]; rfl
      · rename_i h; rw [decide_eq_false h]; rfl

/-- a fraction of two texts -/
def rvalB (s t : ByteArray) : Option Rat := rval s.data.toList t.data.toList
theorem rvalB_eq {s t : ByteArray} {r : Rat} (h : rvalB s t = some r) : s = tx r.num ∧ t = tx r.den ∧ RL r := by
  obtain ⟨h1, h2, h3⟩ := rval_eq h
  exact ⟨ba_ext (by rw [tx_data]; exact h1), ba_ext (by rw [tx_data]; exact h2), h3⟩
theorem rvalB_tx {r : Rat} (h : RL r) : rvalB (tx r.num) (tx r.den) = some r := by
  unfold rvalB; rw [tx_data, tx_data]; exact rval_rat h

theorem doB_te (b : Bool) (z : Int) : doB b (teI z) = (b || !sm z) := by
  unfold doB teI sm
  by_cases h : z.natAbs < DL
  · rw [if_pos h, decide_eq_true h]; rfl
  · rw [if_neg h, decide_eq_false h]; rfl
theorem doR_te {z : Int} (h : sm z = true) : doR false (teI z) = tx z := by rw [doR_false, teI_ok (sm_iff.1 h)]
theorem fin_bad (n m : ByteArray) : finV true n m = badR := rfl
theorem fin_ok {x y : Int} (hx : sm x = true) (hy : sm y = true) : finV false (tx x) (tx y) = ratO (mk2 x y) := by
  unfold finV; rw [mkT_tx (sm_iff.1 hx) (sm_iff.1 hy)]; exact mkV_ratO x y
theorem den_lt {r : Rat} (h : RL r) : (r.den : Int).natAbs < DL := by simpa using h.2

theorem flag_bad {s1 t1 s2 t2 : ByteArray} (h : rvalB s1 t1 = none ∨ rvalB s2 t2 = none) : (false || !rvalid s1.data.toList t1.data.toList || !rvalid s2.data.toList t2.data.toList) = true := by
  rw [rvalid_rval, rvalid_rval]
  unfold rvalB at h
  rcases h with h | h <;> rw [h] <;> simp
theorem flag_ok {s1 t1 s2 t2 : ByteArray} {a b : Rat} (h1 : rvalB s1 t1 = some a) (h2 : rvalB s2 t2 = some b) : (false || !rvalid s1.data.toList t1.data.toList || !rvalid s2.data.toList t2.data.toList) = false := by
  rw [rvalid_rval, rvalid_rval]
  unfold rvalB at h1 h2
  rw [h1, h2]; rfl
theorem rb_cases (f : Rat → Rat → Option Rat) (x y : Option Rat) : ((x = none ∨ y = none) ∧ rbin f x y = none) ∨ ∃ a b, x = some a ∧ y = some b ∧ rbin f x y = f a b := by
  cases x with
  | none => exact .inl ⟨.inl rfl, rfl⟩
  | some a => cases y with
    | none => exact .inl ⟨.inr rfl, rfl⟩
    | some b => exact .inr ⟨a, b, rfl, rfl, rfl⟩

theorem rmulV_eq (s1 t1 s2 t2 : ByteArray) : rmulV s1 t1 s2 t2 = ratO (rbin rmul (rvalB s1 t1) (rvalB s2 t2)) := by
  unfold rmulV
  rcases rb_cases rmul (rvalB s1 t1) (rvalB s2 t2) with ⟨h, e⟩ | ⟨a, b, h1, h2, e⟩
  · rw [flag_bad h, e]; rfl
  · rw [flag_ok h1 h2, e]
    obtain ⟨rfl, rfl, ha⟩ := rvalB_eq h1
    obtain ⟨rfl, rfl, hb⟩ := rvalB_eq h2
    rw [opR_tx _ ha.1 hb.1, opR_tx _ (den_lt ha) (den_lt hb), doB_te, doB_te]
    unfold rmul
    cases h1 : sm (a.num * b.num)
    · rfl
    · cases h2 : sm ((a.den : Int) * b.den)
      · rfl
      · simp only [Bool.not_true, Bool.or_false, Bool.and_true, if_true]
        have := rat_pos a
        have := rat_pos b
        have h0 : (a.den : Int) * b.den ≠ 0 := Int.mul_ne_zero (by omega) (by omega)
        rw [doR_te h1, doR_te h2, fin_ok h1 h2, mk2, if_neg h0, mul_divInt]
theorem rdivV_eq (s1 t1 s2 t2 : ByteArray) : rdivV s1 t1 s2 t2 = ratO (rbin rdiv (rvalB s1 t1) (rvalB s2 t2)) := by
  unfold rdivV
  rcases rb_cases rdiv (rvalB s1 t1) (rvalB s2 t2) with ⟨h, e⟩ | ⟨a, b, h1, h2, e⟩
  · rw [flag_bad h, e]; rfl
  · rw [flag_ok h1 h2, e]
    obtain ⟨rfl, rfl, ha⟩ := rvalB_eq h1
    obtain ⟨rfl, rfl, hb⟩ := rvalB_eq h2
    rw [opR_tx _ ha.1 (den_lt hb), opR_tx _ (den_lt ha) hb.1, doB_te, doB_te]
    unfold rdiv
    cases h1 : sm (a.num * b.den)
    · rfl
    · cases h2 : sm ((a.den : Int) * b.num)
      · rfl
      · simp only [Bool.not_true, Bool.or_false, Bool.true_and]
        have := rat_pos a
        rw [doR_te h1, doR_te h2, fin_ok h1 h2, mk2]
        by_cases hb0 : b = 0
        · rw [if_pos (by rw [hb0]; simp)]; simp [hb0]
        · have hn : b.num ≠ 0 := fun h => hb0 (Rat.num_eq_zero.1 h)
          have h0 : (a.den : Int) * b.num ≠ 0 := Int.mul_ne_zero (by omega) hn
          rw [if_neg h0, div_divInt]; simp [hb0]
theorem rsumV_eq (f : Int → Int → Int) (F : Rat → Rat → Option Rat) (G : Rat → Rat → Rat) (s1 t1 s2 t2 : ByteArray)
    (hF : ∀ a b, F a b = if sm (a.num * b.den) && sm (b.num * a.den) && sm (a.den * b.den) && sm (f (a.num * b.den) (b.num * a.den)) then some (G a b) else none)
    (hG : ∀ a b : Rat, Rat.divInt (f (a.num * b.den) (b.num * a.den)) (a.den * b.den) = G a b) : rsumV f s1 t1 s2 t2 = ratO (rbin F (rvalB s1 t1) (rvalB s2 t2)) := by
  unfold rsumV
  rcases rb_cases F (rvalB s1 t1) (rvalB s2 t2) with ⟨h, e⟩ | ⟨a, b, h1, h2, e⟩
  · simp only []
    rw [flag_bad h, e]; rfl
  · simp only []
    rw [flag_ok h1 h2, e, hF]
    obtain ⟨rfl, rfl, ha⟩ := rvalB_eq h1
    obtain ⟨rfl, rfl, hb⟩ := rvalB_eq h2
    rw [opR_tx _ ha.1 (den_lt hb), opR_tx _ hb.1 (den_lt ha), opR_tx _ (den_lt ha) (den_lt hb)]
    have te1 : ∀ z, ((teI z).2 != 0) = !sm z := fun z => by have := doB_te false z; rw [Bool.false_or] at this; exact this
    rw [te1, te1]
    cases h1 : sm (a.num * b.den)
    · rfl
    · cases h2 : sm (b.num * a.den)
      · rfl
      · simp only [Bool.not_true, Bool.or_false, Bool.true_and]
        have e1 := doR_te h1
        have e2 := doR_te h2
        rw [doR_false] at e1 e2
        rw [e1, e2, opR_tx _ (sm_iff.1 h1) (sm_iff.1 h2), doB_te, doB_te]
        cases h3 : sm (f (a.num * b.den) (b.num * a.den))
        · simp only [Bool.and_false]; rfl
        · cases h4 : sm ((a.den : Int) * b.den)
          · rfl
          · simp only [Bool.not_true, Bool.or_false, Bool.and_true, if_true]
            have := rat_pos a
            have := rat_pos b
            have h0 : (a.den : Int) * b.den ≠ 0 := Int.mul_ne_zero (by omega) (by omega)
            rw [doR_te h3, doR_te h4, fin_ok h3 h4, mk2, if_neg h0, hG]
theorem raddV_eq (s1 t1 s2 t2 : ByteArray) : rsumV (· + ·) s1 t1 s2 t2 = ratO (rbin radd (rvalB s1 t1) (rvalB s2 t2)) := rsumV_eq _ radd (· + ·) _ _ _ _ (fun _ _ => rfl) add_divInt
theorem rsubV_eq (s1 t1 s2 t2 : ByteArray) : rsumV (· - ·) s1 t1 s2 t2 = ratO (rbin rsub (rvalB s1 t1) (rvalB s2 t2)) := rsumV_eq _ rsub (· - ·) _ _ _ _ (fun _ _ => rfl) sub_divInt

end Go.Proofs.YtnhjidbjibehpaaGreatDoor.L4
