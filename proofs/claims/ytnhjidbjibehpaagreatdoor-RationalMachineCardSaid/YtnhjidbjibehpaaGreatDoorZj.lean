/- Layer 3, walked: Compare, Gcd. -/
import Derived.Test.YtnhjidbjibehpaaGreatDoorZg
import Derived.Test.YtnhjidbjibehpaaGreatDoorZi
import Derived.Deep.Cut
import Derived.Deep.DeepMust
namespace Go.Proofs.YtnhjidbjibehpaaGreatDoor.L3
open Go.Shelf Go.RowKit Go.Proofs.YtnhjidbjibehpaaGreatDoorW.PrintWords Go.Proofs.YtnhjidbjibehpaaGreatDoorW.PrintLast Go.Proofs.YtnhjidbjibehpaaGreatDoorW.PrintMore Yd
set_option linter.unusedVariables false
set_option linter.unusedSimpArgs false
attribute [local go_sem ↓] Go.wp_at_zero Go.wp_at_succ

/-- what Compare returns -/
def cmpT (s t : List UInt8) : Int := match ival s, ival t with
  | some x, some y => cmpI x y
  | _, _ => 0
theorem cmpT_no {s t : List UInt8} (h : ival s = none ∨ ival t = none) : cmpT s t = 0 := by
  unfold cmpT
  rcases h with h | h
  · rw [h]
  · rw [h]; cases ival s <;> rfl
theorem cmpT_yes {s t : List UInt8} {x y : Int} (h1 : ival s = some x) (h2 : ival t = some y) : cmpT s t = cmpI x y := by unfold cmpT; rw [h1, h2]
theorem Sp.flag {w : World} {v : Value} {x : Int} (h : Sp w v x) : ∃ b, b = decide (x < 0) ∧ ∃ (u : Value) (n : Nat), v = .agg #[.bool b, u] ∧ Nm w u n ∧ x = if b then -(n : Int) else (n : Int) := ⟨_, rfl, h⟩

set_option maxRecDepth 100000 in
set_option maxHeartbeats 4000000 in
/-- Compare -/
theorem compare_calls (s t : ByteArray) (w : World) :
    Calls Tryz.prog 50 #[.string s, .string t] w fun e w' => e = .returned (.int .i64 (cmpT s.data.toList t.data.toList)) ∧ Below w.heap.size w w' := by
  go_enter Tryz.func50, Tryz.ntmps50
  go_wp2_with fail
  rcases ival_cases s.data.toList t.data.toList with h | ⟨x, y, h1, h2⟩
  · refine (both_no s t _ h).mono ?_
    rintro e w1 ⟨rfl, hb⟩
    have HE := Aside0.mk (cmpT_no h)
    have HB := Aside0.mk hb
    clear hb h
    go_wp2_with fail
    go_ret
    exact ⟨by rw [HE.out]; rfl, alloc2 HB.out _ _⟩
  · refine (both_yes s t x y _ h1 h2).mono ?_
    rintro e w1 ⟨v, v', rfl, hx, hy, hb⟩
    have HE := Aside0.mk (cmpT_yes h1 h2)
    have HB := Aside0.mk hb
    obtain ⟨b1, hbs1, u1, n1, rfl, hn1, hx1⟩ := hx.flag
    obtain ⟨b2, hbs2, u2, n2, rfl, hn2, hy1⟩ := hy.flag
    have hg1 : GL n1 ≤ 50 := by have := GL_ival h1; rw [hx1] at this; split at this <;> simpa using this
    have hg2 : GL n2 ≤ 50 := by have := GL_ival h2; rw [hy1] at this; split at this <;> simpa using this
    obtain ⟨A1, c1, rfl, hn1'⟩ := id hn1
    obtain ⟨A2, c2, rfl, hn2'⟩ := id hn2
    have HN1 := Aside0.mk hn1
    have HN2 := Aside0.mk hn2
    have HG1 := Aside0.mk (Nat.le_trans hg1 (show 50 ≤ 1000 by omega))
    have HG2 := Aside0.mk (Nat.le_trans hg2 (show 50 ≤ 1000 by omega))
    have HX := Aside0.mk hx1
    have HY := Aside0.mk hy1
    have HI1 := Aside0.mk hbs1
    have HI2 := Aside0.mk hbs2
    clear hb h1 h2 hbs1 hbs2 hx1 hy1 hn1 hn2 hn1' hn2' hg1 hg2
    cases b1 <;> cases b2
    · go_wp2_with fail
      refine (ncmp_calls _ _ n1 n2 _ (HN1.out.below (alloc2' w1 _ _)) (HN2.out.below (alloc2' w1 _ _)) HG1.out HG2.out).mono ?_
      rintro e W3 ⟨rfl, hb3⟩
      have HB3 := Aside0.mk (HB.out.trans (((alloc2' w1 _ _).trans (hb3.mono (alloc2' w1 _ _).size)).mono HB.out.size))
      clear hb3
      go_wp2_with fail
      go_ret
      refine ⟨?_, HB3.out⟩
      rw [HE.out, HX.out, HY.out]; rfl
    · go_wp2_with fail
      go_ret
      refine ⟨?_, alloc2 HB.out _ _⟩
      have hy := HY.out
      have hpos : n2 ≠ 0 := by
        have := HI2.out; rw [HY.out] at this; simp at this; omega
      rw [HE.out, HX.out, hy]
      unfold cmpI
      rw [if_neg (by simp), if_pos (by simp; omega)]; rfl
    · go_wp2_with fail
      go_ret
      refine ⟨?_, alloc2 HB.out _ _⟩
      have hpos : n1 ≠ 0 := by
        have := HI1.out; rw [HX.out] at this; simp at this; omega
      rw [HE.out, HX.out, HY.out]
      unfold cmpI
      rw [if_pos (by simp; omega)]; rfl
    · go_wp2_with fail
      refine (ncmp_calls _ _ n2 n1 _ (HN2.out.below (alloc2' w1 _ _)) (HN1.out.below (alloc2' w1 _ _)) HG2.out HG1.out).mono ?_
      rintro e W3 ⟨rfl, hb3⟩
      have HB3 := Aside0.mk (HB.out.trans (((alloc2' w1 _ _).trans (hb3.mono (alloc2' w1 _ _).size)).mono HB.out.size))
      clear hb3
      go_wp2_with fail
      go_ret
      refine ⟨?_, HB3.out⟩
      rw [HE.out, HX.out, HY.out]
      unfold cmpI
      simp only [if_true]
      have : (if -(n1 : Int) < -(n2 : Int) then (-1 : Int) else if -(n1 : Int) > -(n2 : Int) then 1 else 0) = if (n2 : Int) < (n1 : Int) then -1 else if (n2 : Int) > (n1 : Int) then 1 else 0 := by
        by_cases k1 : (n2 : Int) < (n1 : Int)
        · rw [if_pos k1, if_pos (by omega)]
        · rw [if_neg k1, if_neg (by omega)]
          by_cases k2 : (n2 : Int) > (n1 : Int)
          · rw [if_pos k2, if_pos (by omega)]
          · rw [if_neg k2, if_neg (by omega)]
      rw [this]; rfl

end Go.Proofs.YtnhjidbjibehpaaGreatDoor.L3

/- Layer 3, walked: Gcd. -/
namespace Go.Proofs.YtnhjidbjibehpaaGreatDoor.L3
open Go.Shelf Go.RowKit Go.Proofs.YtnhjidbjibehpaaGreatDoorW.PrintWords Go.Proofs.YtnhjidbjibehpaaGreatDoorW.PrintLast Go.Proofs.YtnhjidbjibehpaaGreatDoorW.PrintMore Yd
set_option linter.unusedVariables false
set_option linter.unusedSimpArgs false
attribute [local go_sem ↓] Go.wp_at_zero Go.wp_at_succ

def igcd (x y : Int) : Int := (Nat.gcd x.natAbs y.natAbs : Int)

set_option maxRecDepth 100000 in
set_option maxHeartbeats 4000000 in
/-- Gcd -/
theorem gcd_calls (s t : ByteArray) (w : World) (hT : Tab w) :
    Calls Tryz.prog 51 #[.string s, .string t] w fun e w' => e = .returned (bin igcd s.data.toList t.data.toList) ∧ Below w.heap.size w w' := by
  have HT := Aside0.mk hT
  clear hT
  go_enter Tryz.func51, Tryz.ntmps51
  go_wp2_with fail
  rcases ival_cases s.data.toList t.data.toList with h | ⟨x, y, h1, h2⟩
  · refine (both_no s t _ h).mono ?_
    rintro e w1 ⟨rfl, hb⟩
    have HE := Aside0.mk (bin_no (f := igcd) h)
    have HB := Aside0.mk hb
    clear hb h
    go_wp2_with fail
    go_ret2
    exact ⟨by rw [HE.out]; rfl, alloc2 HB.out _ _⟩
  · refine (both_yes s t x y _ h1 h2).mono ?_
    rintro e w1 ⟨v, v', rfl, hx, hy, hb⟩
    have HE := Aside0.mk (bin_yes (f := igcd) h1 h2)
    have HB := Aside0.mk hb
    obtain ⟨b1, hbs1, u1, n1, rfl, hn1, hx1⟩ := hx.flag
    obtain ⟨b2, hbs2, u2, n2, rfl, hn2, hy1⟩ := hy.flag
    have ha1 : x.natAbs = n1 := by rw [hx1]; split <;> simp
    have ha2 : y.natAbs = n2 := by rw [hy1]; split <;> simp
    have hg1 : GL n1 ≤ 50 := by have := GL_ival h1; rwa [ha1] at this
    have hg2 : GL n2 ≤ 50 := by have := GL_ival h2; rwa [ha2] at this
    obtain ⟨A1, c1, rfl, hn1'⟩ := id hn1
    obtain ⟨A2, c2, rfl, hn2'⟩ := id hn2
    have HN1 := Aside0.mk (hn1.below (alloc2' w1 (.cells #[.bool b1, .slice A1 (bd 10000 n1).length c1] 100) (.cells #[.bool b2, .slice A2 (bd 10000 n2).length c2] 100)))
    have HN2 := Aside0.mk (hn2.below (alloc2' w1 (.cells #[.bool b1, .slice A1 (bd 10000 n1).length c1] 100) (.cells #[.bool b2, .slice A2 (bd 10000 n2).length c2] 100)))
    have HG1 := Aside0.mk hg1
    have HG2 := Aside0.mk hg2
    have HGC : Aside0 (igcd x y = (Nat.gcd n1 n2 : Int)) := ⟨by unfold igcd; rw [ha1, ha2]⟩
    have HB1 := Aside0.mk (alloc2 hb (.cells #[.bool b1, .slice A1 (bd 10000 n1).length c1] 100) (.cells #[.bool b2, .slice A2 (bd 10000 n2).length c2] 100))
    have hp := PBx.start w1 #[.bool b1, .slice A1 (bd 10000 n1).length c1] #[.bool b2, .slice A2 (bd 10000 n2).length c2]
    clear hb h1 h2 hbs1 hbs2 hx hy hx1 hy1 ha1 ha2 hn1 hn2 hn1' hn2' hg1 hg2
    go_wp2_with fail
    generalize ((w1.alloc (.cells #[.bool b1, .slice A1 (bd 10000 n1).length c1] 100)).alloc (.cells #[.bool b2, .slice A2 (bd 10000 n2).length c2] 100)) = W0 at *
    obtain ⟨c0, c1', f0, f1⟩ := pair_facts hp.p0
    obtain ⟨d0, d1, g0, g1⟩ := pair_facts hp.p1
    clear hp
    go_region_held3 (fun w' => w'.cell? ⟨w1.heap.size, 1, none⟩ = some (.slice A1 (bd 10000 n1).length c1) ∧ w'.cell? ⟨w1.heap.size + 1, 1, none⟩ = some (.slice A2 (bd 10000 n2).length c2)) (first | exact ⟨c1', d1⟩ | go_keep) (fail)
    all_goals
      clear c0 c1' f0 f1 d0 d1 g0 g1
      go_wp2_with fail
    go_loopg [9, 10] n2 (fun kq v9 v10 W => ∃ (a b : Nat) (A B : Option Addr) (c d : Nat), v9 = .slice A (bd 10000 a).length c ∧ v10 = .slice B (bd 10000 b).length d ∧ b ≤ kq ∧ Aside0 (Nm W (.slice A (bd 10000 a).length c) a) ∧ Aside0 (Nm W (.slice B (bd 10000 b).length d) b) ∧ Aside0 (GL a ≤ 50) ∧ Aside0 (GL b ≤ 50) ∧ Aside0 (Nat.gcd a b = Nat.gcd n1 n2) ∧ Aside0 (Below w.heap.size w W))
    case atStart => exact ⟨n1, n2, A1, A2, c1, c2, rfl, rfl, Nat.le_refl _, ⟨HN1.out.below (below_drew (Below.refl _ W0))⟩, ⟨HN2.out.below (below_drew (Below.refl _ W0))⟩, HG1, HG2, ⟨rfl⟩, ⟨below_drew HB1.out⟩⟩
    case round =>
      obtain ⟨a, b, A, B, c, d, rfl, rfl, hk, HA, HB', HGA, HGB, HGG, HBW⟩ := hrel
      by_cases hb0 : 0 < b
      · have hpos : 0 < (bd 10000 b).length := bd_len_pos (by omega) hb0
        have e1 : decide (0 < ((bd 10000 b).length : Int)) = true := decide_eq_true (by omega)
        have e2 : decide (0 < (bd 10000 b).length) = true := decide_eq_true hpos
        have HK := Aside0.mk hk
        have HB0 := Aside0.mk hb0
        clear hk hb0 hpos
        go_wp2_with fail
        refine (nover_calls _ _ a b _ HA.out HB'.out (Nat.le_trans HGA.out (by omega)) (Nat.le_trans HGB.out (by omega)) HB0.out).mono ?_
        rintro e W3 ⟨v3, v4, rfl, hq, hr, hb3⟩
        obtain ⟨A3, c3, rfl, hq'⟩ := id hq
        obtain ⟨A4, c4, rfl, hr'⟩ := id hr
        have HR := Aside0.mk hr
        have HB3 := Aside0.mk hb3
        clear hq hq' hr hr' hb3
        go_wp2_with fail
        go_roundg (a % b)
        case measure => have := Nat.mod_lt a HB0.out; have := HK.out; omega
        case rel =>
          refine ⟨b, a % b, B, A4, d, c4, rfl, rfl, Nat.le_refl _, ⟨HB'.out.below HB3.out⟩, HR, HGB, ⟨Nat.le_trans (bd_length_mono (by omega) (Nat.le_of_lt (Nat.mod_lt a HB0.out))) HGB.out⟩, ⟨?_⟩, ⟨HBW.out.trans (HB3.out.mono HBW.out.size)⟩⟩
          rw [← HGG.out, Nat.gcd_comm a b, Nat.gcd_rec b a, Nat.gcd_comm]
      · obtain rfl : b = 0 := by omega
        have hz : (bd 10000 0).length = 0 := by rw [bd_zero]; rfl
        rw [hz]
        have HAG : Aside0 (a = Nat.gcd n1 n2) := ⟨by rw [← HGG.out, Nat.gcd_zero_right]⟩
        have hgcd : GL a ≤ 50 := HGA.out
        obtain ⟨r, er, hr⟩ := tres_tuple (igcd x y)
        have HR := Aside0.mk hr
        clear hr hgcd
        have HAI : Aside0 ((a : Int) = igcd x y) := ⟨by rw [HGC.out, HAG.out]⟩
        go_wp2_with fail
        refine (text_calls _ (igcd x y) _ ⟨false, _, a, rfl, HA.out, by rw [← HAI.out]; rfl⟩ (HT.out.below HBW.out (Nat.le_refl _)) (by rw [← HAI.out]; exact Nat.le_trans HGA.out (by omega))).mono ?_
        rintro e W4 ⟨rfl, hb4⟩
        rw [HR.out]
        have HB4 := Aside0.mk (HBW.out.trans (hb4.mono HBW.out.size))
        clear hb4
        go_wp2_with fail
        go_ret2
        exact ⟨by rw [HE.out, HR.out]; rfl, HB4.out⟩

end Go.Proofs.YtnhjidbjibehpaaGreatDoor.L3

/- Layer 3, walked: Div. -/
namespace Go.Proofs.YtnhjidbjibehpaaGreatDoor.L3
open Go.Shelf Go.RowKit Go.Proofs.YtnhjidbjibehpaaGreatDoorW.PrintWords Go.Proofs.YtnhjidbjibehpaaGreatDoorW.PrintLast Go.Proofs.YtnhjidbjibehpaaGreatDoorW.PrintMore Yd
set_option linter.unusedVariables false
set_option linter.unusedSimpArgs false
attribute [local go_sem ↓] Go.wp_at_zero Go.wp_at_succ

def bad3 : Value := .tuple #[.string ⟨#[]⟩, .string ⟨#[]⟩, .int .i64 30]
/-- what Div returns -/
def divV (s t : List UInt8) : Value := match ival s, ival t with
  | some x, some y => if y = 0 then bad3 else if (x / y).natAbs < DL then .tuple #[.string ⟨(Lib.itoa (x / y)).toArray⟩, .string ⟨(Lib.itoa (x % y)).toArray⟩, .int .i64 0] else bad3
  | _, _ => bad3
theorem divV_no {s t : List UInt8} (h : ival s = none ∨ ival t = none) : divV s t = bad3 := by
  unfold divV
  rcases h with h | h
  · rw [h]
  · rw [h]; cases ival s <;> rfl
theorem divV_yes {s t : List UInt8} {x y : Int} (h1 : ival s = some x) (h2 : ival t = some y) : divV s t = if y = 0 then bad3 else if (x / y).natAbs < DL then .tuple #[.string ⟨(Lib.itoa (x / y)).toArray⟩, .string ⟨(Lib.itoa (x % y)).toArray⟩, .int .i64 0] else bad3 := by
  unfold divV; rw [h1, h2]

theorem tres_ok {z : Int} (h : z.natAbs < DL) : tres z = .tuple #[.string ⟨(Lib.itoa z).toArray⟩, .int .i64 0] := if_pos h
theorem tres_bad {z : Int} (h : ¬ z.natAbs < DL) : tres z = .tuple #[.string ⟨#[]⟩, .int .i64 30] := if_neg h
theorem GL_succ {n : Nat} (h : GL n ≤ 50) : GL (n + 1) ≤ 51 := by
  apply GL_lt
  have a := lt_pow_GL h
  rw [Nat.pow_succ]
  generalize 10000 ^ 50 = p at *
  omega
/-- the quotient and the remainder by sizes -/
theorem div_signs {x y : Int} {n m : Nat} {b c : Bool} (hm : 0 < m) (hx : x = if b = true then -(n : Int) else (n : Int)) (hy : y = if c = true then -(m : Int) else (m : Int)) :
    ((b = false ∨ n % m = 0) → x / y = (if (b != c) = true then -((n / m : Nat) : Int) else ((n / m : Nat) : Int)) ∧ x % y = ((n % m : Nat) : Int)) ∧
    (b = true → 0 < n % m → x / y = (if (b != c) = true then -((n / m + 1 : Nat) : Int) else ((n / m + 1 : Nat) : Int)) ∧ x % y = ((m - n % m : Nat) : Int)) := by
  have hdm := Nat.div_add_mod n m
  have hml := Nat.mod_lt n hm
  have key : ∀ q r : Int, x = y * q + r → 0 ≤ r → r < (m : Int) → x / y = q ∧ x % y = r := by
    intro q r h1 h2 h3
    rcases Int.lt_or_gt_of_ne (show y ≠ 0 by rw [hy]; split <;> omega) with hneg | hpos
    · refine (Int.ediv_emod_unique' hneg).2 ⟨by rw [h1]; omega, h2, ?_⟩
      have : -y = (m : Int) := by rw [hy] at hneg ⊢; split at hneg <;> rename_i hc <;> simp [hc] <;> omega
      omega
    · refine (Int.ediv_emod_unique hpos).2 ⟨by rw [h1]; omega, h2, ?_⟩
      have : y = (m : Int) := by rw [hy] at hpos ⊢; split at hpos <;> rename_i hc <;> simp [hc] <;> omega
      omega
  have hdi : (n : Int) = (m : Int) * ((n / m : Nat) : Int) + ((n % m : Nat) : Int) := by rw [← Int.natCast_mul, ← Int.natCast_add, hdm]
  generalize n / m = q at *
  generalize n % m = r at *
  constructor
  · intro h
    refine key _ _ ?_ (by omega) (by omega)
    rw [hx, hy, hdi]
    cases b <;> cases c <;> simp at h ⊢
    all_goals (try subst h) <;> simp [Int.neg_mul, Int.mul_neg]
  · intro hb hr
    subst hb
    refine key _ _ ?_ (by omega) (by omega)
    rw [hx, hy, hdi, Int.ofNat_sub (by omega)]
    cases c
    · simp [Int.neg_mul, Int.mul_neg, Int.mul_add]; omega
    · simp [Int.neg_mul, Int.mul_neg, Int.mul_add]; omega

set_option maxRecDepth 100000 in
set_option maxHeartbeats 4000000 in
/-- Div -/
theorem div_calls (s t : ByteArray) (w : World) (hT : Tab w) :
    Calls Tryz.prog 58 #[.string s, .string t] w fun e w' => e = .returned (divV s.data.toList t.data.toList) ∧ Below w.heap.size w w' := by
  have HT := Aside0.mk hT
  clear hT
  go_enter Tryz.func58, Tryz.ntmps58
  go_wp2_with fail
  rcases ival_cases s.data.toList t.data.toList with h | ⟨x, y, h1, h2⟩
  · refine (both_no s t _ h).mono ?_
    rintro e w1 ⟨rfl, hb⟩
    have HE := Aside0.mk (divV_no h)
    have HB := Aside0.mk hb
    clear hb h
    go_wp2_with fail
    refine bodyPost_ret (results_list (rs := [.tmp _, .tmp _, .tmp _]) rfl (by simp) (.tmp (.tmp (.tmp .nil)))) rfl ?_
    exact ⟨by rw [HE.out]; rfl, alloc2 HB.out _ _⟩
  · refine (both_yes s t x y _ h1 h2).mono ?_
    rintro e w1 ⟨v, v', rfl, hx, hy, hb⟩
    have HE := Aside0.mk (divV_yes h1 h2)
    have HB := Aside0.mk hb
    obtain ⟨b1, hbs1, u1, n1, rfl, hn1, hx1⟩ := hx.flag
    obtain ⟨b2, hbs2, u2, n2, rfl, hn2, hy1⟩ := hy.flag
    have ha1 : x.natAbs = n1 := by rw [hx1]; split <;> simp
    have ha2 : y.natAbs = n2 := by rw [hy1]; split <;> simp
    have hg1 : GL n1 ≤ 50 := by have := GL_ival h1; rwa [ha1] at this
    have hg2 : GL n2 ≤ 50 := by have := GL_ival h2; rwa [ha2] at this
    obtain ⟨A1, c1, rfl, hn1'⟩ := id hn1
    obtain ⟨A2, c2, rfl, hn2'⟩ := id hn2
    have HN1 := Aside0.mk (hn1.below (alloc2' w1 (.cells #[.bool b1, .slice A1 (bd 10000 n1).length c1] 100) (.cells #[.bool b2, .slice A2 (bd 10000 n2).length c2] 100)))
    have HN2 := Aside0.mk (hn2.below (alloc2' w1 (.cells #[.bool b1, .slice A1 (bd 10000 n1).length c1] 100) (.cells #[.bool b2, .slice A2 (bd 10000 n2).length c2] 100)))
    have HG1 := Aside0.mk hg1
    have HG2 := Aside0.mk hg2
    have HB1 := Aside0.mk (alloc2 hb (.cells #[.bool b1, .slice A1 (bd 10000 n1).length c1] 100) (.cells #[.bool b2, .slice A2 (bd 10000 n2).length c2] 100))
    have hp := PBx.start w1 #[.bool b1, .slice A1 (bd 10000 n1).length c1] #[.bool b2, .slice A2 (bd 10000 n2).length c2]
    have HX := Aside0.mk hx1
    have HY := Aside0.mk hy1
    by_cases h0 : n2 = 0
    · have hbd : (bd 10000 n2).length = 0 := by rw [h0, bd_zero]; rfl
      have hy0 : y = 0 := by rw [hy1, h0]; split <;> rfl
      have HY0 := Aside0.mk hy0
      rw [hbd] at hp ⊢
      clear hb h1 h2 hbs1 hbs2 hx hy hx1 hy1 ha1 ha2 hn1 hn2 hn1' hn2' hg1 hg2 h0 hbd hy0
      go_wp2_with fail
      refine bodyPost_ret (results_list (rs := [.tmp _, .tmp _, .tmp _]) rfl (by simp) (.tmp (.tmp (.tmp .nil)))) rfl ?_
      exact ⟨by rw [HE.out, if_pos HY0.out]; rfl, alloc2 HB.out _ _⟩
    · have hpos : 0 < (bd 10000 n2).length := bd_len_pos (by omega) (by omega)
      have b1' : (((bd 10000 n2).length : Int) == 0) = false := by rw [beq_eq_false_iff_ne]; omega
      have b2' : ((bd 10000 n2).length == 0) = false := by rw [beq_eq_false_iff_ne]; omega
      have HM0 : Aside0 (0 < n2) := ⟨by omega⟩
      have hyn : y ≠ 0 := by rw [hy1]; split <;> omega
      have HYN := Aside0.mk hyn
      have HRD := Aside0.mk (show (x % y).natAbs < DL by
        have h3 := (ival_iff.1 h2).2
        have h4 := Int.emod_nonneg x hyn
        have h5 := Int.emod_lt x hyn
        generalize DL = d at *
        omega)
      clear hb h1 h2 hbs1 hbs2 hx hy hx1 hy1 ha1 ha2 hn1 hn2 hn1' hn2' hg1 hg2 hyn h0 hpos
      go_wp2_with fail
      generalize ((w1.alloc (.cells #[.bool b1, .slice A1 (bd 10000 n1).length c1] 100)).alloc (.cells #[.bool b2, .slice A2 (bd 10000 n2).length c2] 100)) = W0 at *
      have HP0 := Aside0.mk hp
      clear hp
      refine (nover_calls _ _ n1 n2 _ HN1.out HN2.out (Nat.le_trans HG1.out (by omega)) (Nat.le_trans HG2.out (by omega)) HM0.out).mono ?_
      rintro e W3 ⟨v3, v4, rfl, hq, hr, hb3⟩
      obtain ⟨A3, c3, rfl, hq'⟩ := id hq
      obtain ⟨A4, c4, rfl, hr'⟩ := id hr
      have hp := HP0.out.next hb3
      have HQ := Aside0.mk hq
      have HR := Aside0.mk hr
      have HP := Aside0.mk hp
      obtain ⟨c0, c1', f0, f1⟩ := pair_facts hp.p0
      obtain ⟨d0, d1, g0, g1⟩ := pair_facts hp.p1
      have HGQ : Aside0 (GL (n1 / n2) ≤ 50) := ⟨Nat.le_trans (bd_length_mono (by omega) (Nat.div_le_self n1 n2)) HG1.out⟩
      have HGR : Aside0 (GL (n1 % n2) ≤ 50) := ⟨Nat.le_trans (bd_length_mono (by omega) (Nat.mod_le n1 n2)) HG1.out⟩
      have HN2' := Aside0.mk (HN2.out.below hb3)
      have hds := div_signs HM0.out HX.out HY.out
      clear hq hq' hr hr' hb3 hp
      have hlen : (0 < (bd 10000 (n1 % n2)).length) ↔ 0 < n1 % n2 := by
        constructor
        · intro h; rcases Nat.eq_zero_or_pos (n1 % n2) with h' | h'
          · rw [h', bd_zero] at h; simp at h
          · exact h'
        · exact bd_len_pos (by omega)
      have HDS := Aside0.mk hds
      have HLE := Aside0.mk hlen
      clear hds hlen
      have HBW := Aside0.mk (HB.out.trans (HP.out.bl.mono HB.out.size))
      cases b1
      · have hd1 := HDS.out.1 (.inl rfl)
        have HZQ := Aside0.mk (show x / y = if b2 = true then -((n1 / n2 : Nat) : Int) else ((n1 / n2 : Nat) : Int) by rw [hd1.1]; cases b2 <;> rfl)
        have HZR := Aside0.mk hd1.2
        clear hd1 HDS HLE
        go_wp2_with fail
        refine (text_calls _ (x / y) _ ⟨b2, _, _, rfl, HQ.out, HZQ.out⟩ (HT.out.below HBW.out (Nat.le_refl _)) (by rw [HZQ.out]; split <;> simp <;> exact Nat.le_trans HGQ.out (by omega))).mono ?_
        rintro e W5 ⟨rfl, hb5⟩
        have HB5 := Aside0.mk (HBW.out.trans (hb5.mono HBW.out.size))
        have HR5 := Aside0.mk (HR.out.below hb5)
        clear hb5
        by_cases hDL : (x / y).natAbs < DL
        · have HE' := Aside0.mk (by rw [HE.out, if_neg HYN.out, if_pos hDL] : divV s.data.toList t.data.toList = _)
          rw [tres_ok hDL]
          clear hDL
          go_wp2_with fail
          refine (text_calls _ (x % y) _ ⟨false, _, _, rfl, HR5.out, HZR.out⟩ (HT.out.below HB5.out (Nat.le_refl _)) (by rw [HZR.out]; simp; exact Nat.le_trans HGR.out (by omega))).mono ?_
          rintro e W6 ⟨rfl, hb6⟩
          rw [tres_ok HRD.out]
          have HB6 := Aside0.mk (HB5.out.trans (hb6.mono HB5.out.size))
          clear hb6
          go_wp2_with fail
          refine bodyPost_ret (results_list (rs := [.tmp _, .tmp _, .tmp _]) rfl (by simp) (.tmp (.tmp (.tmp .nil)))) rfl ?_
          exact ⟨by rw [HE'.out]; rfl, HB6.out⟩
        · have HE' := Aside0.mk (by rw [HE.out, if_neg HYN.out, if_neg hDL] : divV s.data.toList t.data.toList = _)
          rw [tres_bad hDL]
          clear hDL
          go_wp2_with fail
          refine bodyPost_ret (results_list (rs := [.tmp _, .tmp _, .tmp _]) rfl (by simp) (.tmp (.tmp (.tmp .nil)))) rfl ?_
          exact ⟨by rw [HE'.out]; rfl, HB5.out⟩
      · clear HBW
        go_upto_if 45 with (fail)
        go_cut [10, 11] from 16 (fun v10 v11 wc => ∃ (A3 A4 : Option Addr) (c3 c4 qn rn : Nat), v10 = .slice A3 (bd 10000 qn).length c3 ∧ v11 = .slice A4 (bd 10000 rn).length c4 ∧ Aside0 (Nm wc (.slice A3 (bd 10000 qn).length c3) qn) ∧ Aside0 (Nm wc (.slice A4 (bd 10000 rn).length c4) rn) ∧
          Aside0 (x / y = if (!b2) = true then -((qn : Nat) : Int) else ((qn : Nat) : Int)) ∧ Aside0 (x % y = ((rn : Nat) : Int)) ∧ Aside0 (GL qn ≤ 51) ∧ Aside0 (GL rn ≤ 50) ∧ Aside0 (PBx w1 wc #[.bool true, .slice A1 (bd 10000 n1).length c1] #[.bool b2, .slice A2 (bd 10000 n2).length c2]))
        case first =>
          have HN2W := Aside0.mk (Nm.below (w := W3) (w1 := W3.drew) HN2'.out (below_drew (Below.refl _ W3)))
          have HQW := Aside0.mk (Nm.below (w := W3) (w1 := W3.drew) HQ.out (below_drew (Below.refl _ W3)))
          have HRW := Aside0.mk (Nm.below (w := W3) (w1 := W3.drew) HR.out (below_drew (Below.refl _ W3)))
          have hmd := Nat.mod_lt n1 HM0.out
          have HML := Aside0.mk (Nat.le_of_lt hmd)
          have HGR2 : Aside0 (GL (n2 - n1 % n2) ≤ 50) := ⟨Nat.le_trans (bd_length_mono (by omega) (Nat.sub_le _ _)) HG2.out⟩
          clear hmd
          go_wp2_with fail
          · rename_i hr0
            have hr1 : 0 < n1 % n2 := HLE.out.1 (by omega)
            have hds2 := HDS.out.2 trivial hr1
            have HDS2 := Aside0.mk hds2
            clear hds2 hr1 hr0
            have HGO : Aside0 (GL 1 ≤ 1000) := ⟨Nat.le_trans (GL_lt (n := 1) (k := 1) (by omega)) (by omega)⟩
            have HPC := Aside0.mk (PBx.next (W' := W3.drew) HP.out (below_drew (Below.refl _ W3)))
            clear HP
            go_region_held3 (fun w' => w'.cell? ⟨w1.heap.size + 1, 1, none⟩ = some (.slice A2 (bd 10000 n2).length c2)) (first | exact d1 | go_keep) (first
              | (go_at_call 87; refine (one_calls _).mono ?_; rintro e W5 ⟨v5, rfl, hn5, hbx⟩; obtain ⟨A5, c5, rfl, hn5'⟩ := id hn5; have HO := Aside0.mk hn5; clear hn5 hn5'; have hp := PBx.next HPC.out hbx; clear HPC; have HPC := Aside0.mk hp; obtain ⟨d0, d1, g0, g1⟩ := pair_facts hp.p1; clear hp; (try (have hx := Nm.below HQW.out hbx; clear HQW; have HQW := Aside0.mk hx; clear hx)); (try (have hx := Nm.below HRW.out hbx; clear HRW; have HRW := Aside0.mk hx; clear hx)); (try (have hx := Nm.below HN2W.out hbx; clear HN2W; have HN2W := Aside0.mk hx; clear hx)); (try (have hx := Nm.below HPL.out hbx; clear HPL; have HPL := Aside0.mk hx; clear hx)); (try (have hx := Nm.below HMI.out hbx; clear HMI; have HMI := Aside0.mk hx; clear hx)); clear hbx)
              | (go_at_call 86; go_must (refine (nplus_calls _ _ (n1 / n2) 1 _ HQW.out HO.out (Nat.le_trans HGQ.out (by omega)) HGO.out).mono ?_); rintro e W6 ⟨v6, rfl, hn6, hbx⟩; obtain ⟨A6, c6, rfl, hn6'⟩ := id hn6; have HPL := Aside0.mk hn6; clear hn6 hn6'; have hp := PBx.next HPC.out hbx; clear HPC; have HPC := Aside0.mk hp; obtain ⟨d0, d1, g0, g1⟩ := pair_facts hp.p1; clear hp; (try (have hx := Nm.below HQW.out hbx; clear HQW; have HQW := Aside0.mk hx; clear hx)); (try (have hx := Nm.below HRW.out hbx; clear HRW; have HRW := Aside0.mk hx; clear hx)); (try (have hx := Nm.below HN2W.out hbx; clear HN2W; have HN2W := Aside0.mk hx; clear hx)); (try (have hx := Nm.below HO.out hbx; clear HO; have HO := Aside0.mk hx; clear hx)); (try (have hx := Nm.below HMI.out hbx; clear HMI; have HMI := Aside0.mk hx; clear hx)); clear hbx)
              | (go_at_call 88; refine (nminus_calls _ _ n2 (n1 % n2) _ HN2W.out HRW.out (Nat.le_trans HG2.out (by omega)) HML.out).mono ?_; rintro e W7 ⟨v7, rfl, hn7, hbx⟩; obtain ⟨A7, c7, rfl, hn7'⟩ := id hn7; have HMI := Aside0.mk hn7; clear hn7 hn7'; have hp := PBx.next HPC.out hbx; clear HPC; have HPC := Aside0.mk hp; obtain ⟨d0, d1, g0, g1⟩ := pair_facts hp.p1; clear hp; (try (have hx := Nm.below HQW.out hbx; clear HQW; have HQW := Aside0.mk hx; clear hx)); (try (have hx := Nm.below HRW.out hbx; clear HRW; have HRW := Aside0.mk hx; clear hx)); (try (have hx := Nm.below HN2W.out hbx; clear HN2W; have HN2W := Aside0.mk hx; clear hx)); (try (have hx := Nm.below HO.out hbx; clear HO; have HO := Aside0.mk hx; clear hx)); (try (have hx := Nm.below HPL.out hbx; clear HPL; have HPL := Aside0.mk hx; clear hx)); clear hbx))
            all_goals
              go_wp2_with fail
              go_meet
              case rel => exact ⟨A6, A7, c6, c7, n1 / n2 + 1, n2 - n1 % n2, rfl, rfl, HPL, HMI, ⟨by rw [HDS2.out.1]; cases b2 <;> rfl⟩, ⟨HDS2.out.2⟩, ⟨GL_succ HGQ.out⟩, HGR2, HPC⟩
          · rename_i hr0
            have hr1 : ¬ 0 < n1 % n2 := fun h => by have := HLE.out.2 h; omega
            have hds1 := HDS.out.1 (.inr (by omega))
            go_meet
            case rel => exact ⟨A3, A4, c3, c4, n1 / n2, n1 % n2, rfl, rfl, HQ, HR, ⟨by rw [hds1.1]; cases b2 <;> rfl⟩, ⟨hds1.2⟩, ⟨Nat.le_trans HGQ.out (by omega)⟩, HGR, HP⟩
        case rest =>
          obtain ⟨A3, A4, c3, c4, qn, rn, rfl, rfl, HQ, HR, HZQ, HZR, HGQ, HGR, HP⟩ := hcut
          obtain ⟨c0, c1', f0, f1⟩ := pair_facts HP.out.p0
          obtain ⟨d0, d1, g0, g1⟩ := pair_facts HP.out.p1
          have HBW := Aside0.mk (HB.out.trans (HP.out.bl.mono HB.out.size))
          go_wp2_with fail
          refine (text_calls _ (x / y) _ ⟨!b2, _, _, rfl, HQ.out, HZQ.out⟩ (HT.out.below HBW.out (Nat.le_refl _)) (by rw [HZQ.out]; split <;> simp <;> exact Nat.le_trans HGQ.out (by omega))).mono ?_
          rintro e W5 ⟨rfl, hb5⟩
          have HB5 := Aside0.mk (HBW.out.trans (hb5.mono HBW.out.size))
          have HR5 := Aside0.mk (HR.out.below hb5)
          clear hb5
          by_cases hDL : (x / y).natAbs < DL
          · have HE' := Aside0.mk (by rw [HE.out, if_neg HYN.out, if_pos hDL] : divV s.data.toList t.data.toList = _)
            rw [tres_ok hDL]
            clear hDL
            go_wp2_with fail
            refine (text_calls _ (x % y) _ ⟨false, _, _, rfl, HR5.out, HZR.out⟩ (HT.out.below HB5.out (Nat.le_refl _)) (by rw [HZR.out]; simp; exact Nat.le_trans HGR.out (by omega))).mono ?_
            rintro e W6 ⟨rfl, hb6⟩
            rw [tres_ok HRD.out]
            have HB6 := Aside0.mk (HB5.out.trans (hb6.mono HB5.out.size))
            clear hb6
            go_wp2_with fail
            refine bodyPost_ret (results_list (rs := [.tmp _, .tmp _, .tmp _]) rfl (by simp) (.tmp (.tmp (.tmp .nil)))) rfl ?_
            exact ⟨by rw [HE'.out]; rfl, HB6.out⟩
          · have HE' := Aside0.mk (by rw [HE.out, if_neg HYN.out, if_neg hDL] : divV s.data.toList t.data.toList = _)
            rw [tres_bad hDL]
            clear hDL
            go_wp2_with fail
            refine bodyPost_ret (results_list (rs := [.tmp _, .tmp _, .tmp _]) rfl (by simp) (.tmp (.tmp (.tmp .nil)))) rfl ?_
            exact ⟨by rw [HE'.out]; rfl, HB5.out⟩

end Go.Proofs.YtnhjidbjibehpaaGreatDoor.L3

/- Layer 4, walked: work.do, mul, quotient. -/
namespace Go.Proofs.YtnhjidbjibehpaaGreatDoor.L4
open Go.Shelf Go.RowKit Go.Proofs.YtnhjidbjibehpaaGreatDoorW.PrintWords Go.Proofs.YtnhjidbjibehpaaGreatDoorW.PrintLast Go.Proofs.YtnhjidbjibehpaaGreatDoorW.PrintMore Yd L3
set_option linter.unusedVariables false
set_option linter.unusedSimpArgs false
attribute [local go_sem ↓] Go.wp_at_zero Go.wp_at_succ

/-- a text and an error -/
abbrev TE := ByteArray × Int
def teV (r : TE) : Value := .tuple #[.string r.1, .int .i64 r.2]
def teI (z : Int) : TE := if z.natAbs < DL then (⟨(Lib.itoa z).toArray⟩, 0) else (⟨#[]⟩, 30)
def teBad : TE := (⟨#[]⟩, 30)
theorem tres_te (z : Int) : tres z = teV (teI z) := by unfold tres teI; split <;> rfl
/-- an operation of two integers -/
def opR (f : Int → Int → Int) (s t : ByteArray) : TE := match ival s.data.toList, ival t.data.toList with
  | some x, some y => teI (f x y)
  | _, _ => teBad
theorem bin_te (f : Int → Int → Int) (s t : ByteArray) : bin f s.data.toList t.data.toList = teV (opR f s t) := by
  unfold bin opR
  cases ival s.data.toList with
  | none => rfl
  | some x => cases ival t.data.toList with
    | none => rfl
    | some y => exact tres_te _
/-- the quotient alone -/
def quoR (s t : ByteArray) : TE := match ival s.data.toList, ival t.data.toList with
  | some x, some y => if y = 0 then teBad else teI (x / y)
  | _, _ => teBad
def remR (s t : ByteArray) : ByteArray := match ival s.data.toList, ival t.data.toList with
  | some x, some y => if y = 0 then ⟨#[]⟩ else if (x / y).natAbs < DL then ⟨(Lib.itoa (x % y)).toArray⟩ else ⟨#[]⟩
  | _, _ => ⟨#[]⟩
theorem divV_te (s t : ByteArray) : divV s.data.toList t.data.toList = .tuple #[.string (quoR s t).1, .string (remR s t), .int .i64 (quoR s t).2] := by
  unfold divV quoR remR
  cases ival s.data.toList with
  | none => rfl
  | some x => cases ival t.data.toList with
    | none => rfl
    | some y =>
      simp only []
      split
      · rfl
      · unfold teI; split <;> rfl

/-- what do returns, and the state behind it -/
def doR (b : Bool) (r : TE) : ByteArray := if b then ⟨#[]⟩ else r.1
def doB (b : Bool) (r : TE) : Bool := b || r.2 != 0
theorem doR_false (r : TE) : doR false r = r.1 := rfl
theorem doR_true (r : TE) : doR true r = ⟨#[]⟩ := rfl
theorem doB_false {r : TE} : doB false r = (r.2 != 0) := rfl
theorem doB_true (r : TE) : doB true r = true := rfl
/-- a function of two texts, called -/
def OpIs (g : Nat) (F : ByteArray → ByteArray → TE) : Prop :=
  (∀ args W, (callFunc g args).run Tryz.prog W = .ok (.enter g args) W) ∧
  ∀ s t W, Tab W → Calls Tryz.prog g #[.string s, .string t] W fun e W' => e = .returned (teV (F s t)) ∧ Below W.heap.size W W'
theorem op_add : OpIs 62 (opR (· + ·)) := ⟨enters_of Tryz.func62 (by kernel_rfl) rfl, fun s t W hT => by have h := add_calls s t W hT; rwa [bin_te] at h⟩
theorem op_sub : OpIs 73 (opR (· - ·)) := ⟨enters_of Tryz.func73 (by kernel_rfl) rfl, fun s t W hT => by have h := sub_calls s t W hT; rwa [bin_te] at h⟩
theorem op_mul : OpIs 89 (opR (· * ·)) := ⟨enters_of Tryz.func89 (by kernel_rfl) rfl, fun s t W hT => by have h := mul_calls s t W hT; rwa [bin_te] at h⟩
theorem op_gcd : OpIs 51 (opR igcd) := ⟨enters_of Tryz.func51 (by kernel_rfl) rfl, fun s t W hT => by have h := gcd_calls s t W hT; rwa [bin_te] at h⟩

set_option maxRecDepth 100000 in
set_option maxHeartbeats 4000000 in
theorem quo1_calls (s t : ByteArray) (W : World) (hT : Tab W) : Calls Tryz.prog 111 #[.string s, .string t] W fun e W' => e = .returned (teV (quoR s t)) ∧ Below W.heap.size W W' := by
  go_enter Tryz.func111, Tryz.ntmps111
  go_wp2_with fail
  refine (div_calls s t W hT).mono ?_
  rintro e w1 ⟨rfl, hb⟩
  rw [divV_te]
  have HB := Aside0.mk hb
  clear hb
  go_wp2_with fail
  go_ret2
  exact ⟨rfl, HB.out⟩
theorem op_quo : OpIs 111 quoR := ⟨enters_of Tryz.func111 (by kernel_rfl) rfl, fun s t W hT => quo1_calls s t W hT⟩

theorem grown_setB {W w1 : World} (h : Below W.heap.size W w1) (B : Nat) (v : Value) : W.grownBy (w1.setCell ⟨B, 0, none⟩ v) (some B) :=
  ⟨h.os, h.tape, h.output, by rw [World.size_setCell]; exact h.size, fun k hk hne => (Below.heap_setCell w1 ⟨B, 0, none⟩ v k (fun e => hne (by show some k = some B; rw [show k = B from e]))).trans (h.block k hk)⟩
/-- the state of a calculation -/
def Wk (W : World) (B : Nat) (b : Bool) : Prop := W.heap[B]? = some (.cells #[.bool b] 78)
theorem Wk.cell {W : World} {B : Nat} {b : Bool} (h : Wk W B b) : W.cell? ⟨B, 0, none⟩ = some (.bool b) := blk_cell h 0
theorem Wk.frozen {W : World} {B : Nat} {b : Bool} (h : Wk W B b) : W.frozen? ⟨B, 0, none⟩ = false := blk_frozen h 0

set_option maxRecDepth 100000 in
set_option maxHeartbeats 4000000 in
/-- do -/
theorem do_calls (g : Nat) (F : ByteArray → ByteArray → TE) (hF : OpIs g F) (W : World) (B : Nat) (b : Bool) (s t : ByteArray) (hw : Wk W B b) (hT : Tab W) :
    Calls Tryz.prog 84 #[.pointer (some ⟨B, 0, none⟩), .func (.func g) #[] #[], .string s, .string t] W fun e W' => e = .returned (.string (doR b (F s t))) ∧ Wk W' B (doB b (F s t)) ∧ W.grownBy W' (some B) := by
  obtain ⟨eg, hop⟩ := hF
  have HW := Aside0.mk hw
  have HT := Aside0.mk hT
  have HOP := Aside0.mk hop
  have hc := hw.cell
  have hf := hw.frozen
  clear hw hT hop
  go_enter Tryz.func84, Tryz.ntmps84
  cases b
  · go_wp2_with fail
    refine (HOP.out s t W HT.out).mono ?_
    rintro e w1 ⟨rfl, hb⟩
    unfold teV
    have hw1 : Wk w1 B false := (hb.block B (blk_lt HW.out)).trans HW.out
    have HW1 := Aside0.mk hw1
    have hc := hw1.cell
    have hf := hw1.frozen
    have HB := Aside0.mk hb
    clear hb hw1
    obtain ⟨er, her⟩ : ∃ er, (F s t).2 = er := ⟨_, rfl⟩
    rw [her]
    have HER := Aside0.mk her
    clear her
    go_wp2_with fail
    go_ret
    exact ⟨by rw [doR_false]; rfl, by rw [doB_false, HER.out]; exact blk_set HW1.out 0 _, grown_setB HB.out _ _⟩
  · go_wp2_with fail
    go_ret
    exact ⟨by rw [doR_true]; rfl, by rw [doB_true]; exact HW.out, ⟨rfl, rfl, rfl, Nat.le_refl _, fun _ _ _ => rfl⟩⟩

set_option maxRecDepth 100000 in
set_option maxHeartbeats 4000000 in
/-- mul -/
theorem wmul_calls (W : World) (B : Nat) (b : Bool) (s t : ByteArray) (hw : Wk W B b) (hT : Tab W) :
    Calls Tryz.prog 60 #[.pointer (some ⟨B, 0, none⟩), .string s, .string t] W fun e W' => e = .returned (.string (doR b (opR (· * ·) s t))) ∧ Wk W' B (doB b (opR (· * ·) s t)) ∧ W.grownBy W' (some B) := by
  have HW := Aside0.mk hw
  have HT := Aside0.mk hT
  clear hw hT
  go_enter Tryz.func60, Tryz.ntmps60
  go_wp2_with fail
  refine (do_calls _ _ op_mul W B b s t HW.out HT.out).mono ?_
  rintro e w1 ⟨rfl, hw1, hg⟩
  have HW1 := Aside0.mk hw1
  have HG := Aside0.mk hg
  clear hw1 hg
  obtain ⟨r, hr⟩ : ∃ r, doR b (opR (· * ·) s t) = r := ⟨_, rfl⟩
  rw [hr]
  go_wp2_with fail
  go_ret
  exact ⟨by rw [hr]; rfl, HW1.out, HG.out⟩

set_option maxRecDepth 100000 in
set_option maxHeartbeats 4000000 in
/-- quotient -/
theorem wquo_calls (W : World) (B : Nat) (b : Bool) (s t : ByteArray) (hw : Wk W B b) (hT : Tab W) :
    Calls Tryz.prog 85 #[.pointer (some ⟨B, 0, none⟩), .string s, .string t] W fun e W' => e = .returned (.string (doR b (quoR s t))) ∧ Wk W' B (doB b (quoR s t)) ∧ W.grownBy W' (some B) := by
  have HW := Aside0.mk hw
  have HT := Aside0.mk hT
  clear hw hT
  go_enter Tryz.func85, Tryz.ntmps85
  go_wp2_with fail
  refine (do_calls _ _ op_quo W B b s t HW.out HT.out).mono ?_
  rintro e w1 ⟨rfl, hw1, hg⟩
  have HW1 := Aside0.mk hw1
  have HG := Aside0.mk hg
  clear hw1 hg
  obtain ⟨r, hr⟩ : ∃ r, doR b (quoR s t) = r := ⟨_, rfl⟩
  rw [hr]
  go_wp2_with fail
  go_ret
  exact ⟨by rw [hr]; rfl, HW1.out, HG.out⟩

/-- rational.Valid: both integers, the denominator positive, and nothing in common -/
def rvalid (s t : List UInt8) : Bool := match ival s, ival t with
  | some p, some q => decide (0 < q) && decide (igcd p q = 1)
  | _, _ => false

end Go.Proofs.YtnhjidbjibehpaaGreatDoor.L4

/- Layer 4, walked: rational.Valid. -/
namespace Go.Proofs.YtnhjidbjibehpaaGreatDoor.L4
open Go.Shelf Go.RowKit Go.Proofs.YtnhjidbjibehpaaGreatDoorW.PrintWords Go.Proofs.YtnhjidbjibehpaaGreatDoorW.PrintLast Go.Proofs.YtnhjidbjibehpaaGreatDoorW.PrintMore Yd L3
set_option linter.unusedVariables false
set_option linter.unusedSimpArgs false
attribute [local go_sem ↓] Go.wp_at_zero Go.wp_at_succ

theorem itoa_0 : Lib.itoa 0 = [48] := by rw [itoa_pos (by omega), show (0 : Int).natAbs = 0 from rfl, decDigits_zero]
theorem ival_0 : ival [48] = some 0 := by rw [← itoa_0]; exact ival_itoa (by rw [DL_eq]; exact Nat.pow_pos (by omega))
theorem itoa_1 : Lib.itoa 1 = [49] := by
  rw [itoa_pos (by omega), show (1 : Int).natAbs = 1 from rfl, decDigits_small (by omega)]; rfl
theorem itoa_1_iff (x : Int) : Lib.itoa x = [49] ↔ x = 1 := ⟨fun h => itoa_inj (h.trans itoa_1.symm), fun h => by rw [h, itoa_1]⟩
theorem itoa_0_iff (x : Int) : Lib.itoa x = [48] ↔ x = 0 := ⟨fun h => itoa_inj (h.trans itoa_0.symm), fun h => by rw [h, itoa_0]⟩
theorem cmpT_zero {t : List UInt8} {q : Int} (h : ival t = some q) : cmpT t [48] = cmpI q 0 := cmpT_yes h ival_0
theorem igcd_lt {p q : Int} (hp : p.natAbs < DL) (hq : q.natAbs < DL) (h0 : q ≠ 0) : (igcd p q).natAbs < DL := by
  unfold igcd
  rw [Int.natAbs_natCast]
  exact Nat.lt_of_le_of_lt (Nat.gcd_le_right _ (by omega)) hq

/-- a fraction's box -/
structure RB (w W : World) (s t : ByteArray) : Prop where
  bl : Below w.heap.size w W
  p0 : W.heap[w.heap.size]? = some (.cells #[.string s, .string t] 23)
theorem RB.start (w : World) (s t : ByteArray) : RB w (w.alloc (.cells #[.string s, .string t] 23)) s t := ⟨below_alloc (Below.refl _ w) _, alloc_here w _⟩
theorem RB.next {w W W' : World} {s t : ByteArray} (h : RB w W s t) (hb : Below W.heap.size W W') : RB w W' s t := ⟨h.bl.trans (hb.mono h.bl.size), (hb.block _ (blk_lt h.p0)).trans h.p0⟩

set_option maxRecDepth 100000 in
set_option maxHeartbeats 4000000 in
/-- Valid -/
theorem rvalid_calls (s t : ByteArray) (w : World) (hT : Tab w) :
    Calls Tryz.prog 17 #[.agg #[.string s, .string t]] w fun e w' => e = .returned (.bool (rvalid s.data.toList t.data.toList)) ∧ Below w.heap.size w w' := by
  have HT := Aside0.mk hT
  clear hT
  go_enter Tryz.func17, Tryz.ntmps17
  go_wp2_with fail
  have HR0 := Aside0.mk (RB.start w s t)
  generalize w.alloc (.cells #[.string s, .string t] 23) = W0 at *
  refine (valid_calls s _).mono ?_
  rintro e w1 ⟨rfl, hb1⟩
  have HR1 := Aside0.mk (HR0.out.next hb1)
  obtain ⟨c0, c1, f0, f1⟩ := pair_facts HR1.out.p0
  clear hb1 HR0
  rw [ivalid_iff_isSome]
  cases h1 : ival s.data.toList with
  | none =>
    simp only [Option.isSome_none]
    have HE : Aside0 (rvalid s.data.toList t.data.toList = false) := ⟨by unfold rvalid; rw [h1]⟩
    clear h1
    go_wp2_with fail
    go_ret
    exact ⟨by rw [HE.out]; rfl, HR1.out.bl⟩
  | some p =>
    simp only [Option.isSome_some]
    have H1 := Aside0.mk h1
    clear h1
    go_wp2_with fail
    refine (valid_calls t _).mono ?_
    rintro e w2 ⟨rfl, hb2⟩
    have HR2 := Aside0.mk (HR1.out.next hb2)
    obtain ⟨c0, c1, f0, f1⟩ := pair_facts HR2.out.p0
    clear hb2 HR1
    rw [ivalid_iff_isSome]
    cases h2 : ival t.data.toList with
    | none =>
      simp only [Option.isSome_none]
      have HE : Aside0 (rvalid s.data.toList t.data.toList = false) := ⟨by unfold rvalid; rw [h2]; cases ival s.data.toList <;> rfl⟩
      clear h2
      go_wp2_with fail
      go_ret
      exact ⟨by rw [HE.out]; rfl, HR2.out.bl⟩
    | some q =>
      simp only [Option.isSome_some]
      have H2 := Aside0.mk h2
      have HC := Aside0.mk (cmpT_zero h2)
      have HE : Aside0 (rvalid s.data.toList t.data.toList = (decide (0 < q) && decide (igcd p q = 1))) := ⟨by unfold rvalid; rw [H1.out, h2]⟩
      clear h2
      go_wp2_with fail
      refine (compare_calls t ⟨#[48]⟩ _).mono ?_
      rintro e w3 ⟨rfl, hb3⟩
      have HR3 := Aside0.mk (HR2.out.next hb3)
      obtain ⟨c0, c1, f0, f1⟩ := pair_facts HR3.out.p0
      clear hb3 HR2
      rw [HC.out]
      by_cases hq : 0 < q
      · have e1 : decide (cmpI q 0 ≤ 0) = false := decide_eq_false (by unfold cmpI; split <;> (try split) <;> omega)
        have HQ := Aside0.mk hq
        obtain ⟨cc, hcc⟩ : ∃ cc, cmpI q 0 = cc := ⟨_, rfl⟩
        rw [hcc] at e1 ⊢
        clear hcc hq
        go_wp2_with fail
        refine (gcd_calls s t _ (HT.out.below HR3.out.bl (Nat.le_refl _))).mono ?_
        rintro e w4 ⟨rfl, hb4⟩
        have HB4 := Aside0.mk (HR3.out.bl.trans (hb4.mono HR3.out.bl.size))
        rw [bin_yes H1.out H2.out, tres_ok (igcd_lt (ival_iff.1 H1.out).2 (ival_iff.1 H2.out).2 (by have := HQ.out; omega))]
        clear hb4 HR3 c0 c1 f0 f1
        have HG := Aside0.mk (itoa_1_iff (igcd p q))
        obtain ⟨g, hg⟩ : ∃ g, Lib.itoa (igcd p q) = g := ⟨_, rfl⟩
        rw [hg] at HG ⊢
        have e2 : ((0 : Int) == 0) = true := rfl
        clear hg
        go_wp2_with fail
        go_ret
        refine ⟨?_, HB4.out⟩
        rw [HE.out, decide_eq_true HQ.out, Bool.true_and]
        have : (g == [49]) = decide (igcd p q = 1) := by
          rw [Bool.eq_iff_iff, beq_iff_eq, decide_eq_true_iff]; exact HG.out
        rw [← this]; rfl
      · have e1 : decide (cmpI q 0 ≤ 0) = true := decide_eq_true (by unfold cmpI; split <;> (try split) <;> omega)
        have HQ := Aside0.mk hq
        obtain ⟨cc, hcc⟩ : ∃ cc, cmpI q 0 = cc := ⟨_, rfl⟩
        rw [hcc] at e1 ⊢
        clear hcc hq
        go_wp2_with fail
        go_ret
        exact ⟨by rw [HE.out, decide_eq_false (Int.not_lt.2 HQ.out)]; rfl, HR3.out.bl⟩

end Go.Proofs.YtnhjidbjibehpaaGreatDoor.L4

/- Layer 4, walked: work.reduced. -/
namespace Go.Proofs.YtnhjidbjibehpaaGreatDoor.L4
open Go.Shelf Go.RowKit Go.Proofs.YtnhjidbjibehpaaGreatDoorW.PrintWords Go.Proofs.YtnhjidbjibehpaaGreatDoorW.PrintLast Go.Proofs.YtnhjidbjibehpaaGreatDoorW.PrintMore Yd L3
set_option linter.unusedVariables false
set_option linter.unusedSimpArgs false
attribute [local go_sem ↓] Go.wp_at_zero Go.wp_at_succ

/-- an integer's text -/
def tx (x : Int) : ByteArray := ⟨(Lib.itoa x).toArray⟩
theorem tx_data (x : Int) : (tx x).data.toList = Lib.itoa x := by simp [tx]
theorem tx_list (x : Int) : (tx x).toList = Lib.itoa x := by rw [Lib.toList_data, tx_data]
theorem tx_of {s : ByteArray} {x : Int} (h : ival s.data.toList = some x) : s = tx x ∧ x.natAbs < DL := ⟨ba_ext (by rw [tx_data]; exact (ival_iff.1 h).1), (ival_iff.1 h).2⟩
theorem ival_tx {x : Int} (h : x.natAbs < DL) : ival (tx x).data.toList = some x := by rw [tx_data]; exact ival_itoa h
theorem tx_0 : tx 0 = ⟨#[48]⟩ := by unfold tx; rw [itoa_0]
theorem tx_1 : tx 1 = ⟨#[49]⟩ := by unfold tx; rw [itoa_1]
theorem DL_pos : 0 < DL := by rw [DL_eq]; exact Nat.pow_pos (by omega)
theorem DL_one : 1 < DL := by rw [DL_eq]; exact Nat.one_lt_pow (by omega) (by omega)
theorem teI_ok {z : Int} (h : z.natAbs < DL) : teI z = (tx z, 0) := if_pos h
theorem opR_tx (f : Int → Int → Int) {x y : Int} (hx : x.natAbs < DL) (hy : y.natAbs < DL) : opR f (tx x) (tx y) = teI (f x y) := by unfold opR; rw [ival_tx hx, ival_tx hy]
theorem quoR_tx {x y : Int} (hx : x.natAbs < DL) (hy : y.natAbs < DL) (h0 : y ≠ 0) : quoR (tx x) (tx y) = teI (x / y) := by unfold quoR; rw [ival_tx hx, ival_tx hy]; exact if_neg h0
theorem div_lt {x y : Int} (hx : x.natAbs < DL) : (x / y).natAbs < DL := Nat.lt_of_le_of_lt (Int.natAbs_ediv_le_natAbs x y) hx

def ratV (s t : ByteArray) (e : Int) : Value := .tuple #[.agg #[.string s, .string t], .int .i64 e]
def badR : Value := ratV ⟨#[]⟩ ⟨#[]⟩ 40
/-- numerator and denominator in lowest terms -/
def nn (x y : Int) : Int := (if y < 0 then -x else x) / igcd x y
def dd (x y : Int) : Int := (if y < 0 then -y else y) / igcd x y
def mkV (x y : Int) : Value := if y = 0 then badR else ratV (tx (nn x y)) (tx (dd x y)) 0
theorem igcd_pos {x y : Int} (h : y ≠ 0) : 0 < igcd x y := by
  unfold igcd
  have : 0 < Nat.gcd x.natAbs y.natAbs := Nat.gcd_pos_of_pos_right _ (by omega)
  omega
theorem igcd_neg (x y : Int) : igcd (-x) (-y) = igcd x y := by unfold igcd; rw [Int.natAbs_neg, Int.natAbs_neg]

set_option maxRecDepth 100000 in
set_option maxHeartbeats 4000000 in
/-- reduced, when something has failed -/
theorem red_bad (W : World) (B : Nat) (s t : ByteArray) (hw : Wk W B true) :
    Calls Tryz.prog 57 #[.pointer (some ⟨B, 0, none⟩), .string s, .string t] W fun e W' => e = .returned badR ∧ Below W.heap.size W W' := by
  have hc := hw.cell
  have hf := hw.frozen
  have hlt := blk_lt hw
  clear hw
  go_enter Tryz.func57, Tryz.ntmps57
  go_wp2_with fail
  refine bodyPost_ret (results_list (rs := [.cell _ _, .tmp _]) rfl (by simp) (.cell W.heap.size 23 _ (0, 0) _ rfl (alloc_here W _) Tryz.underlying23 rfl (by kernel_rfl) (.tmp .nil))) rfl ?_
  exact ⟨rfl, below_alloc (Below.refl _ W) _⟩

/-- the state of reduced: the result's box, and the calculation's -/
structure RS (W0 W : World) (B : Nat) (b : Bool) (s t : ByteArray) : Prop where
  gb : W0.grownBy W (some B)
  wk : Wk W B b
  rb : W.heap[W0.heap.size]? = some (.cells #[.string s, .string t] 23)
theorem grown_trans {W0 W W' : World} {B : Nat} (h : W0.grownBy W (some B)) (k : W.grownBy W' (some B)) : W0.grownBy W' (some B) :=
  ⟨k.os.trans h.os, k.tape.trans h.tape, k.output.trans h.output, Nat.le_trans h.size k.size, fun i hi hne => (k.block i (Nat.lt_of_lt_of_le hi h.size) hne).trans (h.block i hi hne)⟩
theorem RS.start {W0 : World} {B : Nat} {b : Bool} (hw : Wk W0 B b) : RS W0 (W0.alloc (.cells #[.string ⟨#[]⟩, .string ⟨#[]⟩] 23)) B b ⟨#[]⟩ ⟨#[]⟩ :=
  ⟨⟨rfl, rfl, rfl, by rw [World.size_alloc]; omega, fun k hk _ => alloc_old W0 _ hk⟩, (alloc_old W0 _ (blk_lt hw)).trans hw, alloc_here W0 _⟩
theorem RS.next {W0 W W' : World} {B : Nat} {b b' : Bool} {s t : ByteArray} (h : RS W0 W B b s t) (hB : B < W0.heap.size) (hw : Wk W' B b') (hg : W.grownBy W' (some B)) : RS W0 W' B b' s t :=
  ⟨grown_trans h.gb hg, hw, (hg.block _ (blk_lt h.rb) (by intro e; injection e with e; omega)).trans h.rb⟩
theorem RS.same {W0 W W' : World} {B : Nat} {b : Bool} {s t : ByteArray} (h : RS W0 W B b s t) (hB : B < W0.heap.size) (hb : Below W.heap.size W W') : RS W0 W' B b s t :=
  h.next hB ((hb.block _ (blk_lt h.wk)).trans h.wk) (grown_of_below hb _)
theorem RS.set {W0 W : World} {B : Nat} {b : Bool} {s t s' t' : ByteArray} (h : RS W0 W B b s t) (hB : B < W0.heap.size) : RS W0 ((W.setCell ⟨W0.heap.size, 0, none⟩ (.string s')).setCell ⟨W0.heap.size, 1, none⟩ (.string t')) B b s' t' := by
  have h1 := h.gb
  refine ⟨⟨h1.os, h1.tape, h1.output, by simpa using h1.size, fun k hk hne => ?_⟩, ?_, blk_set (blk_set h.rb 0 (.string s')) 1 _⟩
  · exact ((Below.heap_setCell _ ⟨W0.heap.size, 1, none⟩ _ k (by show k ≠ W0.heap.size; omega)).trans (Below.heap_setCell _ ⟨W0.heap.size, 0, none⟩ _ k (by show k ≠ W0.heap.size; omega))).trans (h1.block k hk hne)
  · exact ((Below.heap_setCell _ ⟨W0.heap.size, 1, none⟩ _ B (by show B ≠ W0.heap.size; omega)).trans (Below.heap_setCell _ ⟨W0.heap.size, 0, none⟩ _ B (by show B ≠ W0.heap.size; omega))).trans h.wk
theorem Tab.grown {w W W' : World} {B : Nat} (h : Tab w) (hb : Below w.heap.size w W) (hB : w.heap.size ≤ B) (hg : W.grownBy W' (some B)) : Tab W' :=
  h.below (hb.grown hg hb.size (fun k e => by injection e with e; omega)) (Nat.le_refl _)

set_option maxRecDepth 100000 in
set_option maxHeartbeats 4000000 in
/-- reduced -/
theorem red_calls (w W : World) (B : Nat) (x y : Int) (hw : Wk W B false) (hx : x.natAbs < DL) (hy : y.natAbs < DL) (hT : Tab w) (hb : Below w.heap.size w W) (hB : w.heap.size ≤ B) :
    Calls Tryz.prog 57 #[.pointer (some ⟨B, 0, none⟩), .string (tx x), .string (tx y)] W fun e W' => e = .returned (mkV x y) ∧ W.grownBy W' (some B) := by
  have hlt : B < W.heap.size := blk_lt hw
  have HRS := Aside0.mk (RS.start hw)
  have HX := Aside0.mk hx
  have HY := Aside0.mk hy
  have HTB : Aside0 (∀ W' : World, W.grownBy W' (some B) → Tab W') := ⟨fun W' hg => Tab.grown hT hb hB hg⟩
  have HLT := Aside0.mk hlt
  have hc := hw.cell
  have hf := hw.frozen
  clear hw hx hy hT hb hB
  go_enter Tryz.func57, Tryz.ntmps57
  by_cases hy0 : y = 0
  · have e1 : ((tx y).toList == [48]) = true := by rw [tx_list, hy0, itoa_0]; rfl
    have HE : Aside0 (mkV x y = badR) := ⟨if_pos hy0⟩
    clear hy0
    generalize tx y = ty at *
    go_wp2_with fail
    refine bodyPost_ret (results_list (rs := [.cell _ _, .tmp _]) rfl (by simp) (.cell W.heap.size 23 _ (0, 0) _ rfl HRS.out.rb Tryz.underlying23 rfl (by kernel_rfl) (.tmp .nil))) rfl ?_
    exact ⟨by rw [HE.out]; rfl, HRS.out.gb⟩
  · have e1 : ((tx y).toList == [48]) = false := by rw [tx_list, beq_eq_false_iff_ne]; exact fun h => hy0 ((itoa_0_iff y).1 h)
    have HY0 := Aside0.mk hy0
    clear hy0
    go_wp2_with fail
    generalize W.alloc (.cells #[.string ⟨#[]⟩, .string ⟨#[]⟩] 23) = W1 at *
    refine (compare_calls (tx y) ⟨#[48]⟩ _).mono ?_
    rintro e W2 ⟨rfl, hb2⟩
    have hr2 := HRS.out.same HLT.out hb2
    have HR2 := Aside0.mk hr2
    have hc := hr2.wk.cell
    have hf := hr2.wk.frozen
    have hcc := cmpT_zero (ival_tx HY.out)
    have HCC : Aside0 (cmpT (tx y).data.toList [48] < 0 ↔ y < 0) := ⟨by rw [hcc]; unfold cmpI; split <;> (try split) <;> omega⟩
    clear hb2 hr2 hcc HRS
    have hl : (⟨#[48]⟩ : ByteArray).data.toList = [48] := rfl
    rw [hl]
    clear hl
    obtain ⟨cc, hcc⟩ : ∃ cc, cmpT (tx y).data.toList [48] = cc := ⟨_, rfl⟩
    rw [hcc] at HCC ⊢
    clear hcc
    go_upto_if 21 with (fail)
    go_cut [1, 2] from 10 (fun v1 v2 wc => ∃ x' y' : Int, v1 = .string (tx x') ∧ v2 = .string (tx y') ∧ Aside0 (x' = if y < 0 then -x else x) ∧ Aside0 (y' = if y < 0 then -y else y) ∧ Aside0 (RS W wc B false ⟨#[]⟩ ⟨#[]⟩))
    case first =>
      have hs1 : opR (· - ·) ⟨#[48]⟩ (tx x) = (tx (-x), 0) := by rw [← tx_0, opR_tx _ (by simpa using DL_pos) HX.out, show (0 : Int) - x = -x by omega, teI_ok (by rw [Int.natAbs_neg]; exact HX.out)]
      have hs2 : opR (· - ·) ⟨#[48]⟩ (tx y) = (tx (-y), 0) := by rw [← tx_0, opR_tx _ (by simpa using DL_pos) HY.out, show (0 : Int) - y = -y by omega, teI_ok (by rw [Int.natAbs_neg]; exact HY.out)]
      have HS1 := Aside0.mk hs1
      have HS2 := Aside0.mk hs2
      clear hs1 hs2
      go_wp2_with fail
      · have HYN := Aside0.mk (HCC.out.1 (by assumption))
        refine (do_calls _ _ op_sub W2 B false _ _ HR2.out.wk (HTB.out _ HR2.out.gb)).mono ?_
        rintro e W3 ⟨rfl, hw3, hg3⟩
        rw [HS1.out] at hw3 ⊢
        have hr3 := HR2.out.next (b' := false) HLT.out hw3 hg3
        have HR3 := Aside0.mk hr3
        rw [show doR false (tx (-x), 0) = tx (-x) from rfl]
        clear hw3 hg3 hr3
        go_wp2_with fail
        refine (do_calls _ _ op_sub W3 B false _ _ HR3.out.wk (HTB.out _ HR3.out.gb)).mono ?_
        rintro e W4 ⟨rfl, hw4, hg4⟩
        rw [HS2.out] at hw4 ⊢
        have hr4 := HR3.out.next (b' := false) HLT.out hw4 hg4
        have HR4 := Aside0.mk hr4
        rw [show doR false (tx (-y), 0) = tx (-y) from rfl]
        clear hw4 hg4 hr4
        go_wp2_with fail
        go_meet
        case rel => exact ⟨-x, -y, rfl, rfl, ⟨by rw [if_pos HYN.out]⟩, ⟨by rw [if_pos HYN.out]⟩, HR4⟩
      · have HYN : Aside0 (¬ y < 0) := ⟨fun h => by have := HCC.out.2 h; omega⟩
        go_meet
        case rel => exact ⟨x, y, rfl, rfl, ⟨by rw [if_neg HYN.out]⟩, ⟨by rw [if_neg HYN.out]⟩, HR2⟩
    case rest =>
      obtain ⟨x', y', rfl, rfl, HX', HY', HR3⟩ := hcut
      have hx' : x'.natAbs < DL := by rw [HX'.out]; split <;> (try rw [Int.natAbs_neg]) <;> exact HX.out
      have hy' : y'.natAbs < DL := by rw [HY'.out]; split <;> (try rw [Int.natAbs_neg]) <;> exact HY.out
      have hy0' : y' ≠ 0 := by have := HY0.out; rw [HY'.out]; split <;> omega
      have hgg : igcd x' y' = igcd x y := by rw [HX'.out, HY'.out]; split; exact igcd_neg x y; rfl
      have hg0 : igcd x' y' ≠ 0 := by have := igcd_pos (x := x') hy0'; omega
      have hgl := igcd_lt hx' hy' hy0'
      have HO1 : Aside0 (opR igcd (tx x') (tx y') = (tx (igcd x' y'), 0)) := ⟨by rw [opR_tx _ hx' hy', teI_ok hgl]⟩
      have HO2 : Aside0 (quoR (tx x') (tx (igcd x' y')) = (tx (x' / igcd x' y'), 0)) := ⟨by rw [quoR_tx hx' hgl hg0, teI_ok (div_lt hx')]⟩
      have HO3 : Aside0 (quoR (tx y') (tx (igcd x' y')) = (tx (y' / igcd x' y'), 0)) := ⟨by rw [quoR_tx hy' hgl hg0, teI_ok (div_lt hy')]⟩
      have HE : Aside0 (mkV x y = ratV (tx (x' / igcd x' y')) (tx (y' / igcd x' y')) 0) := ⟨by unfold mkV nn dd; rw [if_neg HY0.out, hgg, HX'.out, HY'.out]⟩
      clear hx' hy' hy0' hgg hg0 hgl HX' HY'
      have hc := HR3.out.wk.cell
      have hf := HR3.out.wk.frozen
      go_wp2_with fail
      refine (do_calls _ _ op_gcd wc B false _ _ HR3.out.wk (HTB.out _ HR3.out.gb)).mono ?_
      rintro e W4 ⟨rfl, hw4, hg4⟩
      rw [HO1.out] at hw4 ⊢
      have hr4 := HR3.out.next (b' := false) HLT.out hw4 hg4
      have HR4 := Aside0.mk hr4
      rw [show doR false (tx (igcd x' y'), 0) = tx (igcd x' y') from rfl]
      clear hw4 hg4 hr4
      go_wp2_with fail
      refine (wquo_calls _ B false _ _ HR4.out.wk (HTB.out _ HR4.out.gb)).mono ?_
      rintro e W5 ⟨rfl, hw5, hg5⟩
      rw [HO2.out] at hw5 ⊢
      have hr5 := HR4.out.next (b' := false) HLT.out hw5 hg5
      have HR5 := Aside0.mk hr5
      rw [show doR false (tx (x' / igcd x' y'), 0) = tx (x' / igcd x' y') from rfl]
      clear hw5 hg5 hr5
      go_wp2_with fail
      refine (wquo_calls _ B false _ _ HR5.out.wk (HTB.out _ HR5.out.gb)).mono ?_
      rintro e W6 ⟨rfl, hw6, hg6⟩
      rw [HO3.out] at hw6 ⊢
      have hr6 := HR5.out.next (b' := false) HLT.out hw6 hg6
      have HR6 := Aside0.mk hr6
      rw [show doR false (tx (y' / igcd x' y'), 0) = tx (y' / igcd x' y') from rfl]
      have hr7 := hr6.same HLT.out (below_alloc (Below.refl _ W6) (.cells #[.string (tx (x' / igcd x' y')), .string (tx (y' / igcd x' y'))] 23))
      have HR7 := Aside0.mk hr7
      have hc := hr7.wk.cell
      have hf := hr7.wk.frozen
      obtain ⟨k0, k1, m0, m1⟩ := pair_facts hr7.rb
      clear hw6 hg6 hr6 hr7
      go_wp2_with fail
      have HR8 := Aside0.mk (HR7.out.set (s' := tx (x' / igcd x' y')) (t' := tx (y' / igcd x' y')) HLT.out)
      refine bodyPost_ret (results_list (rs := [.cell _ _, .tmp _]) rfl (by simp) (.cell W.heap.size 23 _ (0, 0) _ rfl HR8.out.rb Tryz.underlying23 rfl (by kernel_rfl) (.tmp .nil))) rfl ?_
      exact ⟨by rw [HE.out]; rfl, HR8.out.gb⟩

end Go.Proofs.YtnhjidbjibehpaaGreatDoor.L4
