/- Plain laws of fractions: rounding to a grid; sizes. No program in this text. -/
import Derived.Test.YtnhjidbjibehpaaGreatDoorRlaw
namespace Yd
open Go.Lib

/-- at most ten to a power -/
def Pw (i : Nat) (x : Int) : Prop := x.natAbs ≤ 10 ^ i
theorem Pw.mul {i j : Nat} {x y : Int} (h1 : Pw i x) (h2 : Pw j y) : Pw (i + j) (x * y) := by
  unfold Pw at *; rw [Int.natAbs_mul, Nat.pow_add]; exact Nat.mul_le_mul h1 h2
theorem Pw.mono {i j : Nat} {x : Int} (h : Pw i x) (hij : i ≤ j) : Pw j x := Nat.le_trans h (Nat.pow_le_pow_right (by omega) hij)
theorem Pw.add {i : Nat} {x y : Int} (h1 : Pw i x) (h2 : Pw i y) : Pw (i + 1) (x + y) := by
  unfold Pw at *; rw [Nat.pow_succ]
  have := Int.natAbs_add_le x y
  omega
theorem Pw.neg {i : Nat} {x : Int} (h : Pw i x) : Pw i (-x) := by unfold Pw at *; rwa [Int.natAbs_neg]
theorem Pw.sub {i : Nat} {x y : Int} (h1 : Pw i x) (h2 : Pw i y) : Pw (i + 1) (x - y) := by
  rw [Int.sub_eq_add_neg]; exact h1.add h2.neg
theorem Pw.sm {i : Nat} {x : Int} (h : Pw i x) (hi : i < 200) : sm x = true := by
  rw [sm_iff, DL_eq]; exact Nat.lt_of_le_of_lt h (Nat.pow_lt_pow_right (by omega) hi)
theorem Pw.pow (k : Nat) : Pw k ((10 : Int) ^ k) := by unfold Pw; rw [Int.natAbs_pow]; exact Nat.le_refl _
theorem Pw.one : Pw 0 1 := Nat.le_refl _
theorem Pw.zero (i : Nat) : Pw i 0 := Nat.zero_le _
theorem Pw.of_lt {i : Nat} {x : Int} (h : x.natAbs < 10 ^ i) : Pw i x := Nat.le_of_lt h
/-- both parts at most ten to a power -/
def Pr (i j : Nat) (r : Rat) : Prop := Pw i r.num ∧ Pw j r.den
theorem Pr.divInt {i j : Nat} {x y : Int} (h1 : Pw i x) (h2 : Pw j y) : Pr i j (Rat.divInt x y) := by
  refine ⟨Nat.le_trans divInt_num_le h1, ?_⟩
  by_cases h : y = 0
  · subst h; rw [Rat.divInt_zero]; show 1 ≤ 10 ^ j; exact Nat.pow_pos (by omega)
  · exact Nat.le_trans (divInt_den_le h) h2
theorem Pr.neg {i j : Nat} {r : Rat} (h : Pr i j r) : Pr i j (-r) := ⟨h.1.neg, h.2⟩

theorem radd_fits {a b : Rat} {i j k l : Nat} (ha : Pr i j a) (hb : Pr k l b) (h : i + l < 199) (h2 : k + j < 199) (h3 : j + l < 200) : radd a b = some (a + b) := by
  unfold radd
  have e1 := ha.1.mul hb.2
  have e2 := hb.1.mul ha.2
  have e3 := ha.2.mul hb.2
  have e4 := (e1.mono (j := max (i + l) (k + j)) (by omega)).add (e2.mono (by omega))
  rw [e1.sm (by omega), e2.sm (by omega), e3.sm h3, e4.sm (by omega)]; rfl
theorem rsub_fits {a b : Rat} {i j k l : Nat} (ha : Pr i j a) (hb : Pr k l b) (h : i + l < 199) (h2 : k + j < 199) (h3 : j + l < 200) : rsub a b = some (a - b) := by
  unfold rsub
  have e1 := ha.1.mul hb.2
  have e2 := hb.1.mul ha.2
  have e3 := ha.2.mul hb.2
  have e4 := (e1.mono (j := max (i + l) (k + j)) (by omega)).sub (e2.mono (by omega))
  rw [e1.sm (by omega), e2.sm (by omega), e3.sm h3, e4.sm (by omega)]; rfl
theorem rmul_fits {a b : Rat} {i j k l : Nat} (ha : Pr i j a) (hb : Pr k l b) (h : i + k < 200) (h3 : j + l < 200) : rmul a b = some (a * b) := by
  unfold rmul
  rw [(ha.1.mul hb.1).sm h, (ha.2.mul hb.2).sm h3]; rfl
theorem rdiv_fits {a b : Rat} {i j k l : Nat} (ha : Pr i j a) (hb : Pr k l b) (h : i + l < 200) (h3 : j + k < 200) (h0 : b ≠ 0) : rdiv a b = some (a / b) := by
  unfold rdiv
  rw [(ha.1.mul hb.2).sm h, (ha.2.mul hb.1).sm h3, decide_eq_true h0]; rfl

theorem sgn_mul_pos {x t : Int} (h : 0 < t) : sgn (x * t) = sgn x := by
  unfold sgn
  by_cases h1 : x < 0
  · rw [if_pos h1, if_pos (Int.mul_neg_of_neg_of_pos h1 h)]
  · by_cases h2 : 0 < x
    · have := Int.mul_pos h2 h
      rw [if_neg h1, if_pos h2, if_neg (by omega), if_pos this]
    · have : x = 0 := by omega
      subst this; simp
theorem divInt_cross {m t : Int} (ht : t ≠ 0) : (Rat.divInt m t).num * t = m * (Rat.divInt m t).den :=
  (Rat.divInt_eq_divInt_iff (by have := rat_pos (Rat.divInt m t); omega) ht).1 (divInt_self_rat _)
theorem rcmp_divInt {m t : Int} (ht : 0 < t) (r : Rat) : rcmp (Rat.divInt m t) r = sgn (m * r.den - r.num * t) := by
  unfold rcmp
  have h := divInt_cross (m := m) (show t ≠ 0 by omega)
  have hp := rat_pos (Rat.divInt m t)
  rw [← sgn_mul_pos (t := t) ht, ← sgn_mul_pos (x := m * r.den - r.num * t) (t := (Rat.divInt m t).den) hp]
  congr 1
  grind

theorem pow10_pos (k : Nat) : (0 : Int) < 10 ^ k := Int.pow_pos (by omega)
theorem gq_pos (r : Rat) : (0 : Int) < r.den := rat_pos r

/-- the quotient below, and above -/
def gq (up : Bool) (r : Rat) (k : Nat) : Int := r.num * 10 ^ k / r.den + if up && decide (r.num * 10 ^ k % r.den ≠ 0) then 1 else 0
theorem rgrid_eq {up : Bool} {r : Rat} {k : Nat} {i j : Nat} (h : Pr i j r) (hk : i + k < 200) : rgrid up r k = some (Rat.divInt (gq up r k) (10 ^ k)) := by
  unfold rgrid gq
  rw [(h.1.mul (Pw.pow k)).sm hk]; rfl
theorem gq_pw {up : Bool} {r : Rat} {k : Nat} {i j : Nat} (h : Pr i j r) : Pw (i + k + 1) (gq up r k) := by
  have h1 : Pw (i + k) (r.num * 10 ^ k / r.den) := Nat.le_trans (Int.natAbs_ediv_le_natAbs _ _) (h.1.mul (Pw.pow k))
  have h2 : Pw (i + k) (if up && decide (r.num * 10 ^ k % r.den ≠ 0) then 1 else 0) := by
    split
    · exact Pw.one.mono (by omega)
    · exact Pw.zero _
  exact h1.add h2
theorem gq_pr {up : Bool} {r : Rat} {k : Nat} {i j : Nat} (h : Pr i j r) : Pr (i + k + 1) k (Rat.divInt (gq up r k) (10 ^ k)) := Pr.divInt (gq_pw h) (Pw.pow k)
/-- on the grid, rounding changes nothing -/
theorem gq_on (up : Bool) (m : Int) (k : Nat) : gq up (Rat.divInt m (10 ^ k)) k = m := by
  have h := divInt_cross (m := m) (show (10 : Int) ^ k ≠ 0 by have := pow10_pos k; omega)
  have hp := rat_pos (Rat.divInt m (10 ^ k))
  unfold gq
  rw [h, Int.mul_emod_left, Int.mul_ediv_cancel _ (by omega)]
  simp
theorem gq_bounds (r : Rat) (k : Nat) : gq false r k * r.den ≤ r.num * 10 ^ k ∧ r.num * 10 ^ k ≤ gq true r k * r.den := by
  unfold gq
  have hp := rat_pos r
  generalize r.num * 10 ^ k = n
  generalize (r.den : Int) = d at *
  have h1 := Int.emod_add_mul_ediv n d
  have h2 := Int.emod_nonneg n (show d ≠ 0 by omega)
  have h3 := Int.emod_lt_of_pos n hp
  generalize n % d = s at *
  generalize n / d = q at *
  constructor
  · simp; grind
  · by_cases hs : s = 0
    · simp [hs]; grind
    · simp [hs]; grind
theorem gq_neg (r : Rat) (k : Nat) : gq false (-r) k = -gq true r k := by
  unfold gq
  have hp := rat_pos r
  have e : (-r).num * 10 ^ k = -(r.num * 10 ^ k) := by rw [Rat.neg_num, Int.neg_mul]
  have e2 : (-r).den = r.den := rfl
  rw [e, e2]
  generalize r.num * 10 ^ k = n
  generalize (r.den : Int) = d at *
  simp only [Bool.false_and, Bool.true_and]
  have h0 : ((-n) / d : Int) = -(n / d) - if n % d = 0 then 0 else 1 := by
    have h1 := Int.emod_add_mul_ediv n d
    have h2 := Int.emod_nonneg n (show d ≠ 0 by omega)
    have h3 := Int.emod_lt_of_pos n hp
    by_cases hs : n % d = 0
    · rw [if_pos hs]
      rw [hs] at h1
      have : -n = -(n / d) * d := by rw [Int.neg_mul, Int.mul_comm (n / d)]; omega
      rw [this, Int.mul_ediv_cancel _ (by omega)]; omega
    · rw [if_neg hs]
      have : -n = (d - n % d) + d * (-(n / d) - 1) := by
        rw [Int.mul_sub, Int.mul_neg]; omega
      rw [this, Int.add_mul_ediv_left _ _ (by omega), Int.ediv_eq_zero_of_lt (by omega) (by omega)]; omega
  rw [h0]
  by_cases hs : n % d = 0
  · simp [hs]
  · simp [hs]; omega
def gex (r : Rat) (k : Nat) : Bool := decide (r.num * 10 ^ k % r.den = 0)
theorem gq_up (r : Rat) (k : Nat) : gq true r k = gq false r k + if gex r k then 0 else 1 := by
  unfold gq gex
  by_cases h : r.num * 10 ^ k % r.den = 0 <;> simp [h]
theorem grid_down_le (r : Rat) (k : Nat) : rcmp (Rat.divInt (gq false r k) (10 ^ k)) r ≤ 0 := by
  rw [rcmp_divInt (pow10_pos k)]
  have := (gq_bounds r k).1
  unfold sgn; split <;> (try split) <;> omega
theorem grid_up_ge (r : Rat) (k : Nat) : 0 ≤ rcmp (Rat.divInt (gq true r k) (10 ^ k)) r := by
  rw [rcmp_divInt (pow10_pos k)]
  have := (gq_bounds r k).2
  unfold sgn; split <;> (try split) <;> omega
theorem sgn_zero {x : Int} : sgn x = 0 ↔ x = 0 := by
  unfold sgn; split
  · exact ⟨fun h => by omega, fun h => by omega⟩
  · split
    · exact ⟨fun h => by omega, fun h => by omega⟩
    · exact ⟨fun _ => by omega, fun _ => rfl⟩
theorem grid_exact (r : Rat) (k : Nat) : rcmp (Rat.divInt (gq false r k) (10 ^ k)) r = 0 ↔ gex r k = true := by
  rw [rcmp_divInt (pow10_pos k), sgn_zero]
  unfold gq gex
  simp only [Bool.false_and, decide_eq_true_iff]
  have h1 := Int.emod_add_mul_ediv (r.num * 10 ^ k) r.den
  generalize r.num * 10 ^ k = n at *
  have h4 := Int.mul_comm (n / r.den) r.den
  have h5 : (n / (r.den : Int) + (if (false : Bool) = true then 1 else 0)) * r.den = n / r.den * r.den := by simp
  rw [h5]
  omega
theorem grid_exact_up (r : Rat) (k : Nat) : rcmp (Rat.divInt (gq true r k) (10 ^ k)) r = 0 ↔ gex r k = true := by
  have h := gq_neg r k
  have h1 := grid_exact (-r) k
  have h2 : gex (-r) k = gex r k := by
    unfold gex
    have e : (-r).num * 10 ^ k = -(r.num * 10 ^ k) := by rw [Rat.neg_num, Int.neg_mul]
    rw [e, show (-r).den = r.den from rfl]
    simp only [decide_eq_decide]
    rw [← Int.dvd_iff_emod_eq_zero, ← Int.dvd_iff_emod_eq_zero, Int.dvd_neg]
  rw [h2, h, ← Rat.neg_divInt] at h1
  rw [← h1, rcmp_eq, rcmp_eq]
  constructor
  · intro h; rw [h]
  · intro h; exact by rw [← Rat.neg_neg (Rat.divInt _ _), h, Rat.neg_neg]
theorem sub_divInt_same {m n t : Int} (ht : t ≠ 0) : Rat.divInt m t - Rat.divInt n t = Rat.divInt (m - n) t := by
  rw [Rat.divInt_sub_divInt _ _ ht ht, show m * t - n * t = (m - n) * t by rw [Int.sub_mul], Rat.divInt_mul_right ht]
theorem grid_width (r : Rat) (k : Nat) : Rat.divInt (gq true r k) (10 ^ k) - Rat.divInt (gq false r k) (10 ^ k) = if gex r k then 0 else Rat.divInt 1 (10 ^ k) := by
  rw [sub_divInt_same (by have := pow10_pos k; omega), gq_up]
  split
  · rw [show gq false r k + 0 - gq false r k = 0 by omega, Rat.zero_divInt]
  · rw [show gq false r k + 1 - gq false r k = 1 by omega]
theorem grid_int (m : Int) (k : Nat) : Rat.divInt m (10 ^ k) * Rat.divInt (10 ^ k) 1 = Rat.divInt m 1 := by
  have := pow10_pos k
  have h := Rat.divInt_mul_right (n := m) (d := 1) (a := (10 : Int) ^ k) (by omega)
  rw [Rat.divInt_mul_divInt, Int.mul_comm ((10 : Int) ^ k) 1]
  exact h

end Yd
