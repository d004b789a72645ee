/- Plain laws of fractions: rounding to a grid; sizes. No program in this text. -/
import Derived.Test.YtnhjidbjibehpaaGreatDoorZk
import Derived.ScopeJumps
import Derived.WalkMore
import Derived.RowKit
import Derived.Lib.Strings
namespace Yd
open Go.Lib

/-- at most ten to a power -/
def Pw (i : Nat) (x : Int) : Prop := x.natAbs ≤ 10 ^ i
theorem Pw.mul {i j : Nat} {x y : Int} (h1 : Pw i x) (h2 : Pw j y) : Pw (i + j) (x * y) := by
  unfold Pw at *; rw [Int.natAbs_mul, Nat.pow_add]; exact Nat.mul_le_mul h1 h2
theorem Pw.mono {i j : Nat} {x : Int} (h : Pw i x) (hij : i ≤ j) : Pw j x := Nat.le_trans h (Nat.pow_le_pow_right (by omega) hij)
theorem Pw.add {i : Nat} {x y : Int} (h1 : Pw i x) (h2 : Pw i y) : Pw (i + 1) (x + y) := by
  unfold Pw at *; rw [Nat.pow_succ]
  have := Int.natAbs_add_le x y
  omega
theorem Pw.neg {i : Nat} {x : Int} (h : Pw i x) : Pw i (-x) := by unfold Pw at *; rwa [Int.natAbs_neg]
theorem Pw.sub {i : Nat} {x y : Int} (h1 : Pw i x) (h2 : Pw i y) : Pw (i + 1) (x - y) := by
  rw [Int.sub_eq_add_neg]; exact h1.add h2.neg
theorem Pw.sm {i : Nat} {x : Int} (h : Pw i x) (hi : i < 200) : sm x = true := by
  rw [sm_iff, DL_eq]; exact Nat.lt_of_le_of_lt h (Nat.pow_lt_pow_right (by omega) hi)
theorem Pw.pow (k : Nat) : Pw k ((10 : Int) ^ k) := by unfold Pw; rw [Int.natAbs_pow]; exact Nat.le_refl _
theorem Pw.one : Pw 0 1 := Nat.le_refl _
theorem Pw.zero (i : Nat) : Pw i 0 := Nat.zero_le _
theorem Pw.of_lt {i : Nat} {x : Int} (h : x.natAbs < 10 ^ i) : Pw i x := Nat.le_of_lt h
/-- both parts at most ten to a power -/
def Pr (i j : Nat) (r : Rat) : Prop := Pw i r.num ∧ Pw j r.den
theorem Pr.divInt {i j : Nat} {x y : Int} (h1 : Pw i x) (h2 : Pw j y) : Pr i j (Rat.divInt x y) := by
  refine ⟨Nat.le_trans divInt_num_le h1, ?_⟩
  by_cases h : y = 0
  · subst h; rw [Rat.divInt_zero]; show 1 ≤ 10 ^ j; exact Nat.pow_pos (by omega)
  · exact Nat.le_trans (divInt_den_le h) h2
theorem Pr.neg {i j : Nat} {r : Rat} (h : Pr i j r) : Pr i j (-r) := ⟨h.1.neg, h.2⟩

theorem radd_fits {a b : Rat} {i j k l : Nat} (ha : Pr i j a) (hb : Pr k l b) (h : i + l < 199) (h2 : k + j < 199) (h3 : j + l < 200) : radd a b = some (a + b) := by
  unfold radd
  have e1 := ha.1.mul hb.2
  have e2 := hb.1.mul ha.2
  have e3 := ha.2.mul hb.2
  have e4 := (e1.mono (j := max (i + l) (k + j)) (by omega)).add (e2.mono (by omega))
  rw [e1.sm (by omega), e2.sm (by omega), e3.sm h3, e4.sm (by omega)]; rfl
theorem rsub_fits {a b : Rat} {i j k l : Nat} (ha : Pr i j a) (hb : Pr k l b) (h : i + l < 199) (h2 : k + j < 199) (h3 : j + l < 200) : rsub a b = some (a - b) := by
  unfold rsub
  have e1 := ha.1.mul hb.2
  have e2 := hb.1.mul ha.2
  have e3 := ha.2.mul hb.2
  have e4 := (e1.mono (j := max (i + l) (k + j)) (by omega)).sub (e2.mono (by omega))
  rw [e1.sm (by omega), e2.sm (by omega), e3.sm h3, e4.sm (by omega)]; rfl
theorem rmul_fits {a b : Rat} {i j k l : Nat} (ha : Pr i j a) (hb : Pr k l b) (h : i + k < 200) (h3 : j + l < 200) : rmul a b = some (a * b) := by
  unfold rmul
  rw [(ha.1.mul hb.1).sm h, (ha.2.mul hb.2).sm h3]; rfl
theorem sgn_mul_pos {x t : Int} (h : 0 < t) : sgn (x * t) = sgn x := by
  unfold sgn
  by_cases h1 : x < 0
  · rw [if_pos h1, if_pos (Int.mul_neg_of_neg_of_pos h1 h)]
  · by_cases h2 : 0 < x
    · have := Int.mul_pos h2 h
      rw [if_neg h1, if_pos h2, if_neg (by omega), if_pos this]
    · have : x = 0 := by omega
      subst this; simp
theorem divInt_cross {m t : Int} (ht : t ≠ 0) : (Rat.divInt m t).num * t = m * (Rat.divInt m t).den :=
  (Rat.divInt_eq_divInt_iff (by have := rat_pos (Rat.divInt m t); omega) ht).1 (divInt_self_rat _)
theorem rcmp_divInt {m t : Int} (ht : 0 < t) (r : Rat) : rcmp (Rat.divInt m t) r = sgn (m * r.den - r.num * t) := by
  unfold rcmp
  have h := divInt_cross (m := m) (show t ≠ 0 by omega)
  have hp := rat_pos (Rat.divInt m t)
  rw [← sgn_mul_pos (t := t) ht, ← sgn_mul_pos (x := m * r.den - r.num * t) (t := (Rat.divInt m t).den) hp]
  congr 1
  grind

theorem pow10_pos (k : Nat) : (0 : Int) < 10 ^ k := Int.pow_pos (by omega)
/-- the quotient below, and above -/
def gq (up : Bool) (r : Rat) (k : Nat) : Int := r.num * 10 ^ k / r.den + if up && decide (r.num * 10 ^ k % r.den ≠ 0) then 1 else 0
theorem rgrid_eq {up : Bool} {r : Rat} {k : Nat} {i j : Nat} (h : Pr i j r) (hk : i + k < 200) : rgrid up r k = some (Rat.divInt (gq up r k) (10 ^ k)) := by
  unfold rgrid gq
  rw [(h.1.mul (Pw.pow k)).sm hk]; rfl
theorem gq_pw {up : Bool} {r : Rat} {k : Nat} {i j : Nat} (h : Pr i j r) : Pw (i + k + 1) (gq up r k) := by
  have h1 : Pw (i + k) (r.num * 10 ^ k / r.den) := Nat.le_trans (Int.natAbs_ediv_le_natAbs _ _) (h.1.mul (Pw.pow k))
  have h2 : Pw (i + k) (if up && decide (r.num * 10 ^ k % r.den ≠ 0) then 1 else 0) := by
    split
    · exact Pw.one.mono (by omega)
    · exact Pw.zero _
  exact h1.add h2
theorem gq_pr {up : Bool} {r : Rat} {k : Nat} {i j : Nat} (h : Pr i j r) : Pr (i + k + 1) k (Rat.divInt (gq up r k) (10 ^ k)) := Pr.divInt (gq_pw h) (Pw.pow k)
/-- on the grid, rounding changes nothing -/
theorem gq_on (up : Bool) (m : Int) (k : Nat) : gq up (Rat.divInt m (10 ^ k)) k = m := by
  have h := divInt_cross (m := m) (show (10 : Int) ^ k ≠ 0 by have := pow10_pos k; omega)
  have hp := rat_pos (Rat.divInt m (10 ^ k))
  unfold gq
  rw [h, Int.mul_emod_left, Int.mul_ediv_cancel _ (by omega)]
  simp
theorem gq_bounds (r : Rat) (k : Nat) : gq false r k * r.den ≤ r.num * 10 ^ k ∧ r.num * 10 ^ k ≤ gq true r k * r.den := by
  unfold gq
  have hp := rat_pos r
  generalize r.num * 10 ^ k = n
  generalize (r.den : Int) = d at *
  have h1 := Int.emod_add_mul_ediv n d
  have h2 := Int.emod_nonneg n (show d ≠ 0 by omega)
  have h3 := Int.emod_lt_of_pos n hp
  generalize n % d = s at *
  generalize n / d = q at *
  constructor
  · simp; grind
  · by_cases hs : s = 0
    · simp [hs]; grind
    · simp [hs]; grind
theorem gq_neg (r : Rat) (k : Nat) : gq false (-r) k = -gq true r k := by
  unfold gq
  have hp := rat_pos r
  have e : (-r).num * 10 ^ k = -(r.num * 10 ^ k) := by rw [Rat.neg_num, Int.neg_mul]
  have e2 : (-r).den = r.den := rfl
  rw [e, e2]
  generalize r.num * 10 ^ k = n
  generalize (r.den : Int) = d at *
  simp only [Bool.false_and, Bool.true_and]
  have h0 : ((-n) / d : Int) = -(n / d) - if n % d = 0 then 0 else 1 := by
    have h1 := Int.emod_add_mul_ediv n d
    have h2 := Int.emod_nonneg n (show d ≠ 0 by omega)
    have h3 := Int.emod_lt_of_pos n hp
    by_cases hs : n % d = 0
    · rw [if_pos hs]
      rw [hs] at h1
      have : -n = -(n / d) * d := by rw [Int.neg_mul, Int.mul_comm (n / d)]; omega
      rw [this, Int.mul_ediv_cancel _ (by omega)]; omega
    · rw [if_neg hs]
      have : -n = (d - n % d) + d * (-(n / d) - 1) := by
        rw [Int.mul_sub, Int.mul_neg]; omega
      rw [this, Int.add_mul_ediv_left _ _ (by omega), Int.ediv_eq_zero_of_lt (by omega) (by omega)]; omega
  rw [h0]
  by_cases hs : n % d = 0
  · simp [hs]
  · simp [hs]; omega
def gex (r : Rat) (k : Nat) : Bool := decide (r.num * 10 ^ k % r.den = 0)
theorem gq_up (r : Rat) (k : Nat) : gq true r k = gq false r k + if gex r k then 0 else 1 := by
  unfold gq gex
  by_cases h : r.num * 10 ^ k % r.den = 0 <;> simp [h]
theorem grid_down_le (r : Rat) (k : Nat) : rcmp (Rat.divInt (gq false r k) (10 ^ k)) r ≤ 0 := by
  rw [rcmp_divInt (pow10_pos k)]
  have := (gq_bounds r k).1
  unfold sgn; split <;> (try split) <;> omega
theorem grid_up_ge (r : Rat) (k : Nat) : 0 ≤ rcmp (Rat.divInt (gq true r k) (10 ^ k)) r := by
  rw [rcmp_divInt (pow10_pos k)]
  have := (gq_bounds r k).2
  unfold sgn; split <;> (try split) <;> omega
theorem sgn_zero {x : Int} : sgn x = 0 ↔ x = 0 := by
  unfold sgn; split
  · exact ⟨fun h => by omega, fun h => by omega⟩
  · split
    · exact ⟨fun h => by omega, fun h => by omega⟩
    · exact ⟨fun _ => by omega, fun _ => rfl⟩
theorem grid_exact (r : Rat) (k : Nat) : rcmp (Rat.divInt (gq false r k) (10 ^ k)) r = 0 ↔ gex r k = true := by
  rw [rcmp_divInt (pow10_pos k), sgn_zero]
  unfold gq gex
  simp only [Bool.false_and, decide_eq_true_iff]
  have h1 := Int.emod_add_mul_ediv (r.num * 10 ^ k) r.den
  generalize r.num * 10 ^ k = n at *
  have h4 := Int.mul_comm (n / r.den) r.den
  have h5 : (n / (r.den : Int) + (if (false : Bool) = true then 1 else 0)) * r.den = n / r.den * r.den := by simp
  rw [h5]
  omega
theorem grid_exact_up (r : Rat) (k : Nat) : rcmp (Rat.divInt (gq true r k) (10 ^ k)) r = 0 ↔ gex r k = true := by
  have h := gq_neg r k
  have h1 := grid_exact (-r) k
  have h2 : gex (-r) k = gex r k := by
    unfold gex
    have e : (-r).num * 10 ^ k = -(r.num * 10 ^ k) := by rw [Rat.neg_num, Int.neg_mul]
    rw [e, show (-r).den = r.den from rfl]
    simp only [decide_eq_decide]
    rw [← Int.dvd_iff_emod_eq_zero, ← Int.dvd_iff_emod_eq_zero, Int.dvd_neg]
  rw [h2, h, ← Rat.neg_divInt] at h1
  rw [← h1, rcmp_eq, rcmp_eq]
  constructor
  · intro h; rw [h]
  · intro h; exact by rw [← Rat.neg_neg (Rat.divInt _ _), h, Rat.neg_neg]
theorem sub_divInt_same {m n t : Int} (ht : t ≠ 0) : Rat.divInt m t - Rat.divInt n t = Rat.divInt (m - n) t := by
  rw [Rat.divInt_sub_divInt _ _ ht ht, show m * t - n * t = (m - n) * t by rw [Int.sub_mul], Rat.divInt_mul_right ht]
theorem grid_width (r : Rat) (k : Nat) : Rat.divInt (gq true r k) (10 ^ k) - Rat.divInt (gq false r k) (10 ^ k) = if gex r k then 0 else Rat.divInt 1 (10 ^ k) := by
  rw [sub_divInt_same (by have := pow10_pos k; omega), gq_up]
  split
  · rw [show gq false r k + 0 - gq false r k = 0 by omega, Rat.zero_divInt]
  · rw [show gq false r k + 1 - gq false r k = 1 by omega]
theorem grid_int (m : Int) (k : Nat) : Rat.divInt m (10 ^ k) * Rat.divInt (10 ^ k) 1 = Rat.divInt m 1 := by
  have := pow10_pos k
  have h := Rat.divInt_mul_right (n := m) (d := 1) (a := (10 : Int) ^ k) (by omega)
  rw [Rat.divInt_mul_divInt, Int.mul_comm ((10 : Int) ^ k) 1]
  exact h

end Yd

/- Layer 4: what the operations return, in rational numbers. -/
namespace Go.Proofs.YtnhjidbjibehpaaGreatDoor.L4
open Go.Shelf Go.RowKit Go.Proofs.YtnhjidbjibehpaaGreatDoorW.PrintWords Go.Proofs.YtnhjidbjibehpaaGreatDoorW.PrintLast Go.Proofs.YtnhjidbjibehpaaGreatDoorW.PrintMore Yd L3

/-- a fraction, or an error, as it is returned -/
def ratO (o : Option Rat) : Value := match o with
  | some r => ratV (tx r.num) (tx r.den) 0
  | none => badR
theorem ratO_some (r : Rat) : ratO (some r) = ratV (tx r.num) (tx r.den) 0 := rfl
theorem nn_eq (x y : Int) (h : y ≠ 0) : nn x y = (Rat.divInt x y).num := by
  rw [Rat.num_divInt]
  unfold nn igcd
  rw [show y.gcd x = Nat.gcd x.natAbs y.natAbs from Nat.gcd_comm _ _]
  congr 1
  split
  · rename_i h; rw [Int.sign_eq_neg_one_of_neg h]; omega
  · rw [Int.sign_eq_one_of_pos (by omega)]; omega
theorem dd_eq (x y : Int) (h : y ≠ 0) : dd x y = ((Rat.divInt x y).den : Int) := by
  rw [Rat.den_divInt, if_neg h]
  unfold dd igcd
  rw [show y.gcd x = Nat.gcd x.natAbs y.natAbs from Nat.gcd_comm _ _, Int.natCast_ediv]
  congr 1
  split <;> omega
theorem mkV_ratO (x y : Int) : mkV x y = ratO (mk2 x y) := by
  unfold mkV mk2
  split
  · rfl
  · rename_i h
    rw [nn_eq x y h, dd_eq x y h]; rfl
theorem mkT_ratO (s t : List UInt8) : mkT s t = ratO (mkO s t) := by
  unfold mkT mkO
  cases ival s with
  | none => rfl
  | some x => cases ival t with
    | none => rfl
    | some y => exact mkV_ratO x y
theorem rvalid_rval (s t : List UInt8) : rvalid s t = (rval s t).isSome := by
  unfold rvalid rval
  cases ival s with
  | none => rfl
  | some x => cases ival t with
    | none => rfl
    | some y =>
      simp only []
      have e : decide (igcd x y = 1) = decide (Nat.gcd x.natAbs y.natAbs = 1) := by
        unfold igcd; rw [decide_eq_decide]; omega
      rw [e, ← Bool.decide_and]
      split
      · rename_i h; rw [decide_eq_true h]; rfl
      · rename_i h; rw [decide_eq_false h]; rfl

/-- a fraction of two texts -/
def rvalB (s t : ByteArray) : Option Rat := rval s.data.toList t.data.toList
theorem rvalB_eq {s t : ByteArray} {r : Rat} (h : rvalB s t = some r) : s = tx r.num ∧ t = tx r.den ∧ RL r := by
  obtain ⟨h1, h2, h3⟩ := rval_eq h
  exact ⟨ba_ext (by rw [tx_data]; exact h1), ba_ext (by rw [tx_data]; exact h2), h3⟩
theorem rvalB_tx {r : Rat} (h : RL r) : rvalB (tx r.num) (tx r.den) = some r := by
  unfold rvalB; rw [tx_data, tx_data]; exact rval_rat h

theorem doB_te (b : Bool) (z : Int) : doB b (teI z) = (b || !sm z) := by
  unfold doB teI sm
  by_cases h : z.natAbs < DL
  · rw [if_pos h, decide_eq_true h]; rfl
  · rw [if_neg h, decide_eq_false h]; rfl
theorem doR_te {z : Int} (h : sm z = true) : doR false (teI z) = tx z := by rw [doR_false, teI_ok (sm_iff.1 h)]
theorem fin_ok {x y : Int} (hx : sm x = true) (hy : sm y = true) : finV false (tx x) (tx y) = ratO (mk2 x y) := by
  unfold finV; rw [mkT_tx (sm_iff.1 hx) (sm_iff.1 hy)]; exact mkV_ratO x y
theorem den_lt {r : Rat} (h : RL r) : (r.den : Int).natAbs < DL := by simpa using h.2

theorem flag_bad {s1 t1 s2 t2 : ByteArray} (h : rvalB s1 t1 = none ∨ rvalB s2 t2 = none) : (false || !rvalid s1.data.toList t1.data.toList || !rvalid s2.data.toList t2.data.toList) = true := by
  rw [rvalid_rval, rvalid_rval]
  unfold rvalB at h
  rcases h with h | h <;> rw [h] <;> simp
theorem flag_ok {s1 t1 s2 t2 : ByteArray} {a b : Rat} (h1 : rvalB s1 t1 = some a) (h2 : rvalB s2 t2 = some b) : (false || !rvalid s1.data.toList t1.data.toList || !rvalid s2.data.toList t2.data.toList) = false := by
  rw [rvalid_rval, rvalid_rval]
  unfold rvalB at h1 h2
  rw [h1, h2]; rfl
theorem rb_cases (f : Rat → Rat → Option Rat) (x y : Option Rat) : ((x = none ∨ y = none) ∧ rbin f x y = none) ∨ ∃ a b, x = some a ∧ y = some b ∧ rbin f x y = f a b := by
  cases x with
  | none => exact .inl ⟨.inl rfl, rfl⟩
  | some a => cases y with
    | none => exact .inl ⟨.inr rfl, rfl⟩
    | some b => exact .inr ⟨a, b, rfl, rfl, rfl⟩

theorem rmulV_eq (s1 t1 s2 t2 : ByteArray) : rmulV s1 t1 s2 t2 = ratO (rbin rmul (rvalB s1 t1) (rvalB s2 t2)) := by
  unfold rmulV
  rcases rb_cases rmul (rvalB s1 t1) (rvalB s2 t2) with ⟨h, e⟩ | ⟨a, b, h1, h2, e⟩
  · rw [flag_bad h, e]; rfl
  · rw [flag_ok h1 h2, e]
    obtain ⟨rfl, rfl, ha⟩ := rvalB_eq h1
    obtain ⟨rfl, rfl, hb⟩ := rvalB_eq h2
    rw [opR_tx _ ha.1 hb.1, opR_tx _ (den_lt ha) (den_lt hb), doB_te, doB_te]
    unfold rmul
    cases h1 : sm (a.num * b.num)
    · rfl
    · cases h2 : sm ((a.den : Int) * b.den)
      · rfl
      · simp only [Bool.not_true, Bool.or_false, Bool.and_true, if_true]
        have := rat_pos a
        have := rat_pos b
        have h0 : (a.den : Int) * b.den ≠ 0 := Int.mul_ne_zero (by omega) (by omega)
        rw [doR_te h1, doR_te h2, fin_ok h1 h2, mk2, if_neg h0, mul_divInt]
theorem rdivV_eq (s1 t1 s2 t2 : ByteArray) : rdivV s1 t1 s2 t2 = ratO (rbin rdiv (rvalB s1 t1) (rvalB s2 t2)) := by
  unfold rdivV
  rcases rb_cases rdiv (rvalB s1 t1) (rvalB s2 t2) with ⟨h, e⟩ | ⟨a, b, h1, h2, e⟩
  · rw [flag_bad h, e]; rfl
  · rw [flag_ok h1 h2, e]
    obtain ⟨rfl, rfl, ha⟩ := rvalB_eq h1
    obtain ⟨rfl, rfl, hb⟩ := rvalB_eq h2
    rw [opR_tx _ ha.1 (den_lt hb), opR_tx _ (den_lt ha) hb.1, doB_te, doB_te]
    unfold rdiv
    cases h1 : sm (a.num * b.den)
    · rfl
    · cases h2 : sm ((a.den : Int) * b.num)
      · rfl
      · simp only [Bool.not_true, Bool.or_false, Bool.true_and]
        have := rat_pos a
        rw [doR_te h1, doR_te h2, fin_ok h1 h2, mk2]
        by_cases hb0 : b = 0
        · rw [if_pos (by rw [hb0]; simp)]; simp [hb0]
        · have hn : b.num ≠ 0 := fun h => hb0 (Rat.num_eq_zero.1 h)
          have h0 : (a.den : Int) * b.num ≠ 0 := Int.mul_ne_zero (by omega) hn
          rw [if_neg h0, div_divInt]; simp [hb0]
theorem rsumV_eq (f : Int → Int → Int) (F : Rat → Rat → Option Rat) (G : Rat → Rat → Rat) (s1 t1 s2 t2 : ByteArray)
    (hF : ∀ a b, F a b = if sm (a.num * b.den) && sm (b.num * a.den) && sm (a.den * b.den) && sm (f (a.num * b.den) (b.num * a.den)) then some (G a b) else none)
    (hG : ∀ a b : Rat, Rat.divInt (f (a.num * b.den) (b.num * a.den)) (a.den * b.den) = G a b) : rsumV f s1 t1 s2 t2 = ratO (rbin F (rvalB s1 t1) (rvalB s2 t2)) := by
  unfold rsumV
  rcases rb_cases F (rvalB s1 t1) (rvalB s2 t2) with ⟨h, e⟩ | ⟨a, b, h1, h2, e⟩
  · simp only []
    rw [flag_bad h, e]; rfl
  · simp only []
    rw [flag_ok h1 h2, e, hF]
    obtain ⟨rfl, rfl, ha⟩ := rvalB_eq h1
    obtain ⟨rfl, rfl, hb⟩ := rvalB_eq h2
    rw [opR_tx _ ha.1 (den_lt hb), opR_tx _ hb.1 (den_lt ha), opR_tx _ (den_lt ha) (den_lt hb)]
    have te1 : ∀ z, ((teI z).2 != 0) = !sm z := fun z => by have := doB_te false z; rw [Bool.false_or] at this; exact this
    rw [te1, te1]
    cases h1 : sm (a.num * b.den)
    · rfl
    · cases h2 : sm (b.num * a.den)
      · rfl
      · simp only [Bool.not_true, Bool.or_false, Bool.true_and]
        have e1 := doR_te h1
        have e2 := doR_te h2
        rw [doR_false] at e1 e2
        rw [e1, e2, opR_tx _ (sm_iff.1 h1) (sm_iff.1 h2), doB_te, doB_te]
        cases h3 : sm (f (a.num * b.den) (b.num * a.den))
        · simp only [Bool.and_false]; rfl
        · cases h4 : sm ((a.den : Int) * b.den)
          · rfl
          · simp only [Bool.not_true, Bool.or_false, Bool.and_true, if_true]
            have := rat_pos a
            have := rat_pos b
            have h0 : (a.den : Int) * b.den ≠ 0 := Int.mul_ne_zero (by omega) (by omega)
            rw [doR_te h3, doR_te h4, fin_ok h3 h4, mk2, if_neg h0, hG]
theorem raddV_eq (s1 t1 s2 t2 : ByteArray) : rsumV (· + ·) s1 t1 s2 t2 = ratO (rbin radd (rvalB s1 t1) (rvalB s2 t2)) := rsumV_eq _ radd (· + ·) _ _ _ _ (fun _ _ => rfl) add_divInt
theorem rsubV_eq (s1 t1 s2 t2 : ByteArray) : rsumV (· - ·) s1 t1 s2 t2 = ratO (rbin rsub (rvalB s1 t1) (rvalB s2 t2)) := rsumV_eq _ rsub (· - ·) _ _ _ _ (fun _ _ => rfl) sub_divInt

end Go.Proofs.YtnhjidbjibehpaaGreatDoor.L4

/- Layer 4, walked: Compare. -/
namespace Go.Proofs.YtnhjidbjibehpaaGreatDoor.L4
open Go.Shelf Go.RowKit Go.Proofs.YtnhjidbjibehpaaGreatDoorW.PrintWords Go.Proofs.YtnhjidbjibehpaaGreatDoorW.PrintLast Go.Proofs.YtnhjidbjibehpaaGreatDoorW.PrintMore Yd L3
set_option linter.unusedVariables false
set_option linter.unusedSimpArgs false
attribute [local go_sem ↓] Go.wp_at_zero Go.wp_at_succ

/-- two boxes -/
structure R2 (w W : World) (s1 t1 s2 t2 : ByteArray) : Prop where
  bl : Below w.heap.size w W
  pa : W.heap[w.heap.size]? = some (.cells #[.string s1, .string t1] 23)
  pb : W.heap[w.heap.size + 1]? = some (.cells #[.string s2, .string t2] 23)
theorem R2.next {w W W' : World} {s1 t1 s2 t2 : ByteArray} (h : R2 w W s1 t1 s2 t2) (hb : Below W.heap.size W W') : R2 w W' s1 t1 s2 t2 :=
  ⟨h.bl.trans (hb.mono h.bl.size), (hb.block _ (blk_lt h.pa)).trans h.pa, (hb.block _ (blk_lt h.pb)).trans h.pb⟩
theorem R2.start (w : World) (s1 t1 s2 t2 : ByteArray) : R2 w ((w.alloc (.cells #[.string s1, .string t1] 23)).alloc (.cells #[.string s2, .string t2] 23)) s1 t1 s2 t2 := by
  have h1 := alloc_here w (.cells #[.string s1, .string t1] 23)
  have e : w.heap.size + 1 = (w.alloc (.cells #[.string s1, .string t1] 23)).heap.size := by simp only [World.size_alloc]
  refine ⟨(((Below.refl _ w).alloc (Nat.le_refl _) _).alloc (by simp only [World.size_alloc]; omega) _), ?_, ?_⟩
  · exact ((below_alloc (Below.refl _ _) _).block _ (by rw [← e]; omega)).trans h1
  · rw [e]; exact alloc_here _ _
/-- what a round of comparing starts from -/
structure CN (n d m c sg v : Int) : Prop where
  d1 : divV (tx n).data.toList (tx d).data.toList = .tuple #[.string (tx (n / d)), .string (tx (n % d)), .int .i64 0]
  d2 : divV (tx m).data.toList (tx c).data.toList = .tuple #[.string (tx (m / c)), .string (tx (m % c)), .int .i64 0]
  cases : (cmpT (tx (n / d)).data.toList (tx (m / c)).data.toList = -1 ∧ sgn (n * c - m * d) = -1) ∨ (cmpT (tx (n / d)).data.toList (tx (m / c)).data.toList = 1 ∧ sgn (n * c - m * d) = 1) ∨
    (cmpT (tx (n / d)).data.toList (tx (m / c)).data.toList = 0 ∧ n % d = 0 ∧ m % c = 0 ∧ sgn (n * c - m * d) = 0) ∨ (cmpT (tx (n / d)).data.toList (tx (m / c)).data.toList = 0 ∧ n % d = 0 ∧ m % c ≠ 0 ∧ sgn (n * c - m * d) = -1) ∨
    (cmpT (tx (n / d)).data.toList (tx (m / c)).data.toList = 0 ∧ n % d ≠ 0 ∧ m % c = 0 ∧ sgn (n * c - m * d) = 1) ∨ (cmpT (tx (n / d)).data.toList (tx (m / c)).data.toList = 0 ∧ n % d ≠ 0 ∧ m % c ≠ 0 ∧ sgn (n * c - m * d) = -sgn (d * (m % c) - c * (n % d)))
  er : (n % d = 0 → ((tx (n % d)).toList == [48]) = true) ∧ (n % d ≠ 0 → ((tx (n % d)).toList == [48]) = false)
  es : (m % c = 0 → ((tx (m % c)).toList == [48]) = true) ∧ (m % c ≠ 0 → ((tx (m % c)).toList == [48]) = false)
  sgb : -1 ≤ sg ∧ sg ≤ 1
  veq : v = sg * sgn (n * c - m * d)
  lt : (n % d).natAbs < d.natAbs
  bd : n.natAbs < DL ∧ d.natAbs < DL ∧ m.natAbs < DL ∧ c.natAbs < DL ∧ 0 < d ∧ 0 < c
theorem tx_zero {x : Int} : (x = 0 → ((tx x).toList == [48]) = true) ∧ (x ≠ 0 → ((tx x).toList == [48]) = false) :=
  ⟨fun h => by rw [tx_list, h, itoa_0]; rfl, fun h => by rw [tx_list, beq_eq_false_iff_ne]; exact fun h' => h ((itoa_0_iff x).1 h')⟩
theorem divV_tx {x y : Int} (hx : x.natAbs < DL) (hy : y.natAbs < DL) (h0 : 0 < y) : divV (tx x).data.toList (tx y).data.toList = .tuple #[.string (tx (x / y)), .string (tx (x % y)), .int .i64 0] := by
  rw [divV_te, quoR_tx hx hy (by omega), teI_ok (div_lt hx)]
  unfold remR
  rw [ival_tx hx, ival_tx hy]
  simp only [if_neg (show ¬ y = 0 by omega), if_pos (div_lt (y := y) hx)]
  rfl
theorem CN.mk' {n d m c sg v : Int} (hn : n.natAbs < DL) (hd : d.natAbs < DL) (hm : m.natAbs < DL) (hc : c.natAbs < DL) (d0 : 0 < d) (c0 : 0 < c) (hs : -1 ≤ sg ∧ sg ≤ 1) (hv : v = sg * sgn (n * c - m * d)) : CN n d m c sg v := by
  have r1 := Int.emod_nonneg n (show d ≠ 0 by omega)
  have r2 := Int.emod_lt_of_pos n d0
  have s1 := Int.emod_nonneg m (show c ≠ 0 by omega)
  refine ⟨divV_tx hn hd d0, divV_tx hm hc c0, ?_, tx_zero, tx_zero, hs, hv, by omega, hn, hd, hm, hc, d0, c0⟩
  rw [cmpT_yes (ival_tx (div_lt hn)) (ival_tx (div_lt hm))]
  rcases Int.lt_trichotomy (n / d) (m / c) with h | h | h
  · exact .inl ⟨by unfold cmpI; rw [if_pos h], sgn_whole_lt d0 c0 h⟩
  · have hst := sgn_step h
    have h0 : cmpI (n / d) (m / c) = 0 := by rw [h]; unfold cmpI; rw [if_neg (by omega), if_neg (by omega)]
    by_cases hr : n % d = 0
    · by_cases hs : m % c = 0
      · refine .inr (.inr (.inl ⟨h0, hr, hs, ?_⟩))
        rw [hst, hr, hs, Int.mul_zero, Int.mul_zero]; rfl
      · refine .inr (.inr (.inr (.inl ⟨h0, hr, hs, ?_⟩)))
        rw [hst, hr, Int.mul_zero, Int.sub_zero]
        have := Int.mul_pos d0 (show 0 < m % c by omega)
        unfold sgn; rw [if_neg (by omega), if_pos this]
    · by_cases hs : m % c = 0
      · refine .inr (.inr (.inr (.inr (.inl ⟨h0, hr, hs, ?_⟩))))
        rw [hst, hs, Int.mul_zero]
        have := Int.mul_pos c0 (show 0 < n % d by omega)
        unfold sgn; rw [if_pos (by omega)]; rfl
      · exact .inr (.inr (.inr (.inr (.inr ⟨h0, hr, hs, hst⟩))))
  · exact .inr (.inl ⟨by unfold cmpI; rw [if_neg (by omega), if_pos h], sgn_whole_gt d0 c0 h⟩)
theorem CN.next {n d m c sg v : Int} (h : CN n d m c sg v) (hr : n % d ≠ 0) (hs : m % c ≠ 0) (hv : sgn (n * c - m * d) = -sgn (d * (m % c) - c * (n % d))) : CN d (n % d) c (m % c) (-sg) v := by
  obtain ⟨hn, hd, hm, hc, d0, c0⟩ := h.bd
  have r1 := Int.emod_nonneg n (show d ≠ 0 by omega)
  have r2 := Int.emod_lt_of_pos n d0
  have s1 := Int.emod_nonneg m (show c ≠ 0 by omega)
  have s2 := Int.emod_lt_of_pos m c0
  refine CN.mk' hd (by omega) hc (by omega) (by omega) (by omega) (by have := h.sgb; omega) ?_
  rw [h.veq, hv, Int.mul_neg, Int.neg_mul]
/-- the measure -/
def cmpM (B : Nat) (w : World) : Nat := match w.cell? ⟨B, 1, none⟩ with
  | some (.string s) => ((ival s.data.toList).getD 0).natAbs
  | _ => 0
theorem R2.pa_1 {w W : World} {s1 t1 s2 t2 : ByteArray} (h : R2 w W s1 t1 s2 t2) : W.cell? ⟨w.heap.size, 1, none⟩ = some (.string t1) := blk_cell h.pa 1
theorem cmpM_of {w : World} {B : Nat} {x : Int} (h : w.cell? ⟨B, 1, none⟩ = some (.string (tx x))) (hx : x.natAbs < DL) : cmpM B w = x.natAbs := by
  unfold cmpM; rw [h]; simp only []; rw [ival_tx hx]; rfl
theorem R2.put {w W : World} {s1 t1 s2 t2 : ByteArray} (h : R2 w W s1 t1 s2 t2) (a b c d : ByteArray) :
    R2 w ((((W.setCell ⟨w.heap.size, 0, none⟩ (.string a)).setCell ⟨w.heap.size, 1, none⟩ (.string b)).setCell ⟨w.heap.size + 1, 0, none⟩ (.string c)).setCell ⟨w.heap.size + 1, 1, none⟩ (.string d)).drew a b c d := by
  refine ⟨below_drew ((((h.bl.setCell (p := ⟨w.heap.size, 0, none⟩) (Nat.le_refl _) _).setCell (p := ⟨w.heap.size, 1, none⟩) (Nat.le_refl _) _).setCell (p := ⟨w.heap.size + 1, 0, none⟩) (by show _ ≤ w.heap.size + 1; omega) _).setCell (p := ⟨w.heap.size + 1, 1, none⟩) (by show _ ≤ w.heap.size + 1; omega) _), ?_, ?_⟩
  · exact (Below.heap_setCell _ ⟨w.heap.size + 1, 1, none⟩ _ _ (by show w.heap.size ≠ w.heap.size + 1; omega)).trans ((Below.heap_setCell _ ⟨w.heap.size + 1, 0, none⟩ _ _ (by show w.heap.size ≠ w.heap.size + 1; omega)).trans (blk_set (blk_set h.pa 0 (.string a)) 1 (.string b)))
  · have hB : ((W.setCell ⟨w.heap.size, 0, none⟩ (.string a)).setCell ⟨w.heap.size, 1, none⟩ (.string b)).heap[w.heap.size + 1]? = some (.cells #[.string s2, .string t2] 23) := (Below.heap_setCell _ ⟨w.heap.size, 1, none⟩ _ _ (by show w.heap.size + 1 ≠ w.heap.size; omega)).trans ((Below.heap_setCell _ ⟨w.heap.size, 0, none⟩ _ _ (by show w.heap.size + 1 ≠ w.heap.size; omega)).trans h.pb)
    exact blk_set (blk_set hB 0 (.string c)) 1 (.string d)
/-- what holds at each jump -/
def CJ (w : World) (v : Int) (s1 t1 s2 t2 : ByteArray) (a' : Act) (w' : World) : Prop := ∃ (n d m c sg : Int) (u4 u6 u7 u8 u9 u10 u11 u12 u13 u14 u15 u16 u17 u18 u19 u20 u21 u22 u23 u24 u25 u26 u27 u28 u29 u30 u31 u32 u33 u34 u35 u36 u37 u38 u39 u40 u41 u42 u43 u44 u45 u46 u47 u48 u49 u50 u51 u52 u53 u54 u55 u56 u57 u58 u59 u60 u61 u62 u63 u64 u65 u66 u67 u68 u69 u70 u71 u72 u73 : Value), a' = { tmps := #[.agg #[.string s1, .string t1], .agg #[.string s2, .string t2], .pointer (some ⟨w.heap.size, 0, none⟩), .pointer (some ⟨w.heap.size + 1, 0, none⟩), u4, .int .i64 sg, u6, u7, u8, u9, u10, u11, u12, u13, u14, u15, u16, u17, u18, u19, u20, u21, u22, u23, u24, u25, u26, u27, u28, u29, u30, u31, u32, u33, u34, u35, u36, u37, u38, u39, u40, u41, u42, u43, u44, u45, u46, u47, u48, u49, u50, u51, u52, u53, u54, u55, u56, u57, u58, u59, u60, u61, u62, u63, u64, u65, u66, u67, u68, u69, u70, u71, u72, u73], defers := [] } ∧ Aside0 (CN n d m c sg v) ∧ Aside0 (R2 w w' (tx n) (tx d) (tx m) (tx c))

set_option maxRecDepth 100000 in
set_option maxHeartbeats 8000000 in
/-- Compare of two fractions -/
theorem rcompare_ok (a b : Rat) (w : World) (hT : Tab w) (s1 t1 s2 t2 : ByteArray) (ha : rvalB s1 t1 = some a) (hb : rvalB s2 t2 = some b) :
    Calls Tryz.prog 23 #[.agg #[.string s1, .string t1], .agg #[.string s2, .string t2]] w fun e w' => e = .returned (.int .i64 (rcmp a b)) ∧ Below w.heap.size w w' := by
  have HT := Aside0.mk hT
  have HA : Aside0 (rvalid s1.data.toList t1.data.toList = true) := ⟨by rw [rvalid_rval]; unfold rvalB at ha; rw [ha]; rfl⟩
  have HB : Aside0 (rvalid s2.data.toList t2.data.toList = true) := ⟨by rw [rvalid_rval]; unfold rvalB at hb; rw [hb]; rfl⟩
  obtain ⟨hs1, ht1, la⟩ := rvalB_eq ha
  obtain ⟨hs2, ht2, lb⟩ := rvalB_eq hb
  have HN0 : Aside0 (CN a.num a.den b.num b.den 1 (rcmp a b)) := ⟨CN.mk' la.1 (den_lt la) lb.1 (den_lt lb) (rat_pos a) (rat_pos b) (by omega) (by unfold rcmp; omega)⟩
  have HS := Aside0.mk (And.intro hs1 (And.intro ht1 (And.intro hs2 ht2)))
  clear hT ha hb hs1 ht1 hs2 ht2 la lb
  generalize rcmp a b = v at *
  go_enter Tryz.func23, Tryz.ntmps23
  go_wp2_with fail
  have HR0 := Aside0.mk (R2.start w s1 t1 s2 t2)
  generalize ((w.alloc (.cells #[.string s1, .string t1] 23)).alloc (.cells #[.string s2, .string t2] 23)) = W0 at *
  refine wp_scope_jumps 0 (CJ w v s1 t1 s2 t2) (fun _ w' => cmpM w.heap.size w') rfl ?_ ?_
  · obtain ⟨k0, k1, l0, l1⟩ := pair_facts HR0.out.pa
    obtain ⟨p0, p1, q0, q1⟩ := pair_facts HR0.out.pb
    go_wp2_with fail
    refine (rvalid_calls s1 t1 _ (tabB HT.out HR0.out.bl)).mono ?_
    rintro e W1 ⟨rfl, hb1⟩
    rw [HA.out]
    have HR1 := Aside0.mk (HR0.out.next hb1)
    obtain ⟨k0, k1, l0, l1⟩ := pair_facts HR1.out.pa
    obtain ⟨p0, p1, q0, q1⟩ := pair_facts HR1.out.pb
    clear hb1 HR0
    go_wp2_with fail
    refine (rvalid_calls s2 t2 _ (tabB HT.out HR1.out.bl)).mono ?_
    rintro e W2 ⟨rfl, hb2⟩
    rw [HB.out]
    have hr2 := HR1.out.next hb2
    obtain ⟨rfl, rfl, rfl, rfl⟩ := HS.out
    have HR := Aside0.mk hr2
    have HN := Aside0.mk HN0.out
    generalize a.num = n at *
    generalize (a.den : Int) = d at *
    generalize b.num = m at *
    generalize (b.den : Int) = c at *
    clear hb2 hr2 HR1 HN0 HS HA HB k0 k1 l0 l1 p0 p1 q0 q1
    go_wp2_with fail
    go_step3
    obtain ⟨k0, k1, l0, l1⟩ := pair_facts HR.out.pa
    obtain ⟨p0, p1, q0, q1⟩ := pair_facts HR.out.pb
    go_wp2_with fail
    refine (div_calls (tx n) (tx d) _ (tabB HT.out HR.out.bl)).mono ?_
    rintro e W1 ⟨rfl, hb1⟩
    have HR1 := Aside0.mk (HR.out.next hb1)
    obtain ⟨k0, k1, l0, l1⟩ := pair_facts HR1.out.pa
    obtain ⟨p0, p1, q0, q1⟩ := pair_facts HR1.out.pb
    rw [HN.out.d1]
    clear hb1
    go_wp2_with fail
    refine (div_calls (tx m) (tx c) _ (tabB HT.out HR1.out.bl)).mono ?_
    rintro e W2 ⟨rfl, hb2⟩
    have HR2 := Aside0.mk (HR1.out.next hb2)
    obtain ⟨k0, k1, l0, l1⟩ := pair_facts HR2.out.pa
    obtain ⟨p0, p1, q0, q1⟩ := pair_facts HR2.out.pb
    rw [HN.out.d2]
    clear hb2
    go_wp2_with fail
    refine (compare_calls (tx (n / d)) (tx (m / c)) _).mono ?_
    rintro e W3 ⟨rfl, hb3⟩
    have HR3 := Aside0.mk (HR2.out.next hb3)
    obtain ⟨k0, k1, l0, l1⟩ := pair_facts HR3.out.pa
    obtain ⟨p0, p1, q0, q1⟩ := pair_facts HR3.out.pb
    clear hb3
    have HC := Aside0.mk HN.out.cases
    obtain ⟨cc, hcc⟩ : ∃ cc, cmpT (tx (n / d)).data.toList (tx (m / c)).data.toList = cc := ⟨_, rfl⟩
    rw [hcc] at HC ⊢
    have hsg := HN.out.sgb
    have er := HN.out.er
    have es := HN.out.es
    clear hcc
    have HCC := HC.out
    rcases HCC with ⟨hc1, hv⟩ | ⟨hc1, hv⟩ | ⟨hc1, hr, hs, hv⟩ | ⟨hc1, hr, hs, hv⟩ | ⟨hc1, hr, hs, hv⟩ | ⟨hc1, hr, hs, hv⟩
    · subst hc1
      have HV := Aside0.mk hv
      clear hv er es HC
      go_wp2_with fail
      simp only [Exit.jump]
      go_ret
      exact ⟨by rw [HN.out.veq, HV.out]; simp, HR3.out.bl⟩
    · subst hc1
      have HV := Aside0.mk hv
      clear hv er es HC
      go_wp2_with fail
      simp only [Exit.jump]
      go_ret
      exact ⟨by rw [HN.out.veq, HV.out]; simp, HR3.out.bl⟩
    · subst hc1
      have er := er.1 hr
      have es := es.1 hs
      have HV := Aside0.mk hv
      generalize tx (n % d) = tr at er ⊢
      generalize tx (m % c) = ts at es ⊢
      clear hv hr hs HC
      go_wp2_with fail
      simp only [Exit.jump]
      go_ret
      exact ⟨by rw [HN.out.veq, HV.out]; simp, HR3.out.bl⟩
    · subst hc1
      have er := er.1 hr
      have es := es.2 hs
      have HV := Aside0.mk hv
      generalize tx (n % d) = tr at er ⊢
      generalize tx (m % c) = ts at es ⊢
      clear hv hr hs HC
      go_wp2_with fail
      simp only [Exit.jump]
      go_ret
      exact ⟨by rw [HN.out.veq, HV.out]; simp, HR3.out.bl⟩
    · subst hc1
      have er := er.2 hr
      have es := es.1 hs
      have HV := Aside0.mk hv
      generalize tx (n % d) = tr at er ⊢
      generalize tx (m % c) = ts at es ⊢
      clear hv hr hs HC
      go_wp2_with fail
      simp only [Exit.jump]
      go_ret
      exact ⟨by rw [HN.out.veq, HV.out]; simp, HR3.out.bl⟩
    · subst hc1
      have er := er.2 hr
      have es := es.2 hs
      have HV := Aside0.mk hv
      have HX : Aside0 (CN d (n % d) c (m % c) (-1) v) := ⟨HN.out.next hr hs hv⟩
      obtain ⟨tr, htr⟩ : ∃ tr, tx (n % d) = tr := ⟨_, rfl⟩
      obtain ⟨ts, hts⟩ : ∃ ts, tx (m % c) = ts := ⟨_, rfl⟩
      have HTR := Aside0.mk htr
      have HTS := Aside0.mk hts
      rw [htr] at er ⊢
      rw [hts] at es ⊢
      clear hv hr hs HC htr hts
      go_wp2_with fail
      go_region
      all_goals go_wp2_with fail
      all_goals
        go_step3
        have HP := Aside0.mk (HR3.out.put (tx d) (tx (n % d)) (tx c) (tx (m % c)))
        exact ⟨rfl, d, n % d, c, m % c, -1, _, _, _, _, _, _, _, _, _, _, _, _, _, _, _, _, _, _, _, _, _, _, _, _, _, _, _, _, _, _, _, _, _, _, _, _, _, _, _, _, _, _, _, _, _, _, _, _, _, _, _, _, _, _, _, _, _, _, _, _, _, _, _, _, _, _, _, _, _, rfl, HX, by rw [← HTR.out, ← HTS.out]; exact HP⟩
  · rintro a' W0' ⟨n, d, m, c, sg, u4, u6, u7, u8, u9, u10, u11, u12, u13, u14, u15, u16, u17, u18, u19, u20, u21, u22, u23, u24, u25, u26, u27, u28, u29, u30, u31, u32, u33, u34, u35, u36, u37, u38, u39, u40, u41, u42, u43, u44, u45, u46, u47, u48, u49, u50, u51, u52, u53, u54, u55, u56, u57, u58, u59, u60, u61, u62, u63, u64, u65, u66, u67, u68, u69, u70, u71, u72, u73, rfl, HN, HR⟩
    clear HR0 HN0 HS HA HB
    obtain ⟨k0, k1, l0, l1⟩ := pair_facts HR.out.pa
    obtain ⟨p0, p1, q0, q1⟩ := pair_facts HR.out.pb
    go_wp2_with fail
    refine (div_calls (tx n) (tx d) _ (tabB HT.out HR.out.bl)).mono ?_
    rintro e W1 ⟨rfl, hb1⟩
    have HR1 := Aside0.mk (HR.out.next hb1)
    obtain ⟨k0, k1, l0, l1⟩ := pair_facts HR1.out.pa
    obtain ⟨p0, p1, q0, q1⟩ := pair_facts HR1.out.pb
    rw [HN.out.d1]
    clear hb1
    go_wp2_with fail
    refine (div_calls (tx m) (tx c) _ (tabB HT.out HR1.out.bl)).mono ?_
    rintro e W2 ⟨rfl, hb2⟩
    have HR2 := Aside0.mk (HR1.out.next hb2)
    obtain ⟨k0, k1, l0, l1⟩ := pair_facts HR2.out.pa
    obtain ⟨p0, p1, q0, q1⟩ := pair_facts HR2.out.pb
    rw [HN.out.d2]
    clear hb2
    go_wp2_with fail
    refine (compare_calls (tx (n / d)) (tx (m / c)) _).mono ?_
    rintro e W3 ⟨rfl, hb3⟩
    have HR3 := Aside0.mk (HR2.out.next hb3)
    obtain ⟨k0, k1, l0, l1⟩ := pair_facts HR3.out.pa
    obtain ⟨p0, p1, q0, q1⟩ := pair_facts HR3.out.pb
    clear hb3
    have HC := Aside0.mk HN.out.cases
    obtain ⟨cc, hcc⟩ : ∃ cc, cmpT (tx (n / d)).data.toList (tx (m / c)).data.toList = cc := ⟨_, rfl⟩
    rw [hcc] at HC ⊢
    have hsg := HN.out.sgb
    have er := HN.out.er
    have es := HN.out.es
    clear hcc
    have HCC := HC.out
    rcases HCC with ⟨hc1, hv⟩ | ⟨hc1, hv⟩ | ⟨hc1, hr, hs, hv⟩ | ⟨hc1, hr, hs, hv⟩ | ⟨hc1, hr, hs, hv⟩ | ⟨hc1, hr, hs, hv⟩
    · subst hc1
      have HV := Aside0.mk hv
      clear hv er es HC
      go_wp2_with fail
      simp only [Exit.jump]
      go_ret
      exact ⟨by rw [HN.out.veq, HV.out]; simp, HR3.out.bl⟩
    · subst hc1
      have HV := Aside0.mk hv
      clear hv er es HC
      go_wp2_with fail
      simp only [Exit.jump]
      go_ret
      exact ⟨by rw [HN.out.veq, HV.out]; simp, HR3.out.bl⟩
    · subst hc1
      have er := er.1 hr
      have es := es.1 hs
      have HV := Aside0.mk hv
      generalize tx (n % d) = tr at er ⊢
      generalize tx (m % c) = ts at es ⊢
      clear hv hr hs HC
      go_wp2_with fail
      simp only [Exit.jump]
      go_ret
      exact ⟨by rw [HN.out.veq, HV.out]; simp, HR3.out.bl⟩
    · subst hc1
      have er := er.1 hr
      have es := es.2 hs
      have HV := Aside0.mk hv
      generalize tx (n % d) = tr at er ⊢
      generalize tx (m % c) = ts at es ⊢
      clear hv hr hs HC
      go_wp2_with fail
      simp only [Exit.jump]
      go_ret
      exact ⟨by rw [HN.out.veq, HV.out]; simp, HR3.out.bl⟩
    · subst hc1
      have er := er.2 hr
      have es := es.1 hs
      have HV := Aside0.mk hv
      generalize tx (n % d) = tr at er ⊢
      generalize tx (m % c) = ts at es ⊢
      clear hv hr hs HC
      go_wp2_with fail
      simp only [Exit.jump]
      go_ret
      exact ⟨by rw [HN.out.veq, HV.out]; simp, HR3.out.bl⟩
    · subst hc1
      have er := er.2 hr
      have es := es.2 hs
      have HV := Aside0.mk hv
      have HX : Aside0 (CN d (n % d) c (m % c) (-sg) v) := ⟨HN.out.next hr hs hv⟩
      obtain ⟨tr, htr⟩ : ∃ tr, tx (n % d) = tr := ⟨_, rfl⟩
      obtain ⟨ts, hts⟩ : ∃ ts, tx (m % c) = ts := ⟨_, rfl⟩
      have HTR := Aside0.mk htr
      have HTS := Aside0.mk hts
      rw [htr] at er ⊢
      rw [hts] at es ⊢
      clear hv hr hs HC htr hts
      go_wp2_with fail
      go_region
      all_goals go_wp2_with fail
      all_goals
        go_step3
        have HP := Aside0.mk (HR3.out.put (tx d) (tx (n % d)) (tx c) (tx (m % c)))
        have HM := Aside0.mk (cmpM_of HR.out.pa_1 HN.out.bd.2.1)
        exact ⟨rfl, ⟨d, n % d, c, m % c, -sg, _, _, _, _, _, _, _, _, _, _, _, _, _, _, _, _, _, _, _, _, _, _, _, _, _, _, _, _, _, _, _, _, _, _, _, _, _, _, _, _, _, _, _, _, _, _, _, _, _, _, _, _, _, _, _, _, _, _, _, _, _, _, _, _, _, _, _, _, _, rfl, HX, by rw [← HTR.out, ← HTS.out]; exact HP⟩, by rw [HM.out, ← HTR.out, ← HTS.out, cmpM_of HP.out.pa_1 HX.out.bd.2.1]; exact HN.out.lt⟩

set_option maxRecDepth 100000 in
set_option maxHeartbeats 8000000 in
/-- Compare, where one is no fraction -/
theorem rcompare_no (w : World) (hT : Tab w) (s1 t1 s2 t2 : ByteArray) (h : rvalid s1.data.toList t1.data.toList = false ∨ rvalid s2.data.toList t2.data.toList = false) :
    Calls Tryz.prog 23 #[.agg #[.string s1, .string t1], .agg #[.string s2, .string t2]] w fun e w' => e = .returned (.int .i64 0) ∧ Below w.heap.size w w' := by
  have HT := Aside0.mk hT
  have H := Aside0.mk h
  clear hT h
  go_enter Tryz.func23, Tryz.ntmps23
  go_wp2_with fail
  have HR0 := Aside0.mk (R2.start w s1 t1 s2 t2)
  generalize ((w.alloc (.cells #[.string s1, .string t1] 23)).alloc (.cells #[.string s2, .string t2] 23)) = W0 at *
  refine wp_scope_jumps 0 (fun _ _ => False) (fun _ _ => 0) rfl ?_ (fun _ _ h => h.elim)
  obtain ⟨k0, k1, l0, l1⟩ := pair_facts HR0.out.pa
  obtain ⟨p0, p1, q0, q1⟩ := pair_facts HR0.out.pb
  go_wp2_with fail
  refine (rvalid_calls s1 t1 _ (tabB HT.out HR0.out.bl)).mono ?_
  rintro e W1 ⟨rfl, hb1⟩
  have HR1 := Aside0.mk (HR0.out.next hb1)
  obtain ⟨k0, k1, l0, l1⟩ := pair_facts HR1.out.pa
  obtain ⟨p0, p1, q0, q1⟩ := pair_facts HR1.out.pb
  clear hb1 HR0
  cases h1 : rvalid s1.data.toList t1.data.toList
  · clear h1 H
    go_wp2_with fail
    simp only [Exit.jump]
    go_ret
    exact ⟨rfl, HR1.out.bl⟩
  · have h2 : rvalid s2.data.toList t2.data.toList = false := by
      rcases H.out with h | h
      · rw [h1] at h; cases h
      · exact h
    have H2 := Aside0.mk h2
    clear h1 h2 H
    go_wp2_with fail
    refine (rvalid_calls s2 t2 _ (tabB HT.out HR1.out.bl)).mono ?_
    rintro e W2 ⟨rfl, hb2⟩
    rw [H2.out]
    have HR2 := Aside0.mk (HR1.out.next hb2)
    clear hb2
    go_wp2_with fail
    simp only [Exit.jump]
    go_ret
    exact ⟨rfl, HR2.out.bl⟩
/-- Compare -/
theorem rcompare_calls (s1 t1 s2 t2 : ByteArray) (w : World) (hT : Tab w) :
    Calls Tryz.prog 23 #[.agg #[.string s1, .string t1], .agg #[.string s2, .string t2]] w fun e w' => e = .returned (.int .i64 (rcmpO (rvalB s1 t1) (rvalB s2 t2))) ∧ Below w.heap.size w w' := by
  have hv : ∀ s t : ByteArray, rvalB s t = none → rvalid s.data.toList t.data.toList = false := fun s t h => by rw [rvalid_rval]; unfold rvalB at h; rw [h]; rfl
  cases h1 : rvalB s1 t1 with
  | none => exact rcompare_no w hT s1 t1 s2 t2 (.inl (hv _ _ h1))
  | some a => cases h2 : rvalB s2 t2 with
    | none => exact rcompare_no w hT s1 t1 s2 t2 (.inr (hv _ _ h2))
    | some b => exact rcompare_ok a b w hT s1 t1 s2 t2 h1 h2

end Go.Proofs.YtnhjidbjibehpaaGreatDoor.L4

/- Plain texts: sizes, tails, powers of ten, a fraction on a grid. No program in this text. -/
namespace Go.Proofs.YtnhjidbjibehpaaGreatDoor.Ref
open Go.RowKit Yd Go.Lib
set_option linter.unusedVariables false
set_option linter.unusedSimpArgs false

theorem w64 {x : Int} (h0 : -9223372036854775808 ≤ x) (h1 : x ≤ 9223372036854775807) : wrap64 x = x := by unfold wrap64; omega
theorem size_len (s : ByteArray) : s.size = s.data.toList.length := rfl
theorem tl_data (s : ByteArray) : s.toList = s.data.toList := Lib.toList_data s
theorem head_getElem {l : List UInt8} (h : 0 < l.length) : l.head? = some l[0] := by cases l with
  | nil => simp at h
  | cons a t => rfl
theorem extract_tail (s : ByteArray) : (s.extract 1 s.size).data.toList = s.data.toList.tail := by
  rw [Lib.extract_data]
  rw [size_len]
  cases h : s.data.toList with
  | nil => simp
  | cons a t => simp
theorem ba_eq {s t : ByteArray} (h : s.data.toList = t.data.toList) : s = t := by
  cases s; cases t; simp at h; simp [h]
/-- an integer's text -/
def itx (z : Int) : ByteArray := ⟨(itoa z).toArray⟩
theorem itx_data (z : Int) : (itx z).data.toList = itoa z := by simp [itx]
theorem itx_size {z : Int} (h : z.natAbs < DL) : (itx z).size ≤ 201 := by
  rw [size_len, itx_data]
  have h1 := decDigits_DL.2 h
  by_cases hz : z < 0
  · rw [itoa_neg hz, List.length_cons]; omega
  · rw [itoa_pos (by omega)]; omega
theorem ediv_lt {x y : Int} (hx : x.natAbs < DL) : (x / y).natAbs < DL := Nat.lt_of_le_of_lt (Int.natAbs_ediv_le_natAbs x y) hx
theorem itoa_ten (x : Nat) (h : 0 < x) : itoa ((x * 10 : Nat) : Int) = itoa (x : Int) ++ [48] := by
  rw [itoa_pos (by omega), itoa_pos (by omega), show ((x * 10 : Nat) : Int).natAbs = x * 10 by omega, show (x : Int).natAbs = x by omega, decDigits_big (by omega)]
  rw [Nat.mul_div_left _ (by omega), Nat.mul_mod_left]; rfl
/-- a fraction on a grid -/
def rgridP (up : Bool) (o : Option Rat) (p : Int) : Option Rat := match o with
  | some r => if 0 ≤ p ∧ p ≤ 30 then rgrid up r p.toNat else none
  | none => none
theorem sm_pow {p : Nat} (hp : p < 200) : sm ((10 : Int) ^ p) = true := (Pw.pow p).sm hp
theorem sm_ediv {x y : Int} (h : sm x = true) : sm (x / y) = true := sm_iff.2 (ediv_lt (sm_iff.1 h))
theorem sm_up {x y : Int} (h : sm x = true) (hy : 0 < y) (hr : x % y ≠ 0) : sm (x / y + 1) = true := by
  rw [sm_iff] at *
  have h1 := Int.emod_add_mul_ediv x y
  have h2 := Int.emod_nonneg x (show y ≠ 0 by omega)
  have h3 := Int.emod_lt_of_pos x hy
  have hy2 : 2 ≤ y := by
    rcases Int.lt_or_le y 2 with h | h
    · exfalso
      have : y = 1 := by omega
      subst this; simp at hr
    · exact h
  by_cases hx : 0 ≤ x / y
  · have : 2 * (x / y) ≤ y * (x / y) := Int.mul_le_mul_of_nonneg_right hy2 hx
    omega
  · have := Int.natAbs_ediv_le_natAbs x y
    omega
def strL (l : List UInt8) : ByteArray := ⟨l.toArray⟩
theorem strL_data (l : List UInt8) : (strL l).data.toList = l := by simp [strL]

end Go.Proofs.YtnhjidbjibehpaaGreatDoor.Ref
