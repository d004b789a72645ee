/- Plain fractions: which two texts are a fraction, and of which rational number; what the operations on fractions give. No program in this text. -/
import Derived.Test.YtnhjidbjibehpaaGreatDoorDec
namespace Yd
open Go.Lib

theorem DL_gt0 : 0 < DL := by rw [DL_eq]; exact Nat.pow_pos (by omega)
theorem DL_gt1 : 1 < DL := by rw [DL_eq]; exact Nat.one_lt_pow (by omega) (by omega)

/-- the fraction that two texts are -/
def rval (s t : List UInt8) : Option Rat := match ival s, ival t with
  | some p, some q => if 0 < q ∧ Nat.gcd p.natAbs q.natAbs = 1 then some (Rat.divInt p q) else none
  | _, _ => none

/-- its texts have at most 200 digits -/
def RL (r : Rat) : Prop := r.num.natAbs < DL ∧ r.den < DL
instance (r : Rat) : Decidable (RL r) := by unfold RL; infer_instance

theorem rat_pos (r : Rat) : (0 : Int) < r.den := by have := r.den_pos; omega
theorem divInt_self_rat (r : Rat) : Rat.divInt r.num r.den = r := Rat.num_divInt_den r

theorem rval_rat {r : Rat} (h : RL r) : rval (itoa r.num) (itoa r.den) = some r := by
  unfold rval
  rw [ival_itoa h.1, ival_itoa (x := (r.den : Int)) (by simpa using h.2)]
  show (if 0 < (r.den : Int) ∧ Nat.gcd r.num.natAbs (r.den : Int).natAbs = 1 then some (Rat.divInt r.num r.den) else none) = some r
  rw [if_pos ⟨rat_pos r, by simpa using r.reduced⟩, divInt_self_rat]

theorem num_divInt_co {p q : Int} (hq : 0 < q) (h : Nat.gcd p.natAbs q.natAbs = 1) : (Rat.divInt p q).num = p ∧ ((Rat.divInt p q).den : Int) = q := by
  have hg : q.gcd p = 1 := by rw [Int.gcd_comm]; exact h
  rw [Rat.num_divInt, Rat.den_divInt, hg, Int.sign_eq_one_of_pos hq, if_neg (by omega)]
  refine ⟨by simp, ?_⟩
  simp only [Nat.div_one]; omega

theorem rval_eq {s t : List UInt8} {r : Rat} (h : rval s t = some r) : s = itoa r.num ∧ t = itoa r.den ∧ RL r := by
  unfold rval at h
  split at h
  · rename_i p q h1 h2
    split at h
    · rename_i hc
      obtain ⟨a1, a2⟩ := ival_eq h1
      obtain ⟨b1, b2⟩ := ival_eq h2
      obtain ⟨c1, c2⟩ := num_divInt_co hc.1 hc.2
      injection h with h
      subst h
      refine ⟨by rw [c1]; exact a1, by rw [c2]; exact b1, ?_⟩
      unfold RL
      rw [c1]
      exact ⟨a2, by omega⟩
    · cases h
  · cases h
theorem rval_iff {s t : List UInt8} {r : Rat} : rval s t = some r ↔ s = itoa r.num ∧ t = itoa r.den ∧ RL r :=
  ⟨rval_eq, fun ⟨h1, h2, h3⟩ => by rw [h1, h2]; exact rval_rat h3⟩

/-- two integers as a fraction -/
def mk2 (x y : Int) : Option Rat := if y = 0 then none else some (Rat.divInt x y)
def mkO (s t : List UInt8) : Option Rat := match ival s, ival t with
  | some x, some y => mk2 x y
  | _, _ => none
theorem divInt_num_le {x y : Int} : (Rat.divInt x y).num.natAbs ≤ x.natAbs := by
  rw [Rat.num_divInt]
  refine Nat.le_trans (Int.natAbs_ediv_le_natAbs _ _) ?_
  rw [Int.natAbs_mul, Int.natAbs_sign]
  split
  · omega
  · omega
theorem divInt_den_le {x y : Int} (h : y ≠ 0) : (Rat.divInt x y).den ≤ y.natAbs := by
  rw [Rat.den_divInt, if_neg h]; exact Nat.div_le_self _ _
theorem RL_divInt {x y : Int} (hx : x.natAbs < DL) (hy : y.natAbs < DL) : RL (Rat.divInt x y) := by
  by_cases h : y = 0
  · subst h; rw [Rat.divInt_zero]; exact ⟨DL_gt0, DL_gt1⟩
  · exact ⟨Nat.lt_of_le_of_lt divInt_num_le hx, Nat.lt_of_le_of_lt (divInt_den_le h) hy⟩
theorem RL_mk2 {x y : Int} {r : Rat} (hx : x.natAbs < DL) (hy : y.natAbs < DL) (h : mk2 x y = some r) : RL r := by
  unfold mk2 at h
  split at h
  · cases h
  · injection h with h; subst h; exact RL_divInt hx hy
theorem mkO_RL {s t : List UInt8} {r : Rat} (h : mkO s t = some r) : RL r := by
  unfold mkO at h
  split at h
  · rename_i x y h1 h2; exact RL_mk2 (ival_eq h1).2 (ival_eq h2).2 h
  · cases h
theorem mkO_rval {s t : List UInt8} {r : Rat} (h : rval s t = some r) : mkO s t = some r := by
  obtain ⟨rfl, rfl, h3⟩ := rval_eq h
  unfold mkO
  rw [ival_itoa h3.1, ival_itoa (x := (r.den : Int)) (by simpa using h3.2)]
  show mk2 r.num r.den = some r
  unfold mk2
  have := rat_pos r
  rw [if_neg (by omega), divInt_self_rat]

/-! ### the operations -/

def sm (z : Int) : Bool := decide (z.natAbs < DL)
theorem sm_iff {z : Int} : sm z = true ↔ z.natAbs < DL := decide_eq_true_iff

def radd (a b : Rat) : Option Rat := if sm (a.num * b.den) && sm (b.num * a.den) && sm (a.den * b.den) && sm (a.num * b.den + b.num * a.den) then some (a + b) else none
def rsub (a b : Rat) : Option Rat := if sm (a.num * b.den) && sm (b.num * a.den) && sm (a.den * b.den) && sm (a.num * b.den - b.num * a.den) then some (a - b) else none
def rmul (a b : Rat) : Option Rat := if sm (a.num * b.num) && sm (a.den * b.den) then some (a * b) else none
def rdiv (a b : Rat) : Option Rat := if sm (a.num * b.den) && sm (a.den * b.num) && decide (b ≠ 0) then some (a / b) else none
def rbin (f : Rat → Rat → Option Rat) (a b : Option Rat) : Option Rat := match a, b with
  | some x, some y => f x y
  | _, _ => none
theorem rbin_none_left (f : Rat → Rat → Option Rat) (b : Option Rat) : rbin f none b = none := rfl
theorem rbin_none_right (f : Rat → Rat → Option Rat) (a : Option Rat) : rbin f a none = none := by cases a <;> rfl

theorem add_divInt (a b : Rat) : Rat.divInt (a.num * b.den + b.num * a.den) (a.den * b.den) = a + b := by
  have h1 := rat_pos a
  have h2 := rat_pos b
  rw [← Rat.divInt_add_divInt _ _ (by omega) (by omega), divInt_self_rat, divInt_self_rat]
theorem sub_divInt (a b : Rat) : Rat.divInt (a.num * b.den - b.num * a.den) (a.den * b.den) = a - b := by
  have h1 := rat_pos a
  have h2 := rat_pos b
  rw [← Rat.divInt_sub_divInt _ _ (by omega) (by omega), divInt_self_rat, divInt_self_rat]
theorem mul_divInt (a b : Rat) : Rat.divInt (a.num * b.num) (a.den * b.den) = a * b := by
  rw [← Rat.divInt_mul_divInt, divInt_self_rat, divInt_self_rat]
theorem div_divInt (a b : Rat) : Rat.divInt (a.num * b.den) (a.den * b.num) = a / b := by
  rw [← Rat.divInt_mul_divInt, divInt_self_rat, ← Rat.inv_def, Rat.div_def]

theorem RL_add {a b r : Rat} (h : radd a b = some r) : RL r ∧ r = a + b := by
  unfold radd at h
  split at h
  · rename_i hc
    simp only [Bool.and_eq_true, sm_iff] at hc
    injection h with h; subst h
    exact ⟨by rw [← add_divInt]; exact RL_divInt hc.2 hc.1.2, rfl⟩
  · cases h
theorem RL_sub {a b r : Rat} (h : rsub a b = some r) : RL r ∧ r = a - b := by
  unfold rsub at h
  split at h
  · rename_i hc
    simp only [Bool.and_eq_true, sm_iff] at hc
    injection h with h; subst h
    exact ⟨by rw [← sub_divInt]; exact RL_divInt hc.2 hc.1.2, rfl⟩
  · cases h
theorem RL_mul {a b r : Rat} (h : rmul a b = some r) : RL r ∧ r = a * b := by
  unfold rmul at h
  split at h
  · rename_i hc
    simp only [Bool.and_eq_true, sm_iff] at hc
    injection h with h; subst h
    exact ⟨by rw [← mul_divInt]; exact RL_divInt hc.1 hc.2, rfl⟩
  · cases h
theorem RL_div {a b r : Rat} (h : rdiv a b = some r) : RL r ∧ r = a / b ∧ b ≠ 0 := by
  unfold rdiv at h
  split at h
  · rename_i hc
    simp only [Bool.and_eq_true, sm_iff, decide_eq_true_iff] at hc
    injection h with h; subst h
    exact ⟨by rw [← div_divInt]; exact RL_divInt hc.1.1 hc.1.2, rfl, hc.2⟩
  · cases h

/-! ### comparing -/

def sgn (x : Int) : Int := if x < 0 then -1 else if 0 < x then 1 else 0
def rcmp (a b : Rat) : Int := sgn (a.num * b.den - b.num * a.den)
def rcmpO (a b : Option Rat) : Int := match a, b with
  | some x, some y => rcmp x y
  | _, _ => 0
theorem rcmp_lt {a b : Rat} : rcmp a b = -1 ↔ a < b := by
  rw [Rat.lt_iff]; unfold rcmp sgn; split
  · exact ⟨fun _ => by omega, fun _ => rfl⟩
  · split
    · exact ⟨fun h => by omega, fun h => by omega⟩
    · exact ⟨fun h => by omega, fun h => by omega⟩
theorem rcmp_gt {a b : Rat} : rcmp a b = 1 ↔ b < a := by
  rw [Rat.lt_iff]; unfold rcmp sgn; split
  · exact ⟨fun h => by omega, fun h => by omega⟩
  · split
    · exact ⟨fun h => by omega, fun h => rfl⟩
    · exact ⟨fun h => by omega, fun h => by omega⟩
theorem rcmp_eq {a b : Rat} : rcmp a b = 0 ↔ a = b := by
  rw [Rat.eq_iff_mul_eq_mul]; unfold rcmp sgn; split
  · exact ⟨fun h => by omega, fun h => by omega⟩
  · split
    · exact ⟨fun h => by omega, fun h => by omega⟩
    · exact ⟨fun h => by omega, fun h => rfl⟩
theorem rcmp_cases (a b : Rat) : (a < b ∧ rcmp a b = -1) ∨ (a = b ∧ rcmp a b = 0) ∨ (b < a ∧ rcmp a b = 1) := by
  have h : rcmp a b = -1 ∨ rcmp a b = 0 ∨ rcmp a b = 1 := by unfold rcmp sgn; split; exact .inl rfl; split; exact .inr (.inr rfl); exact .inr (.inl rfl)
  rcases h with h | h | h
  · exact .inl ⟨rcmp_lt.1 h, h⟩
  · exact .inr (.inl ⟨rcmp_eq.1 h, h⟩)
  · exact .inr (.inr ⟨rcmp_gt.1 h, h⟩)

/-- one step of comparing: the whole parts, then what is left, upside down -/
theorem sgn_mul_neg (x : Int) : sgn (-x) = -sgn x := by unfold sgn; split <;> split <;> (try split) <;> omega
theorem sgn_step {n d m c : Int} (h : n / d = m / c) : sgn (n * c - m * d) = -sgn (d * (m % c) - c * (n % d)) := by
  rw [← sgn_mul_neg]
  congr 1
  have h1 := Int.emod_add_mul_ediv n d
  have h2 := Int.emod_add_mul_ediv m c
  rw [h] at h1
  generalize m / c = p at *
  generalize n % d = r at *
  generalize m % c = s at *
  subst h1 h2
  grind
theorem sgn_whole_lt {n d m c : Int} (hd : 0 < d) (hc : 0 < c) (h : n / d < m / c) : sgn (n * c - m * d) = -1 := by
  have h1 := Int.emod_add_mul_ediv n d
  have h2 := Int.emod_add_mul_ediv m c
  have h3 := Int.emod_lt_of_pos n hd
  have h4 := Int.emod_nonneg m (show c ≠ 0 by omega)
  generalize m / c = p at *
  generalize n / d = q at *
  generalize n % d = r at *
  generalize m % c = s at *
  have e1 : n * c < (q + 1) * d * c := by
    have : n < (q + 1) * d := by grind
    exact Int.mul_lt_mul_of_pos_right this hc
  have e2 : (q + 1) * d * c ≤ p * d * c := Int.mul_le_mul_of_nonneg_right (Int.mul_le_mul_of_nonneg_right (by omega) (by omega)) (by omega)
  have e3 : p * d * c ≤ m * d := by
    have : p * c ≤ m := by grind
    have := Int.mul_le_mul_of_nonneg_right this (show 0 ≤ d by omega)
    grind
  unfold sgn
  rw [if_pos (by omega)]
theorem sgn_whole_gt {n d m c : Int} (hd : 0 < d) (hc : 0 < c) (h : m / c < n / d) : sgn (n * c - m * d) = 1 := by
  have := sgn_whole_lt hc hd h
  rw [show n * c - m * d = -(m * d - n * c) by omega, sgn_mul_neg, this]; rfl

/-! ### the grid -/

def rgrid (up : Bool) (r : Rat) (k : Nat) : Option Rat :=
  if sm (r.num * 10 ^ k) then some (Rat.divInt (r.num * 10 ^ k / r.den + if up && decide (r.num * 10 ^ k % r.den ≠ 0) then 1 else 0) (10 ^ k)) else none

/-! ### texts -/

def rprint (r : Rat) : List UInt8 := if r.den = 1 then itoa r.num else itoa r.num ++ 47 :: itoa r.den
def rprintO (r : Option Rat) : List UInt8 := match r with
  | some r => rprint r
  | none => []
/-- what stands before the first slash, and behind it -/
def cutS : List UInt8 → List UInt8 × Option (List UInt8)
  | [] => ([], none)
  | a :: r => if a = 47 then ([], some r) else (a :: (cutS r).1, (cutS r).2)
def rparse (l : List UInt8) : Option Rat :=
  match rval (cutS l).1 ((cutS l).2.getD [49]) with
  | some r => if rprint r = l then some r else none
  | none => none

theorem itoa_no_slash (x : Int) : ∀ b ∈ itoa x, b ≠ 47 := by
  have h : ∀ b ∈ decDigits x.natAbs, b ≠ 47 := by
    intro b hb h
    have := List.all_eq_true.1 (decDigits_all x.natAbs) b hb
    rw [isDig_iff, h] at this
    have h47 : (47 : UInt8).toNat = 47 := rfl
    omega
  intro b hb
  by_cases hx : x < 0
  · rw [itoa_neg hx] at hb
    rcases List.mem_cons.1 hb with rfl | hb
    · decide
    · exact h b hb
  · rw [itoa_pos (by omega)] at hb; exact h b hb
theorem cutS_none : ∀ l : List UInt8, (∀ b ∈ l, b ≠ 47) → cutS l = (l, none)
  | [], _ => rfl
  | a :: r, h => by
    rw [cutS, if_neg (h a (List.mem_cons_self ..)), cutS_none r (fun b hb => h b (List.mem_cons_of_mem _ hb))]
theorem cutS_some : ∀ l r : List UInt8, (∀ b ∈ l, b ≠ 47) → cutS (l ++ 47 :: r) = (l, some r)
  | [], r, _ => by rw [List.nil_append, cutS, if_pos rfl]
  | a :: l, r, h => by
    rw [List.cons_append, cutS, if_neg (h a (List.mem_cons_self ..)), cutS_some l r (fun b hb => h b (List.mem_cons_of_mem _ hb))]
theorem cutS_eq : ∀ l : List UInt8, l = match (cutS l).2 with | none => (cutS l).1 | some r => (cutS l).1 ++ 47 :: r
  | [] => rfl
  | a :: r => by
    by_cases h : a = 47
    · rw [cutS, if_pos h, h]; rfl
    · have := cutS_eq r
      rw [cutS, if_neg h]
      revert this
      cases (cutS r).2 with
      | none => intro this; exact congrArg (a :: ·) this
      | some t => intro this; exact congrArg (a :: ·) this
theorem itoa_one : itoa 1 = [49] := by
  rw [itoa_pos (by omega), show (1 : Int).natAbs = 1 from rfl, decDigits_small (by omega)]; rfl
theorem itoa_zero : itoa 0 = [48] := by rw [itoa_pos (by omega), show (0 : Int).natAbs = 0 from rfl, decDigits_zero]
theorem rparse_print {r : Rat} (h : RL r) : rparse (rprint r) = some r := by
  have key : (cutS (rprint r)).1 = itoa r.num ∧ (cutS (rprint r)).2.getD [49] = itoa r.den := by
    unfold rprint
    by_cases h1 : r.den = 1
    · rw [if_pos h1, cutS_none _ (itoa_no_slash _), h1]
      exact ⟨rfl, itoa_one.symm⟩
    · rw [if_neg h1, cutS_some _ _ (itoa_no_slash _)]
      exact ⟨rfl, rfl⟩
  unfold rparse
  rw [key.1, key.2, rval_rat h]
  simp
theorem rparse_some {l : List UInt8} {r : Rat} (h : rparse l = some r) : rprint r = l ∧ RL r := by
  unfold rparse at h
  split at h
  · rename_i q hq
    split at h
    · rename_i hp; injection h with h; subst h; exact ⟨hp, (rval_eq hq).2.2⟩
    · cases h
  · cases h

end Yd
