/- Plain laws of fractions: the field, the order, the grid, the limits. No program in this text. -/
import Derived.Test.YtnhjidbjibehpaaGreatDoorRat
namespace Yd
open Go.Lib

theorem sm_neg (x : Int) : sm (-x) = sm x := by unfold sm; rw [Int.natAbs_neg]
theorem radd_comm (a b : Rat) : radd a b = radd b a := by
  unfold radd
  rw [Int.add_comm (a.num * b.den), Int.mul_comm (a.den : Int) b.den, Rat.add_comm a b, Bool.and_comm (sm (a.num * b.den))]
theorem rmul_comm (a b : Rat) : rmul a b = rmul b a := by
  unfold rmul
  rw [Int.mul_comm a.num, Int.mul_comm (a.den : Int), Rat.mul_comm]

theorem field_sum {a b c ab bc x y : Rat} (h1 : radd a b = some ab) (h2 : radd b c = some bc) (h3 : radd ab c = some x) (h4 : radd a bc = some y) : x = y := by
  have e1 := (RL_add h1).2
  have e2 := (RL_add h2).2
  have e3 := (RL_add h3).2
  have e4 := (RL_add h4).2
  grind
theorem field_mul {a b c ab bc x y : Rat} (h1 : rmul a b = some ab) (h2 : rmul b c = some bc) (h3 : rmul a bc = some x) (h4 : rmul ab c = some y) : x = y := by
  have e1 := (RL_mul h1).2
  have e2 := (RL_mul h2).2
  have e3 := (RL_mul h3).2
  have e4 := (RL_mul h4).2
  grind
theorem field_distr {a b c ab ac bc x y : Rat} (h1 : radd a b = some ab) (h2 : rmul a c = some ac) (h3 : rmul b c = some bc) (h4 : radd ac bc = some x) (h5 : rmul ab c = some y) : x = y := by
  have e1 := (RL_add h1).2
  have e2 := (RL_mul h2).2
  have e3 := (RL_mul h3).2
  have e4 := (RL_add h4).2
  have e5 := (RL_mul h5).2
  grind
theorem field_back {a b ab x : Rat} (h1 : radd a b = some ab) (h2 : rsub ab b = some x) : x = a := by
  have e1 := (RL_add h1).2
  have e2 := (RL_sub h2).2
  grind
theorem field_again {a b q x : Rat} (h1 : rdiv a b = some q) (h2 : rmul q b = some x) : x = a := by
  have e1 := (RL_div h1).2
  have e2 := (RL_mul h2).2
  rw [e2, e1.1]
  exact Rat.div_mul_cancel e1.2

/-! ### the order -/
theorem rcmp_self (a : Rat) : rcmp a a = 0 := rcmp_eq.2 rfl
theorem rcmp_swap (a b : Rat) : rcmp b a = -rcmp a b := by
  unfold rcmp
  rw [← sgn_mul_neg]; congr 1; omega
theorem rcmp_range (a b : Rat) : -1 ≤ rcmp a b ∧ rcmp a b ≤ 1 := by
  rcases rcmp_cases a b with ⟨_, h⟩ | ⟨_, h⟩ | ⟨_, h⟩ <;> omega
theorem rcmp_le {a b : Rat} : rcmp a b ≤ 0 ↔ a ≤ b := by
  rcases rcmp_cases a b with ⟨h, e⟩ | ⟨h, e⟩ | ⟨h, e⟩
  · exact ⟨fun _ => Rat.le_of_lt h, fun _ => by omega⟩
  · exact ⟨fun _ => h ▸ Rat.le_refl, fun _ => by omega⟩
  · exact ⟨fun _ => by omega, fun h' => absurd h (Rat.not_lt.2 h')⟩
theorem rcmp_trans {a b c : Rat} (h1 : rcmp a b ≤ 0) (h2 : rcmp b c ≤ 0) : rcmp a c ≤ 0 := by
  rw [rcmp_le] at *; exact Rat.le_trans h1 h2
theorem rcmp_trans_lt {a b c : Rat} (h1 : rcmp a b ≤ 0) (h2 : rcmp b c < 0) : rcmp a c < 0 := by
  have h3 := rcmp_trans h1 (show rcmp b c ≤ 0 by omega)
  rcases rcmp_cases a c with ⟨h, e⟩ | ⟨h, e⟩ | ⟨h, e⟩
  · omega
  · exfalso
    subst h
    rw [rcmp_swap] at h2
    omega
  · omega
theorem rcmp_congr {a b c d : Rat} (h1 : a < b ↔ c < d) (h2 : b < a ↔ d < c) : rcmp a b = rcmp c d := by
  rcases rcmp_cases a b with ⟨h, e⟩ | ⟨h, e⟩ | ⟨h, e⟩
  · rw [e, rcmp_lt.2 (h1.1 h)]
  · rw [e]
    rcases rcmp_cases c d with ⟨h', e'⟩ | ⟨h', e'⟩ | ⟨h', e'⟩
    · exact absurd (h1.2 h') (by rw [h]; exact Rat.lt_irrefl)
    · exact e'.symm
    · exact absurd (h2.2 h') (by rw [h]; exact Rat.lt_irrefl)
  · rw [e, rcmp_gt.2 (h2.1 h)]
theorem rcmp_sub (a b : Rat) : rcmp (a - b) 0 = rcmp a b := rcmp_congr (by grind) (by grind)
theorem rcmp_add (a b t : Rat) : rcmp (a + t) (b + t) = rcmp a b := rcmp_congr (by grind) (by grind)
theorem rcmp_mul (a b t : Rat) : rcmp (a * t) (b * t) = rcmp a b * rcmp t 0 := by
  rcases rcmp_cases t 0 with ⟨h, e⟩ | ⟨h, e⟩ | ⟨h, e⟩
  · rw [e, show rcmp a b * -1 = rcmp b a by rw [rcmp_swap]; omega]
    have hn : 0 < -t := by grind
    have key : ∀ x y : Rat, x * t < y * t ↔ y < x := by
      intro x y
      have := Rat.mul_lt_mul_right (a := y) (b := x) hn
      rw [← this]
      constructor <;> intro h <;> grind
    exact rcmp_congr (key a b) (key b a)
  · rw [e, h, Rat.mul_zero, Rat.mul_zero, rcmp_self]; omega
  · rw [e, Int.mul_one]
    exact rcmp_congr (Rat.mul_lt_mul_right h) (Rat.mul_lt_mul_right h)

end Yd
