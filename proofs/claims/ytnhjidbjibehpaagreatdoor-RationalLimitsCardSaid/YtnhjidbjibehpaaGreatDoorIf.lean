/- Layer 3, walked: comparing absolute values. -/
import Derived.Test.YtnhjidbjibehpaaGreatDoorIe
namespace Go.Proofs.YtnhjidbjibehpaaGreatDoor.L3
open Go.Shelf Go.RowKit Go.Proofs.YtnhjidbjibehpaaGreatDoorW.PrintWords Go.Proofs.YtnhjidbjibehpaaGreatDoorW.PrintLast Go.Proofs.YtnhjidbjibehpaaGreatDoorW.PrintMore Yd
set_option linter.unusedVariables false
set_option linter.unusedSimpArgs false
attribute [local go_sem] Oper.semAt_some

def cmpI (a b : Int) : Int := if a < b then -1 else if a > b then 1 else 0
open Go.Proofs.YtnhjidbjibehpaaGreatDoor.Ref in
theorem cmp_calls (a b : Int) (w : World) : Calls Tryz.prog 105 #[.int .i64 a, .int .i64 b] w fun e w' => e = .returned (.int .i64 (cmpI a b)) ∧ Drawn0 w w' :=
  cmp_Compare_int.calls a b (cmpI a b) w (by
    unfold cmp_Compare_int.f cmp_isNaN_int.f cmpI
    simp only [bne_self_eq_false, Option.bind_some, Bool.false_eq_true, if_false]
    split
    · rfl
    · split <;> rfl)

/-- the comparison of two numbers by their groups, from the end -/
theorem cmp_length {a b : Nat} (h : GL a ≠ GL b) : cmpI (GL a) (GL b) = cmpI a b := by
  unfold cmpI
  rcases Nat.lt_or_gt_of_ne h with hl | hl
  · have := lt_of_length (B := 10000) (by omega) hl
    rw [if_pos (by omega), if_pos (by omega)]
  · have := lt_of_length (B := 10000) (by omega) hl
    rw [if_neg (by omega), if_pos (by omega), if_neg (by omega), if_pos (by omega)]

theorem high_eq {a b N : Nat} (hb : ∀ j, j < N → rd (bd 10000 a) (j : Int) = rd (bd 10000 b) (j : Int)) (ha : GL a ≤ N) (hb' : GL b ≤ N) : a = b := by
  have h1 := sumF_all ha
  have h2 := sumF_all hb'
  have h3 : ∀ k, k ≤ N → sumF (fun i => rd (bd 10000 a) (i : Int)) k = sumF (fun i => rd (bd 10000 b) (i : Int)) k := by
    intro k
    induction k with
    | zero => intro _; rfl
    | succ k ih => intro hk; simp only [sumF]; rw [ih (by omega), hb k (by omega)]
  have := h3 N (Nat.le_refl _)
  omega

theorem sumF_lt (n k : Nat) : 0 ≤ sumF (fun i => rd (bd 10000 n) (i : Int)) k ∧ sumF (fun i => rd (bd 10000 n) (i : Int)) k < (10000 : Int) ^ k := by
  rw [sumF_digits]
  have := Nat.mod_lt n (Nat.pow_pos (n := k) (show 0 < 10000 by omega))
  refine ⟨by omega, ?_⟩
  have h2 : (((10000 ^ k : Nat)) : Int) = (10000 : Int) ^ k := by rw [Int.natCast_pow]; rfl
  omega

theorem sumF_top {f g : Nat → Int} {j : Nat} : ∀ N, j < N → (∀ i, j < i → i < N → f i = g i) → sumF f N - sumF g N = sumF f (j + 1) - sumF g (j + 1)
  | 0, h, _ => by omega
  | N + 1, h, he => by
    rcases Nat.lt_or_ge j N with hl | hl
    · have ih := sumF_top (f := f) (g := g) N hl (fun i h1 h2 => he i h1 (by omega))
      simp only [sumF] at ih ⊢
      rw [he N hl (by omega)]
      omega
    · have : j = N := by omega
      subst this; rfl

theorem top_cmp {a b N j : Nat} (ha : GL a ≤ N) (hb : GL b ≤ N) (hj : j < N) (he : ∀ i, j < i → i < N → rd (bd 10000 a) (i : Int) = rd (bd 10000 b) (i : Int)) (hne : rd (bd 10000 a) (j : Int) ≠ rd (bd 10000 b) (j : Int)) :
    cmpI (rd (bd 10000 a) (j : Int)) (rd (bd 10000 b) (j : Int)) = cmpI a b := by
  have h := sumF_top (f := fun i => rd (bd 10000 a) (i : Int)) (g := fun i => rd (bd 10000 b) (i : Int)) N hj he
  rw [sumF_all ha, sumF_all hb] at h
  simp only [sumF] at h
  have h1 := sumF_lt a j
  have h2 := sumF_lt b j
  have hp : (0 : Int) < (10000 : Int) ^ j := Int.pow_pos (by omega)
  generalize rd (bd 10000 a) (j : Int) = x at *
  generalize rd (bd 10000 b) (j : Int) = y at *
  generalize sumF (fun i => rd (bd 10000 a) (i : Int)) j = s at *
  generalize sumF (fun i => rd (bd 10000 b) (i : Int)) j = t at *
  generalize (10000 : Int) ^ j = p at *
  have hd : (a : Int) - b = (s - t) + (x - y) * p := by rw [h, Int.sub_mul]; omega
  unfold cmpI
  rcases Int.lt_or_gt_of_ne hne with hl | hl
  · have h3 : (x - y) * p ≤ (-1) * p := Int.mul_le_mul_of_nonneg_right (by omega) (by omega)
    rw [if_pos hl, if_pos (by omega)]
  · have h3 : 1 * p ≤ (x - y) * p := Int.mul_le_mul_of_nonneg_right (by omega) (by omega)
    rw [if_neg (by omega), if_pos hl, if_neg (by omega), if_pos (by omega)]

/-- of the places from the end, those ahead of one are the greater ones -/
theorem down_prefix {N : Nat} {ini : List (Fin N)} {x : Fin N} (h : ini ++ [x] <+: down N) : (∀ i : Nat, x.1 < i → ∀ hi : i < N, (⟨i, hi⟩ : Fin N) ∈ ini) := by
  intro i hxi hi
  obtain ⟨r, hr⟩ := h
  have hl : ini.length < N := by
    have := congrArg List.length hr
    simp [down_length] at this; omega
  have hx : (down N)[ini.length]? = some x := by rw [← hr]; simp
  rw [down_get N _ hl] at hx
  have hx' : N - 1 - ini.length = x.1 := by injection hx with hx; rw [← hx]
  have hg := down_get N (N - 1 - i) (by omega)
  have he : (⟨N - 1 - (N - 1 - i), by omega⟩ : Fin N) = ⟨i, hi⟩ := by apply Fin.ext; show N - 1 - (N - 1 - i) = i; omega
  rw [he, ← hr, List.append_assoc, List.getElem?_append_left (by omega)] at hg
  exact List.mem_of_getElem? hg
theorem down_mem {N : Nat} (i : Nat) (hi : i < N) : (⟨i, hi⟩ : Fin N) ∈ down N := by simp [down]

end Go.Proofs.YtnhjidbjibehpaaGreatDoor.L3
