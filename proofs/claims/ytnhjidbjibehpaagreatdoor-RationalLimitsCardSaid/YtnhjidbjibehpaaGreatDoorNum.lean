/- Plain numbers: lists of digits in a base, decimal texts, the value of a text. No program in this text. -/
import Derived.Lib.ItoaNum
import Derived.Lib.Atoi
namespace Yd

/-! ### digits in a base, the lowest first -/

def bd (B n : Nat) : List Int := if _h : n = 0 ∨ B < 2 then [] else ((n % B : Nat) : Int) :: bd B (n / B)
termination_by n
decreasing_by exact Nat.div_lt_self (by omega) (by omega)

def bv (B : Nat) : List Int → Int
  | [] => 0
  | a :: r => a + B * bv B r

theorem bd_zero (B : Nat) : bd B 0 = [] := by rw [bd, dif_pos (Or.inl rfl)]
theorem bd_pos {B n : Nat} (hB : 2 ≤ B) (h : 0 < n) : bd B n = ((n % B : Nat) : Int) :: bd B (n / B) := by rw [bd, dif_neg (by omega)]
theorem bd_nil_iff {B n : Nat} (hB : 2 ≤ B) : bd B n = [] ↔ n = 0 := by
  constructor
  · intro h
    by_cases h0 : n = 0
    · exact h0
    · rw [bd_pos hB (by omega)] at h; cases h
  · rintro rfl; exact bd_zero B

theorem bv_bd {B : Nat} (hB : 2 ≤ B) : ∀ n : Nat, bv B (bd B n) = n := by
  intro n
  induction n using Nat.strongRecOn with
  | _ n ih =>
    by_cases h : n = 0
    · subst h; rw [bd_zero]; rfl
    · rw [bd_pos hB (by omega), bv, ih (n / B) (Nat.div_lt_self (by omega) (by omega))]
      have := Nat.mod_add_div n B
      exact_mod_cast this

theorem bd_mem {B : Nat} (hB : 2 ≤ B) : ∀ n : Nat, ∀ d ∈ bd B n, 0 ≤ d ∧ d < (B : Int) := by
  intro n
  induction n using Nat.strongRecOn with
  | _ n ih =>
    intro d hd
    by_cases h : n = 0
    · subst h; rw [bd_zero] at hd; cases hd
    · rw [bd_pos hB (by omega)] at hd
      rcases List.mem_cons.1 hd with rfl | hd
      · have := Nat.mod_lt n (show B > 0 by omega)
        omega
      · exact ih _ (Nat.div_lt_self (by omega) (by omega)) d hd

theorem bd_getD {B : Nat} (hB : 2 ≤ B) : ∀ (i n : Nat), (bd B n).getD i 0 = ((n / B ^ i % B : Nat) : Int)
  | 0, n => by
    by_cases h : n = 0
    · subst h; rw [bd_zero]; simp
    · rw [bd_pos hB (by omega)]; simp
  | i + 1, n => by
    by_cases h : n = 0
    · subst h; rw [bd_zero]; simp
    · rw [bd_pos hB (by omega), List.getD_cons_succ, bd_getD hB i (n / B), Nat.div_div_eq_div_mul, Nat.pow_succ, Nat.mul_comm B]

theorem bd_lt_pow {B : Nat} (hB : 2 ≤ B) : ∀ n : Nat, n < B ^ (bd B n).length := by
  intro n
  induction n using Nat.strongRecOn with
  | _ n ih =>
    by_cases h : n = 0
    · subst h; rw [bd_zero]; simp
    · rw [bd_pos hB (by omega), List.length_cons, Nat.pow_succ]
      have := ih (n / B) (Nat.div_lt_self (by omega) (by omega))
      exact (Nat.div_lt_iff_lt_mul (by omega)).1 this

theorem bd_pow_le {B : Nat} (hB : 2 ≤ B) : ∀ n k : Nat, (bd B n).length = k + 1 → B ^ k ≤ n := by
  intro n
  induction n using Nat.strongRecOn with
  | _ n ih =>
    intro k hk
    by_cases h : n = 0
    · subst h; rw [bd_zero] at hk; cases hk
    · rw [bd_pos hB (by omega), List.length_cons] at hk
      cases k with
      | zero => simp; omega
      | succ k =>
        have := ih (n / B) (Nat.div_lt_self (by omega) (by omega)) k (by omega)
        rw [Nat.pow_succ]
        exact (Nat.le_div_iff_mul_le (by omega)).1 this

theorem bd_length_le {B : Nat} (hB : 2 ≤ B) (n k : Nat) (h : n < B ^ k) : (bd B n).length ≤ k := by
  rcases Nat.lt_or_ge k (bd B n).length with hl | hl
  · exfalso
    have h1 := bd_pow_le hB n ((bd B n).length - 1) (by omega)
    have h2 : B ^ k ≤ B ^ ((bd B n).length - 1) := Nat.pow_le_pow_right (by omega) (by omega)
    omega
  · exact hl

theorem bd_length_mono {B : Nat} (hB : 2 ≤ B) {n m : Nat} (h : n ≤ m) : (bd B n).length ≤ (bd B m).length :=
  bd_length_le hB _ _ (Nat.lt_of_le_of_lt h (bd_lt_pow hB m))

theorem lt_of_length {B : Nat} (hB : 2 ≤ B) {n m : Nat} (h : (bd B n).length < (bd B m).length) : n < m := by
  rcases Nat.lt_or_ge n m with hl | hl
  · exact hl
  · have := bd_length_mono hB hl
    omega

/-- without zeros at the end -/
def trimL (l : List Int) : List Int := (l.reverse.dropWhile (· == 0)).reverse

theorem trimL_nil : trimL [] = [] := rfl
theorem trimL_snoc_zero (l : List Int) : trimL (l ++ [0]) = trimL l := by simp [trimL]
theorem trimL_snoc (l : List Int) {a : Int} (h : a ≠ 0) : trimL (l ++ [a]) = l ++ [a] := by simp [trimL, h]

theorem bv_snoc (B : Nat) (l : List Int) (a : Int) : bv B (l ++ [a]) = bv B l + a * (B : Int) ^ l.length := by
  induction l with
  | nil => simp [bv]
  | cons b r ih =>
    simp only [List.cons_append, bv, ih, List.length_cons]
    rw [show (B : Int) ^ (r.length + 1) = (B : Int) ^ r.length * B from Int.pow_succ ..]
    have : (B : Int) * (bv B r + a * (B : Int) ^ r.length) = B * bv B r + a * ((B : Int) ^ r.length * B) := by
      rw [Int.mul_add]; congr 1; rw [Int.mul_comm (B : Int), Int.mul_assoc]
    omega

theorem bv_trimL (B : Nat) (l : List Int) : bv B (trimL l) = bv B l := by
  suffices h : ∀ r : List Int, bv B (trimL r.reverse) = bv B r.reverse by simpa using h l.reverse
  intro r
  induction r with
  | nil => rfl
  | cons a r ih =>
    by_cases h : a = 0
    · subst h; rw [List.reverse_cons, trimL_snoc_zero, ih, bv_snoc]; simp
    · rw [List.reverse_cons, trimL_snoc _ h]

theorem bv_nonneg (B : Nat) : ∀ l : List Int, (∀ d ∈ l, 0 ≤ d) → 0 ≤ bv B l
  | [], _ => Int.le_refl _
  | a :: r, h => by
    have h1 := h a (List.mem_cons_self ..)
    have h2 := bv_nonneg B r (fun d hd => h d (List.mem_cons_of_mem _ hd))
    have h3 : 0 ≤ (B : Int) * bv B r := Int.mul_nonneg (by omega) h2
    simp only [bv]; omega

theorem bv_lt_pow (B : Nat) : ∀ l : List Int, (∀ d ∈ l, d < (B : Int)) → bv B l < (B : Int) ^ l.length
  | [], _ => by simp [bv]
  | a :: r, h => by
    have h1 := h a (List.mem_cons_self ..)
    have h2 := bv_lt_pow B r (fun d hd => h d (List.mem_cons_of_mem _ hd))
    simp only [bv, List.length_cons]
    rw [show (B : Int) ^ (r.length + 1) = (B : Int) ^ r.length * B from Int.pow_succ ..]
    have h3 : (B : Int) * (bv B r + 1) ≤ (B : Int) * (B : Int) ^ r.length := Int.mul_le_mul_of_nonneg_left (by omega) (by omega)
    rw [Int.mul_add, Int.mul_one, Int.mul_comm (B : Int) ((B : Int) ^ r.length)] at h3
    omega

/-- a list of digits that does not end in 0 is the list of the digits of its value -/
theorem bd_of_list {B : Nat} (hB : 2 ≤ B) : ∀ l : List Int, (∀ d ∈ l, 0 ≤ d ∧ d < (B : Int)) → l.getLast? ≠ some 0 → l = bd B (bv B l).toNat
  | [], _, _ => by simp [bv, bd_zero]
  | a :: r, h, hl => by
    have ha := h a (List.mem_cons_self ..)
    have hr := fun d hd => h d (List.mem_cons_of_mem _ hd)
    have hn := bv_nonneg B r (fun d hd => (hr d hd).1)
    obtain ⟨n, hn'⟩ := Int.eq_ofNat_of_zero_le hn
    obtain ⟨c, rfl⟩ := Int.eq_ofNat_of_zero_le ha.1
    have hc : c < B := by omega
    have hv : (bv B ((c : Int) :: r)).toNat = c + B * n := by
      simp only [bv, hn']; norm_cast
    rw [hv]
    have hr' : r = bd B n := by
      have hl' : r.getLast? ≠ some 0 := by
        cases r with
        | nil => simp
        | cons b t => simpa [List.getLast?_cons_cons] using hl
      have := bd_of_list hB r hr hl'
      rwa [hn'] at this
    by_cases h0 : c + B * n = 0
    · exfalso
      have hc0 : c = 0 := by omega
      have hn0 : n = 0 := by
        rcases Nat.eq_zero_or_pos n with h | h
        · exact h
        · have : 0 < B * n := Nat.mul_pos (by omega) h
          omega
      subst hc0; subst hn0; rw [bd_zero] at hr'; subst hr'; simp at hl
    · rw [bd_pos hB (by omega), Nat.add_mul_mod_self_left, Nat.mod_eq_of_lt hc, Nat.add_mul_div_left _ _ (by omega), Nat.div_eq_of_lt hc, Nat.zero_add, ← hr']

theorem trimL_last (l : List Int) : (trimL l).getLast? ≠ some 0 := by
  suffices h : ∀ r : List Int, (trimL r.reverse).getLast? ≠ some 0 by simpa using h l.reverse
  intro r
  induction r with
  | nil => simp [trimL]
  | cons a r ih =>
    by_cases h : a = 0
    · subst h; rw [List.reverse_cons, trimL_snoc_zero]; exact ih
    · rw [List.reverse_cons, trimL_snoc _ h]; simpa using h

theorem trimL_mem {l : List Int} {d : Int} (h : d ∈ trimL l) : d ∈ l := by
  unfold trimL at h
  have h1 := List.mem_reverse.1 h
  have h2 := (List.dropWhile_sublist (p := fun x : Int => x == 0) (l := l.reverse)).mem h1
  exact List.mem_reverse.1 h2

theorem trimL_bd {B : Nat} (hB : 2 ≤ B) (l : List Int) (h : ∀ d ∈ l, 0 ≤ d ∧ d < (B : Int)) : trimL l = bd B (bv B l).toNat := by
  have := bd_of_list hB (trimL l) (fun d hd => h d (trimL_mem hd)) (trimL_last l)
  rwa [bv_trimL] at this

theorem trimL_of_bd {B : Nat} (hB : 2 ≤ B) (n : Nat) : trimL (bd B n) = bd B n := by
  rw [trimL_bd hB _ (bd_mem hB n), bv_bd hB]; simp

theorem bd_last {B : Nat} (hB : 2 ≤ B) (n : Nat) : (bd B n).getLast? ≠ some 0 := by
  rw [← trimL_of_bd hB n]; exact trimL_last _

theorem bd_mul {B n : Nat} (hB : 2 ≤ B) (h : 0 < n) : bd B (n * B) = 0 :: bd B n := by
  rw [bd_pos hB (Nat.mul_pos h (by omega)), Nat.mul_mod_left, Nat.mul_div_left _ (by omega)]; rfl

theorem bd_len_pos {B n : Nat} (hB : 2 ≤ B) (h : 0 < n) : 0 < (bd B n).length := by
  rw [bd_pos hB h]; simp

end Yd
