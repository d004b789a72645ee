/- Layer 3, plain: what number.over computes. -/
import Derived.Test.YtnhjidbjibehpaaGreatDoorIi
namespace Go.Proofs.YtnhjidbjibehpaaGreatDoor.L3
open Go.Shelf Go.RowKit Go.Proofs.YtnhjidbjibehpaaGreatDoorW.PrintWords Go.Proofs.YtnhjidbjibehpaaGreatDoorW.PrintLast Go.Proofs.YtnhjidbjibehpaaGreatDoorW.PrintMore Yd
set_option linter.unusedVariables false
set_option linter.unusedSimpArgs false

def ovS (l m : Nat) (s : Nat × List Int) (p : Nat) : Nat × List Int :=
  ((s.1 * 10000 + l / 10000 ^ p % 10000) % m, s.2.set p (((s.1 * 10000 + l / 10000 ^ p % 10000) / m : Nat) : Int))
def ov (l m : Nat) (pre : List (Fin (GL l))) : Nat × List Int := pre.foldl (fun s p => ovS l m s p.1) (0, List.replicate (GL l) 0)
theorem ov_nil (l m : Nat) : ov l m [] = (0, List.replicate (GL l) 0) := rfl
theorem ov_snoc (l m : Nat) (pre : List (Fin (GL l))) (x : Fin (GL l)) : ov l m (pre ++ [x]) = ovS l m (ov l m pre) x.1 := by simp [ov]
theorem ov_len (l m : Nat) : ∀ pre : List (Fin (GL l)), (ov l m pre).2.length = GL l := by
  intro pre
  suffices h : ∀ r : List (Fin (GL l)), (ov l m r.reverse).2.length = GL l by simpa using h pre.reverse
  intro r
  induction r with
  | nil => simp [ov]
  | cons x r ih => rw [List.reverse_cons, ov_snoc]; simp [ovS, ih]
theorem ov_lt (l : Nat) {m : Nat} (hm : 0 < m) (pre : List (Fin (GL l))) : (ov l m pre).1 < m := by
  suffices h : ∀ r : List (Fin (GL l)), (ov l m r.reverse).1 < m by simpa using h pre.reverse
  intro r
  cases r with
  | nil => simpa [ov] using hm
  | cons x r => rw [List.reverse_cons, ov_snoc]; exact Nat.mod_lt _ hm

theorem div_digit (l m k : Nat) (hm : 0 < m) : ((l / 10000 ^ (k + 1) % m) * 10000 + l / 10000 ^ k % 10000) / m = l / m / 10000 ^ k % 10000 ∧ ((l / 10000 ^ (k + 1) % m) * 10000 + l / 10000 ^ k % 10000) % m = l / 10000 ^ k % m := by
  have e1 : l / 10000 ^ (k + 1) = l / 10000 ^ k / 10000 := by rw [Nat.pow_succ, Nat.div_div_eq_div_mul]
  have e2 : l / m / 10000 ^ k = l / 10000 ^ k / m := by rw [Nat.div_div_eq_div_mul, Nat.mul_comm, Nat.div_div_eq_div_mul]
  rw [e1, e2]
  generalize l / 10000 ^ k = x
  have h1 := Nat.div_add_mod x 10000
  have h2 := Nat.div_add_mod (x / 10000) m
  have h3 := Nat.mod_lt (x / 10000) hm
  generalize hr : x / 10000 % m = r at *
  generalize hu : x % 10000 = u at *
  have hu' : u < 10000 := by rw [← hu]; exact Nat.mod_lt _ (by omega)
  generalize hq : x / 10000 / m = q at *
  have hx : x = m * (q * 10000) + (r * 10000 + u) := by
    have : 10000 * (m * q + r) = m * (q * 10000) + r * 10000 := by rw [Nat.mul_add, Nat.mul_comm 10000 (m * q), Nat.mul_assoc, Nat.mul_comm 10000 r]
    rw [← h2] at h1
    omega
  have hle : (r * 10000 + u) / m < 10000 := by
    rw [Nat.div_lt_iff_lt_mul hm]
    have : (r + 1) * 10000 ≤ m * 10000 := Nat.mul_le_mul_right _ h3
    omega
  constructor
  · rw [hx, Nat.mul_add_div hm, Nat.add_comm (q * 10000), Nat.add_mul_mod_self_right, Nat.mod_eq_of_lt hle]
  · rw [hx, Nat.mul_add_mod]

theorem ov_down (l : Nat) {m : Nat} (hm : 0 < m) : ∀ k, k ≤ GL l → (ov l m ((down (GL l)).take k)).1 = l / 10000 ^ (GL l - k) % m ∧
    ∀ j, GL l - k ≤ j → j < GL l → (ov l m ((down (GL l)).take k)).2.getD j 0 = ((l / m / 10000 ^ j % 10000 : Nat) : Int) := by
  intro k
  induction k with
  | zero =>
    intro _
    have : l / 10000 ^ GL l = 0 := Nat.div_eq_of_lt (lt_pow_GL (Nat.le_refl _))
    refine ⟨by simp [ov, this], fun j h1 h2 => by omega⟩
  | succ k ih =>
    intro hk
    obtain ⟨i1, i2⟩ := ih (by omega)
    rw [down_take_succ _ k (by omega), ov_snoc]
    have e : GL l - k = (GL l - (k + 1)) + 1 := by omega
    have e2 : GL l - 1 - k = GL l - (k + 1) := by omega
    obtain ⟨d1, d2⟩ := div_digit l m (GL l - (k + 1)) hm
    simp only [ovS, e2]
    rw [i1, e, d1, d2]
    refine ⟨rfl, fun j h1 h2 => ?_⟩
    rcases Nat.eq_or_lt_of_le h1 with h | h
    · subst h
      rw [List.getD_eq_getElem?_getD, List.getElem?_set_self (by rw [ov_len]; omega)]; rfl
    · rw [List.getD_eq_getElem?_getD, List.getElem?_set_ne (by omega), ← List.getD_eq_getElem?_getD]
      exact i2 j (by omega) h2

theorem bv_sumF : ∀ (q : List Int) (f : Nat → Int), (∀ j, j < q.length → q.getD j 0 = f j) → bv 10000 q = sumF f q.length := by
  intro q
  suffices h : ∀ r : List Int, ∀ f : Nat → Int, (∀ j, j < r.reverse.length → r.reverse.getD j 0 = f j) → bv 10000 r.reverse = sumF f r.reverse.length by
    intro f hf
    have := h q.reverse f (by simpa using hf)
    simpa using this
  intro r
  induction r with
  | nil => intro f _; rfl
  | cons a r ih =>
    intro f hf
    have h1 := hf r.length (by simp)
    rw [List.reverse_cons, List.getD_eq_getElem?_getD, List.getElem?_append_right (by simp)] at h1
    have h1' : a = f r.length := by simpa using h1
    rw [List.reverse_cons, bv_snoc, ih f (fun j hj => ?_)]
    · simp only [List.length_append, List.length_reverse, List.length_singleton, sumF]
      rw [h1']; rfl
    · have hjr : j < r.length := by simpa using hj
      have h2 := hf j (by simp; omega)
      rw [List.reverse_cons, List.getD_eq_getElem?_getD, List.getElem?_append_left hj, ← List.getD_eq_getElem?_getD] at h2
      exact h2

theorem ov_all (l : Nat) {m : Nat} (hm : 0 < m) : (ov l m (down (GL l))).1 = l % m ∧ trimL (ov l m (down (GL l))).2 = bd 10000 (l / m) := by
  have h := ov_down l hm (GL l) (Nat.le_refl _)
  rw [down_take_all] at h
  obtain ⟨h1, h2⟩ := h
  refine ⟨by simpa using h1, ?_⟩
  have hd : ∀ j, j < (ov l m (down (GL l))).2.length → (ov l m (down (GL l))).2.getD j 0 = rd (bd 10000 (l / m)) (j : Int) := by
    intro j hj
    rw [ov_len] at hj
    rw [h2 j (by omega) hj, rd_bd]
  have hs := bv_sumF _ _ hd
  rw [ov_len, sumF_all (n := l / m) (k := GL l)] at hs
  · refine trimL_num (fun d hdm => ?_) hs
    obtain ⟨j, hj, rfl⟩ := List.getElem_of_mem hdm
    have := hd j hj
    rw [List.getD_eq_getElem?_getD, List.getElem?_eq_getElem hj] at this
    have hr := rd_bd_range (l / m) j
    simp only [Option.getD_some] at this
    omega
  · exact bd_length_mono (by omega) (Nat.div_le_self _ _)

theorem search_is {m D r : Nat} (hm : 0 < m) (hD : D / m ≤ 9999) (hr : r ≤ 9999) (h1 : ∀ t, t < r → tooMuch m D t = false) (h2 : ∀ t, r ≤ t → t < 9999 → tooMuch m D t = true) : r = D / m := by
  rcases Nat.lt_trichotomy r (D / m) with h | h | h
  · exfalso
    have := of_decide_eq_true (h2 r (Nat.le_refl _) (by omega))
    have h3 : m * (r + 1) ≤ m * (D / m) := Nat.mul_le_mul_left _ h
    have h4 := Nat.mul_div_le D m
    omega
  · exact h
  · exfalso
    have := of_decide_eq_false (h1 _ h)
    have h4 := Nat.lt_mul_div_succ D hm
    exact this h4
theorem tooMuch_mono {m D : Nat} : ∀ a b, a ≤ b → b < 9999 → tooMuch m D a = true → tooMuch m D b = true := by
  intro a b hab _ h
  have h := of_decide_eq_true h
  refine decide_eq_true (Nat.lt_of_lt_of_le h (Nat.mul_le_mul_left _ (by omega)))
theorem step_le {r m u : Nat} (hr : r < m) (hu : u < 10000) : (r * 10000 + u) / m ≤ 9999 := by
  have : (r * 10000 + u) / m < 10000 := by
    rw [Nat.div_lt_iff_lt_mul (by omega)]
    have : (r + 1) * 10000 ≤ m * 10000 := Nat.mul_le_mul_right _ hr
    omega
  omega
theorem GL_step {r u k : Nat} (hr : (bd 10000 r).length ≤ k) (hu : u < 10000) : GL (r * 10000 + u) ≤ k + 1 := by
  apply GL_lt
  have h := lt_pow_GL (n := r) hr
  rw [Nat.pow_succ]
  generalize 10000 ^ k = p at *
  omega
theorem cons_trim (r u : Nat) (hu : u < 10000) : trimL ((u : Int) :: bd 10000 r) = bd 10000 (r * 10000 + u) := by
  refine trimL_num (fun d hd => ?_) ?_
  · rcases List.mem_cons.1 hd with rfl | hd
    · omega
    · have h := bd_mem (B := 10000) (by omega) r d hd
      rw [show ((10000 : Nat) : Int) = 10000 from rfl] at h
      exact h
  · simp only [bv, bv_bd (B := 10000) (by omega)]
    rw [show ((10000 : Nat) : Int) = 10000 from rfl]; omega

end Go.Proofs.YtnhjidbjibehpaaGreatDoor.L3
