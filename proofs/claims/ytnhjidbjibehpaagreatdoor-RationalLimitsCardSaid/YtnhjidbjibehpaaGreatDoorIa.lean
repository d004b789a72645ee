/- Layer 3, walked: a group of a number; the folding of groups. -/
import Derived.Test.YtnhjidbjibehpaaGreatDoorRef0
import Derived.Test.YtnhjidbjibehpaaGreatDoorNum
namespace Go.Proofs.YtnhjidbjibehpaaGreatDoor.L3
open Go.RowKit Go.Proofs.YtnhjidbjibehpaaGreatDoorW.PrintWords Go.Proofs.YtnhjidbjibehpaaGreatDoorW.PrintLast Go.Proofs.YtnhjidbjibehpaaGreatDoorW.PrintMore Yd
set_option linter.unusedVariables false
set_option linter.unusedSimpArgs false

theorem info3 : (Tryz.prog.info? 3).map (fun i => (i.zero, i.size, i.bytes)) = some (some (.int .i64 0), 1, 8) := by kernel_rfl

/-- The slice value reads as the list. -/
def Ls (w : World) (v : Value) (xs : List Int) : Prop := ∃ A c, v = .slice A xs.length c ∧ xs.length ≤ c ∧ ReadsInt w .i64 A xs.length xs
theorem Ls.below {w w1 : World} {v : Value} {xs : List Int} (h : Ls w v xs) (hb : Below w.heap.size w w1) : Ls w1 v xs := by
  obtain ⟨A, c, e, hc, hr⟩ := h
  exact ⟨A, c, e, hc, hr.below hb⟩
theorem Ls.of_own {w : World} {base : Nat} {v : Value} {xs : List Int} (h : w.ownsRow base 3 1 v xs.length (nums .i64 xs)) : Ls w v xs := by
  obtain ⟨A, c, rfl, hr⟩ := own_reads h
  exact ⟨A, c, rfl, own_le h, hr⟩
theorem Ls.nil (w : World) : Ls w (.slice none 0 0) [] := ⟨none, 0, rfl, Nat.le_refl _, rfl, by simp, fun h => absurd h (Nat.lt_irrefl 0)⟩

/-- number.at -/
theorem at_calls (A : Option Addr) (c : Nat) (xs : List Int) (i : Int) (w : World) (hr : ReadsInt w .i64 A xs.length xs) (hi : 0 ≤ i) :
    Calls Tryz.prog 114 #[.slice A xs.length c, .int .i64 i] w fun e w' => e = .returned (.int .i64 (rd xs i)) ∧ w = w' := by
  by_cases hlt : i < (xs.length : Int)
  · obtain ⟨ad, rfl, hc⟩ := hr.at_ i hi hlt
    have b0 : decide (i < (xs.length : Int)) = true := decide_eq_true hlt
    have p := eq_true hi
    have q := eq_true hlt
    clear hr hlt hi
    go_enter Tryz.func114, Tryz.ntmps114
    go_wp2
    go_ret
    exact ⟨rfl, rfl⟩
  · have b0 : decide (i < (xs.length : Int)) = false := decide_eq_false hlt
    have e : rd xs i = 0 := by unfold rd; rw [List.getD_eq_getElem?_getD, List.getElem?_eq_none (by omega)]; rfl
    have E := Aside0.mk e
    clear hr hlt e
    go_enter Tryz.func114, Tryz.ntmps114
    go_wp2
    go_ret
    exact ⟨by rw [E.out]; rfl, rfl⟩

/-! ### folding -/

/-- what the first k digits come to -/
def sumF (f : Nat → Int) : Nat → Int
  | 0 => 0
  | k + 1 => sumF f k + f k * (10000 : Int) ^ k

/-- after k rounds: the digits so far, and what is carried -/
structure FInv (f : Nat → Int) (n k : Nat) (c : Int) (o : List Int) : Prop where
  len : o.length = k
  dig : ∀ d ∈ o, 0 ≤ d ∧ d < 10000
  sum : bv 10000 o + c * (10000 : Int) ^ k = sumF f (min k n)
  lo : -1 ≤ c
  hi : c ≤ 9999
  kn : k ≤ n + 1
  last : k = n + 1 → c = 0

theorem FInv.start (f : Nat → Int) (n : Nat) : FInv f n 0 0 [] := ⟨rfl, (fun _ h => by cases h), by simp [bv, sumF], by omega, by omega, by omega, by omega⟩

theorem FInv.carry_nonneg {f : Nat → Int} {n : Nat} {c : Int} {o : List Int} (h : FInv f n n c o) (hs : 0 ≤ sumF f n) : 0 ≤ c := by
  have h1 := h.sum
  rw [Nat.min_self] at h1
  have h2 := bv_lt_pow 10000 o (fun d hd => (h.dig d hd).2)
  rw [h.len] at h2
  rcases Int.lt_or_le c 0 with hc | hc
  · exfalso
    have : c = -1 := by have := h.lo; omega
    subst this
    have h3 : ((10000 : Nat) : Int) = 10000 := rfl
    rw [h3] at h2
    omega
  · exact hc

/-- The digit that a round writes, and what it carries on. -/
def digS (s : Int) : Int := if s < 0 then s + 10000 else if s ≥ 10000 then s % 10000 else s
def digC (s : Int) : Int := if s < 0 then -1 else if s ≥ 10000 then s / 10000 else 0

theorem digS_C {s : Int} (h0 : -10000 ≤ s) (h1 : s ≤ 99999999) : digS s + digC s * 10000 = s ∧ 0 ≤ digS s ∧ digS s < 10000 ∧ -1 ≤ digC s ∧ digC s ≤ 9999 := by
  unfold digS digC
  split
  · omega
  · split <;> omega

theorem FInv.step {f : Nat → Int} {n k : Nat} {c : Int} {o : List Int} (h : FInv f n k c o) (hs : 0 ≤ sumF f n) (h0 : ∀ j, n ≤ j → f j = 0) (hf : ∀ j, -9999 ≤ f j ∧ f j ≤ 99980001)
    (hgo : k < n ∨ c ≠ 0) : FInv f n (k + 1) (digC (f k + c)) (o ++ [digS (f k + c)]) := by
  have hb := hf k
  have hl := h.lo
  have hh := h.hi
  obtain ⟨e1, e2, e3, e4, e5⟩ := digS_C (s := f k + c) (by omega) (by omega)
  have hk1 : k ≤ n := by
    rcases hgo with hgo | hgo
    · omega
    · rcases Nat.lt_or_ge n k with hk | hk
      · exact absurd (h.last (by have := h.kn; omega)) hgo
      · exact hk
  refine ⟨by simp [h.len], ?_, ?_, e4, e5, by omega, ?_⟩
  · intro d hd
    rcases List.mem_append.1 hd with hd | hd
    · exact h.dig d hd
    · rw [List.mem_singleton] at hd; subst hd; exact ⟨e2, e3⟩
  · rw [bv_snoc, h.len]
    have h1 := h.sum
    rw [Nat.min_eq_left hk1] at h1
    have h2 : sumF f (min (k + 1) n) = sumF f k + f k * (10000 : Int) ^ k := by
      rcases Nat.lt_or_ge k n with hk | hk
      · rw [Nat.min_eq_left (by omega)]; rfl
      · have : k = n := by omega
        subst this
        rw [Nat.min_eq_right (by omega), h0 k (Nat.le_refl _)]; simp
    rw [h2, ← h1, show ((10000 : Nat) : Int) = 10000 from rfl, Int.pow_succ]
    generalize hS : digS (f k + c) = S at *
    generalize hC : digC (f k + c) = C at *
    have h3 : f k = S + C * 10000 - c := by omega
    rw [h3]
    generalize (10000 : Int) ^ k = p
    rw [Int.sub_mul, Int.add_mul, Int.mul_assoc, Int.mul_comm 10000 p]
    omega
  · intro hk
    have : k = n := by omega
    subst this
    have hc := h.carry_nonneg hs
    rw [h0 k (Nat.le_refl _), Int.zero_add]
    unfold digC
    rw [if_neg (by omega), if_neg (by omega)]

theorem FInv.done {f : Nat → Int} {n k : Nat} {c : Int} {o : List Int} (h : FInv f n k c o) (hk : ¬ k < n) (hc : c = 0) : (∀ d ∈ o, 0 ≤ d ∧ d < 10000) ∧ bv 10000 o = sumF f n ∧ o.length ≤ n + 1 := by
  refine ⟨h.dig, ?_, by rw [h.len]; exact h.kn⟩
  have := h.sum
  rw [hc, Nat.min_eq_right (by omega)] at this
  omega

end Go.Proofs.YtnhjidbjibehpaaGreatDoor.L3
