/- Plain decimal texts: which texts are integers of at most 200 digits, and of which number. No program in this text. -/
import Derived.Lib.ItoaNum
import Derived.Test.YtnhjidbjibehpaaGreatDoorNum
namespace Yd
open Go.Lib

def isDig (b : UInt8) : Bool := decide (48 ≤ b.toNat) && decide (b.toNat ≤ 57)
def dval (l : List UInt8) : Nat := l.foldl (fun a b => a * 10 + (b.toNat - 48)) 0

theorem isDig_iff {b : UInt8} : isDig b = true ↔ 48 ≤ b.toNat ∧ b.toNat ≤ 57 := by simp [isDig]
theorem dig_toNat {d : Nat} (h : d < 10) : (UInt8.ofNat (48 + d)).toNat = 48 + d := by
  rw [UInt8.toNat_ofNat']; exact Nat.mod_eq_of_lt (by omega)
theorem isDig_ofNat {d : Nat} (h : d < 10) : isDig (UInt8.ofNat (48 + d)) = true := by rw [isDig_iff, dig_toNat h]; omega
theorem ofNat_dig {b : UInt8} (h : isDig b = true) : UInt8.ofNat (48 + (b.toNat - 48)) = b := by
  have := isDig_iff.1 h
  rw [show 48 + (b.toNat - 48) = b.toNat by omega]; exact UInt8.ofNat_toNat

theorem dval_nil : dval [] = 0 := rfl
theorem dval_snoc (l : List UInt8) (b : UInt8) : dval (l ++ [b]) = dval l * 10 + (b.toNat - 48) := by simp [dval]
theorem dval_append (l : List UInt8) : ∀ r : List UInt8, dval (l ++ r) = dval l * 10 ^ r.length + dval r := by
  intro r
  suffices h : ∀ q : List UInt8, dval (l ++ q.reverse) = dval l * 10 ^ q.length + dval q.reverse by simpa using h r.reverse
  intro q
  induction q with
  | nil => simp [dval_nil]
  | cons b q ih =>
    rw [List.reverse_cons, ← List.append_assoc, dval_snoc, dval_snoc, ih, List.length_cons, Nat.pow_succ, Nat.add_mul, Nat.mul_assoc]; omega

theorem dval_lt : ∀ l : List UInt8, l.all isDig = true → dval l < 10 ^ l.length := by
  intro l
  suffices h : ∀ q : List UInt8, q.reverse.all isDig = true → dval q.reverse < 10 ^ q.length by
    intro hl; simpa using h l.reverse (by simpa using hl)
  intro q
  induction q with
  | nil => simp [dval_nil]
  | cons b q ih =>
    intro h
    rw [List.reverse_cons, List.all_append, Bool.and_eq_true] at h
    have hb : isDig b = true := by simpa using h.2
    have := isDig_iff.1 hb
    have h1 := ih h.1
    rw [List.reverse_cons, dval_snoc, List.length_cons, Nat.pow_succ]; omega

theorem decDigits_small {u : Nat} (h : u < 10) : decDigits u = [UInt8.ofNat (48 + u)] := by rw [decDigits, dif_pos h]
theorem decDigits_big {u : Nat} (h : ¬ u < 10) : decDigits u = decDigits (u / 10) ++ [UInt8.ofNat (48 + u % 10)] := by rw [decDigits, dif_neg h]

theorem decDigits_ne (u : Nat) : decDigits u ≠ [] := by
  by_cases h : u < 10
  · rw [decDigits_small h]; simp
  · rw [decDigits_big h]; simp

theorem dval_decDigits : ∀ u : Nat, dval (decDigits u) = u := by
  intro u
  induction u using Nat.strongRecOn with
  | _ u ih =>
    by_cases h : u < 10
    · rw [decDigits_small h, show [UInt8.ofNat (48 + u)] = [] ++ [UInt8.ofNat (48 + u)] from rfl, dval_snoc, dig_toNat h, dval_nil]; omega
    · rw [decDigits_big h, dval_snoc, ih _ (by omega), dig_toNat (by omega)]; omega

theorem decDigits_all : ∀ u : Nat, (decDigits u).all isDig = true := by
  intro u
  induction u using Nat.strongRecOn with
  | _ u ih =>
    by_cases h : u < 10
    · rw [decDigits_small h, List.all_cons, isDig_ofNat h]; rfl
    · rw [decDigits_big h, List.all_append, ih _ (by omega), List.all_cons, isDig_ofNat (show u % 10 < 10 by omega)]; rfl

theorem decDigits_head : ∀ u : Nat, 0 < u → (decDigits u).head? ≠ some 48 := by
  intro u
  induction u using Nat.strongRecOn with
  | _ u ih =>
    intro h0
    by_cases h : u < 10
    · rw [decDigits_small h]
      intro hc
      have : UInt8.ofNat (48 + u) = 48 := by simpa using hc
      have := congrArg UInt8.toNat this
      rw [dig_toNat h] at this
      have h48 : (48 : UInt8).toNat = 48 := rfl
      omega
    · rw [decDigits_big h]
      have := ih (u / 10) (by omega) (by omega)
      cases hd : decDigits (u / 10) with
      | nil => exact absurd hd (decDigits_ne _)
      | cons a t => rw [hd] at this; simpa using this

theorem decDigits_zero : decDigits 0 = [48] := by rw [decDigits_small (by omega)]; rfl

theorem dval_pos_of_head {l : List UInt8} (ha : l.all isDig = true) (hn : l ≠ []) (hh : l.head? ≠ some 48) : 0 < dval l := by
  cases l with
  | nil => exact absurd rfl hn
  | cons b r =>
    have hb : isDig b = true := by simp at ha; exact ha.1
    have hb' := isDig_iff.1 hb
    have hne : b.toNat ≠ 48 := by
      intro hc
      apply hh
      have : b = 48 := by
        apply UInt8.toNat_inj.1; rw [hc]; rfl
      simp [this]
    rw [show b :: r = [b] ++ r from rfl, dval_append]
    have h1 : dval [b] = b.toNat - 48 := by simp [dval]
    have h2 : 0 < 10 ^ r.length := Nat.pow_pos (by omega)
    have h3 : 1 * 10 ^ r.length ≤ dval [b] * 10 ^ r.length := Nat.mul_le_mul_right _ (by omega)
    omega

theorem decDigits_dval : ∀ l : List UInt8, l.all isDig = true → l ≠ [] → (l = [48] ∨ l.head? ≠ some 48) → decDigits (dval l) = l := by
  intro l
  suffices h : ∀ q : List UInt8, q.reverse.all isDig = true → q.reverse ≠ [] → (q.reverse = [48] ∨ q.reverse.head? ≠ some 48) → decDigits (dval q.reverse) = q.reverse by
    simpa using h l.reverse
  intro q
  induction q with
  | nil => intro _ h; exact absurd rfl h
  | cons b q ih =>
    intro ha _ hh
    rw [List.reverse_cons] at ha hh ⊢
    rw [List.all_append, Bool.and_eq_true] at ha
    have hb : isDig b = true := by simpa using ha.2
    have hb' := isDig_iff.1 hb
    rw [dval_snoc]
    by_cases hq : q = []
    · subst hq
      rw [List.reverse_nil, dval_nil, decDigits_small (by omega), Nat.zero_mul, Nat.zero_add, ofNat_dig hb]; rfl
    · have hqr : q.reverse ≠ [] := by simpa using hq
      have hh' : q.reverse.head? ≠ some 48 := by
        rcases hh with hh | hh
        · exfalso
          have := congrArg List.length hh
          simp at this
          exact hq this
        · cases hr : q.reverse with
          | nil => exact absurd hr hqr
          | cons a t => rw [hr] at hh; simpa using hh
      have hp := dval_pos_of_head ha.1 hqr hh'
      rw [decDigits_big (by omega), show (dval q.reverse * 10 + (b.toNat - 48)) / 10 = dval q.reverse by omega,
        show (dval q.reverse * 10 + (b.toNat - 48)) % 10 = b.toNat - 48 by omega, ih ha.1 hqr (Or.inr hh'), ofNat_dig hb]

theorem decDigits_inj {a b : Nat} (h : decDigits a = decDigits b) : a = b := by rw [← dval_decDigits a, h, dval_decDigits]

theorem decDigits_length_le {n k : Nat} (hk : 0 < k) : (decDigits n).length ≤ k ↔ n < 10 ^ k := by
  constructor
  · intro h
    have := dval_lt _ (decDigits_all n)
    rw [dval_decDigits] at this
    exact Nat.lt_of_lt_of_le this (Nat.pow_le_pow_right (by omega) h)
  · revert n
    induction k with
    | zero => omega
    | succ k ih =>
      intro n h
      by_cases hs : n < 10
      · rw [decDigits_small hs]; simp
      · rw [decDigits_big hs, List.length_append]
        rcases Nat.eq_zero_or_pos k with rfl | hk'
        · simp at h; omega
        · have := ih hk' (n := n / 10) (by rw [Nat.pow_succ] at h; omega)
          simp; omega

/-! ### the texts that are integers -/

/-- what stands behind a '-' in front -/
def body (l : List UInt8) : List UInt8 := if l.head? = some 45 then l.tail else l
def neg (l : List UInt8) : Bool := l.head? == some 45

def ivalid (l : List UInt8) : Bool :=
  !(body l).isEmpty && decide ((body l).length ≤ 200) && (body l).all isDig && (l == [48] || (body l).head? != some 48)

def ival (l : List UInt8) : Option Int := if ivalid l then some (if neg l then -(dval (body l) : Int) else (dval (body l) : Int)) else none

/-- what 200 digits can write -/
def DL : Nat := 10 ^ 200
theorem DL_eq : DL = 10 ^ 200 := rfl

theorem decDigits_DL {n : Nat} : (decDigits n).length ≤ 200 ↔ n < DL := decDigits_length_le (by omega)

theorem body_neg (l : List UInt8) : body (45 :: l) = l := by simp [body]
theorem decDigits_head45 (n : Nat) : (decDigits n).head? ≠ some 45 := by
  cases h : decDigits n with
  | nil => simp
  | cons a t =>
    have := decDigits_all n
    rw [h] at this
    simp at this
    have ha := isDig_iff.1 this.1
    intro hc
    have : a = 45 := by simpa using hc
    rw [this] at ha
    have h45 : (45 : UInt8).toNat = 45 := rfl
    omega
theorem body_dec (n : Nat) : body (decDigits n) = decDigits n := by rw [body, if_neg (decDigits_head45 n)]
theorem neg_dec (n : Nat) : neg (decDigits n) = false := by simpa [neg] using decDigits_head45 n

theorem itoa_neg {x : Int} (h : x < 0) : itoa x = 45 :: decDigits x.natAbs := by rw [itoa, if_pos h]
theorem itoa_pos {x : Int} (h : 0 ≤ x) : itoa x = decDigits x.natAbs := by rw [itoa, if_neg (by omega), show x.toNat = x.natAbs by omega]
theorem itoa_body (x : Int) : body (itoa x) = decDigits x.natAbs := by
  by_cases h : x < 0
  · rw [itoa_neg h, body_neg]
  · rw [itoa_pos (by omega), body_dec]
theorem itoa_isneg (x : Int) : neg (itoa x) = decide (x < 0) := by
  by_cases h : x < 0
  · rw [itoa_neg h]; simp [neg, h]
  · rw [itoa_pos (by omega), neg_dec]; simp [h]
theorem itoa_inj {x y : Int} (h : itoa x = itoa y) : x = y := by
  have h1 := itoa_body x
  rw [h, itoa_body] at h1
  have h2 := decDigits_inj h1
  have h3 := itoa_isneg x
  rw [h, itoa_isneg] at h3
  by_cases hx : x < 0 <;> by_cases hy : y < 0 <;> simp [hx, hy] at h3 <;> omega
theorem itoa_ne (x : Int) : itoa x ≠ [] := by
  intro h
  have := itoa_body x
  rw [h] at this
  exact decDigits_ne _ this.symm

theorem ivalid_itoa {x : Int} (h : x.natAbs < DL) : ivalid (itoa x) = true := by
  unfold ivalid
  rw [itoa_body]
  have h1 : (decDigits x.natAbs).isEmpty = false := by simpa using decDigits_ne x.natAbs
  have h2 : (decDigits x.natAbs).length ≤ 200 := decDigits_DL.2 h
  have h3 : (itoa x == [48] || (decDigits x.natAbs).head? != some 48) = true := by
    by_cases h0 : x = 0
    · subst h0; rw [itoa_pos (by omega)]; simp [decDigits_zero]
    · have := decDigits_head x.natAbs (by omega)
      simp [this]
  simp only [h1, h2, h3, decDigits_all]; decide

theorem ival_itoa {x : Int} (h : x.natAbs < DL) : ival (itoa x) = some x := by
  rw [ival, if_pos (ivalid_itoa h), itoa_body, dval_decDigits, itoa_isneg]
  by_cases hx : x < 0
  · simp only [hx, decide_true, if_true]; congr 1; omega
  · simp only [hx, decide_false]; congr 1; simp; omega

theorem ivalid_parts {l : List UInt8} (h : ivalid l = true) : body l ≠ [] ∧ (body l).length ≤ 200 ∧ (body l).all isDig = true ∧ (l = [48] ∨ (body l).head? ≠ some 48) := by
  unfold ivalid at h
  simp only [Bool.and_eq_true, Bool.not_eq_true', List.isEmpty_eq_false_iff, decide_eq_true_eq, Bool.or_eq_true, beq_iff_eq, bne_iff_ne] at h
  exact ⟨h.1.1.1, h.1.1.2, h.1.2, h.2⟩

theorem ival_eq {l : List UInt8} {x : Int} (h : ival l = some x) : l = itoa x ∧ x.natAbs < DL := by
  unfold ival at h
  by_cases hv : ivalid l = true
  · rw [if_pos hv] at h
    obtain ⟨h1, h2, h3, h4⟩ := ivalid_parts hv
    have h4' : body l = [48] ∨ (body l).head? ≠ some 48 := by
      rcases h4 with h4 | h4
      · left; rw [h4]; rfl
      · exact Or.inr h4
    have hd := decDigits_dval (body l) h3 h1 h4'
    have hl : dval (body l) < DL := decDigits_DL.1 (by rw [hd]; exact h2)
    by_cases hn : l.head? = some 45
    · have hne : neg l = true := by simp [neg, hn]
      rw [hne, if_pos rfl] at h
      have hx : x = -(dval (body l) : Int) := by simpa using h.symm
      have hb : l = 45 :: body l := by
        cases l with
        | nil => simp at hn
        | cons a t => simp at hn; subst hn; rw [body_neg]
      have hpos : 0 < dval (body l) := by
        apply dval_pos_of_head h3 h1
        rcases h4 with h4 | h4
        · rw [h4] at hn; simp at hn
        · exact h4
      refine ⟨?_, by omega⟩
      rw [itoa_neg (by omega), show x.natAbs = dval (body l) by omega, hd]; exact hb
    · have hne : neg l = false := by simpa [neg] using hn
      rw [hne] at h
      have hx : x = (dval (body l) : Int) := by simpa using h.symm
      have hb : body l = l := by rw [body, if_neg hn]
      refine ⟨?_, by omega⟩
      rw [itoa_pos (by omega), show x.natAbs = dval (body l) by omega, hd, hb]
  · rw [if_neg hv] at h; cases h

theorem ival_iff {l : List UInt8} {x : Int} : ival l = some x ↔ l = itoa x ∧ x.natAbs < DL :=
  ⟨ival_eq, fun ⟨h1, h2⟩ => h1 ▸ ival_itoa h2⟩

theorem ivalid_iff_isSome (l : List UInt8) : ivalid l = (ival l).isSome := by
  unfold ival; cases ivalid l <;> simp

/-- decimal digits are the digits in base ten, turned round -/
theorem decDigits_bd : ∀ n : Nat, 0 < n → decDigits n = (bd 10 n).reverse.map (fun d => UInt8.ofNat (48 + d.toNat)) := by
  intro n
  induction n using Nat.strongRecOn with
  | _ n ih =>
    intro h0
    rw [bd_pos (by omega) h0, List.reverse_cons, List.map_append]
    by_cases h : n < 10
    · rw [decDigits_small h, Nat.div_eq_of_lt h, bd_zero, Nat.mod_eq_of_lt h]; simp
    · rw [decDigits_big h, ih (n / 10) (by omega) (by omega)]
      congr 1

end Yd
