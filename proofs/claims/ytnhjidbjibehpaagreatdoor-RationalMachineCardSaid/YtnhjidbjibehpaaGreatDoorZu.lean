/- The reference's sums, differences, products and quotients of lists of digits, in plain numbers. -/
import Derived.Test.YtnhjidbjibehpaaGreatDoorZr
import Derived.Test.YtnhjidbjibehpaaGreatDoorZs
import Derived.Test.YtnhjidbjibehpaaGreatDoorZt
namespace Go.Proofs.YtnhjidbjibehpaaGreatDoor.Ref
open Go.RowKit Go.Proofs.YtnhjidbjibehpaaGreatDoorW.PrintWords Go.Proofs.YtnhjidbjibehpaaGreatDoorW.PrintLast Go.Proofs.YtnhjidbjibehpaaGreatDoorW.PrintMore Yd Go.Lib
set_option linter.unusedVariables false
set_option linter.unusedSimpArgs false

theorem div_pow_succ (a i : Nat) : a / 10 ^ (i + 1) = a / 10 ^ i / 10 := by rw [Nat.div_div_eq_div_mul, Nat.pow_succ]
theorem len_lt_iff {a i : Nat} : i < (bd 10 a).length ↔ 0 < a / 10 ^ i := by
  constructor
  · intro h
    rcases Nat.eq_zero_or_pos (a / 10 ^ i) with h0 | h0
    · exfalso
      have h1 : a < 10 ^ i := by
        have := Nat.lt_of_div_eq_zero (Nat.pow_pos (by omega)) h0
        exact this
      have := bd_length_le (B := 10) (by omega) a i h1
      omega
    · exact h0
  · intro h
    rcases Nat.lt_or_ge i (bd 10 a).length with hl | hl
    · exact hl
    · exfalso
      have h1 := bd_lt_pow (B := 10) (by omega) a
      have h2 : 10 ^ (bd 10 a).length ≤ 10 ^ i := Nat.pow_le_pow_right (by omega) hl
      rw [Nat.div_eq_of_lt (by omega)] at h; omega

theorem plus_l0 (a b : Nat) (ha : (bd 10 a).length ≤ 100000) (hb : (bd 10 b).length ≤ 100000) : ∀ (v i c : Nat) (o : List Int), v = a / 10 ^ i + b / 10 ^ i + c → c ≤ 1 → (v = 0 ∨ i ≤ 100000) → o.length = i →
    Ev (fun k => yardstickref03_plus.l0 k (bd 10 a) (bd 10 b) o c i) (o ++ bd 10 v) := by
  intro v
  induction v using Nat.strongRecOn with
  | _ v ih =>
    intro i c o hv hc hi ho
    have hia := len_lt_iff (a := a) (i := i)
    have hib := len_lt_iff (a := b) (i := i)
    have rda := rd_bd (B := 10) (by omega) a i
    have rdb := rd_bd (B := 10) (by omega) b i
    have SA := Aside0.mk (div_pow_succ a i)
    have SB := Aside0.mk (div_pow_succ b i)
    generalize a / 10 ^ i = A at *
    generalize b / 10 ^ i = B at *
    have go : Ev (fun k => yardstickref03_plus.j1 k (bd 10 a) (bd 10 b) o c i (decide (0 < v))) (o ++ bd 10 v) := by
      apply Ev.hop
      by_cases h0 : v = 0
      · subst h0
        simp only [yardstickref03_plus.j1, decide_eq_false (Nat.lt_irrefl 0), Bool.false_eq_true, if_false, bd_zero, List.append_nil]
        exact Ev.now _
      · have hv0 : 0 < v := by omega
        have hstep := ih (v / 10) (by omega) (i + 1) ((A % 10 + B % 10 + c) / 10) (o ++ [((v % 10 : Nat) : Int)])
          (by rw [SA.out, SB.out]; omega)
          (by omega) (by omega) (by simp; omega)
        rw [List.append_assoc, show [((v % 10 : Nat) : Int)] ++ bd 10 (v / 10) = bd 10 v from (bd_pos (by omega) hv0).symm] at hstep
        have HW : Aside0 (wrap64 ((i : Int) + 1) = ((i + 1 : Nat) : Int)) := ⟨by rw [w64 (by omega) (by omega)]; rfl⟩
        have hol : o.length < 17592186044416 := by omega
        have hi0 : (0 : Int) ≤ (i : Int) := by omega
        simp only [yardstickref03_plus.j1, decide_eq_true hv0, if_true, rda, rdb, HW.out, if_pos hol, if_pos hi0]
        have fin : ∀ n : Int, n = ((A % 10 + B % 10 + c : Nat) : Int) → Ev (fun k => yardstickref03_plus.l0 k (bd 10 a) (bd 10 b) (o ++ [Int.tmod n 10]) (wrap64 (Int.tdiv n 10)) ((i + 1 : Nat) : Int)) (o ++ bd 10 v) := by
          intro n hn
          have e1 : Int.tmod n 10 = ((v % 10 : Nat) : Int) := by
            rw [Int.tmod_eq_emod_of_nonneg (by omega), hn]
            omega
          have e2 : wrap64 (Int.tdiv n 10) = (((A % 10 + B % 10 + c) / 10 : Nat) : Int) := by
            rw [Int.tdiv_eq_ediv_of_nonneg (by omega), hn, w64 (by omega) (by omega)]; omega
          rw [e1, e2]; exact hstep
        by_cases h1 : i < (bd 10 a).length
        · by_cases h2 : i < (bd 10 b).length
          · simp only [if_pos (show (i : Int) < ((bd 10 a).length : Int) by omega), if_pos (show (i : Int) < ((bd 10 b).length : Int) by omega)]
            apply fin
            rw [w64 (x := (c : Int) + _) (by omega) (by omega), w64 (by omega) (by omega)]; omega
          · simp only [if_pos (show (i : Int) < ((bd 10 a).length : Int) by omega), if_neg (show ¬ (i : Int) < ((bd 10 b).length : Int) by omega)]
            apply fin
            have : B = 0 := by omega
            rw [w64 (by omega) (by omega), this]; omega
        · have : A = 0 := by omega
          by_cases h2 : i < (bd 10 b).length
          · simp only [if_neg (show ¬ (i : Int) < ((bd 10 a).length : Int) by omega), if_pos (show (i : Int) < ((bd 10 b).length : Int) by omega)]
            apply fin
            rw [w64 (by omega) (by omega), this]; omega
          · have hb0 : B = 0 := by omega
            simp only [if_neg (show ¬ (i : Int) < ((bd 10 a).length : Int) by omega), if_neg (show ¬ (i : Int) < ((bd 10 b).length : Int) by omega)]
            apply fin
            rw [this, hb0]; omega
    apply Ev.hop
    by_cases h1 : i < (bd 10 a).length
    · have hv0 : 0 < v := by omega
      rw [decide_eq_true hv0] at go
      simp only [yardstickref03_plus.l0, if_pos (show (i : Int) < ((bd 10 a).length : Int) by omega)]; exact go
    · by_cases h2 : i < (bd 10 b).length
      · have hv0 : 0 < v := by omega
        rw [decide_eq_true hv0] at go
        simp only [yardstickref03_plus.l0, if_neg (show ¬ (i : Int) < ((bd 10 a).length : Int) by omega), if_pos (show (i : Int) < ((bd 10 b).length : Int) by omega)]; exact go
      · have e : decide ((c : Int) > 0) = decide (0 < v) := by rw [decide_eq_decide]; omega
        simp only [yardstickref03_plus.l0, if_neg (show ¬ (i : Int) < ((bd 10 a).length : Int) by omega), if_neg (show ¬ (i : Int) < ((bd 10 b).length : Int) by omega), e]; exact go
theorem plus_ev (a b : Nat) (ha : (bd 10 a).length ≤ 100000) (hb : (bd 10 b).length ≤ 100000) : Ev (fun k => yardstickref03_plus.f k (bd 10 a) (bd 10 b)) (bd 10 (a + b)) := by
  have := plus_l0 a b ha hb (a + b) 0 0 [] (by simp) (by omega) (by omega) rfl
  simpa [yardstickref03_plus.f] using this

theorem bv_one (a : Int) (l : List Int) : bv 10 (l ++ [a]) = bv 10 l + a * 10 ^ l.length := by simpa using bv_snoc 10 l a
theorem minus_l0 (a b : Nat) (hba : b ≤ a) (ha : (bd 10 a).length ≤ 100000) : ∀ (d i : Nat) (c : Nat) (o : List Int), i + d = (bd 10 a).length → c ≤ 1 → o.length = i → (∀ x ∈ o, 0 ≤ x ∧ x < 10) → b / 10 ^ i + c ≤ a / 10 ^ i →
    bv 10 o + (a / 10 ^ i - b / 10 ^ i - c : Nat) * 10 ^ i = ((a - b : Nat) : Int) →
    Ev (fun k => yardstickref03_minus.l0 k (bd 10 a) (bd 10 b) o c i) (bd 10 (a - b)) := by
  intro d
  induction d with
  | zero =>
    intro i c o hi hc ho hd hle hv
    apply Ev.hop
    have hia := len_lt_iff (a := a) (i := i)
    generalize a / 10 ^ i = A at *
    generalize b / 10 ^ i = B at *
    have h0 : A = 0 := by omega
    simp only [yardstickref03_minus.l0, if_neg (show ¬ (i : Int) < ((bd 10 a).length : Int) by omega)]
    refine Ev.bind (trim_ev o (by omega)) ?_
    have e : trimL o = bd 10 (a - b) := by
      rw [trimL_bd (B := 10) (by omega) o hd]
      congr 1
      have : A - B - c = 0 := by omega
      rw [this] at hv
      have : ((0 : Nat) : Int) * 10 ^ i = 0 := by simp
      omega
    rw [e]; exact Ev.now _
  | succ d ih =>
    intro i c o hi hc ho hd hle hv
    apply Ev.hop
    have hia := len_lt_iff (a := a) (i := i)
    have hib := len_lt_iff (a := b) (i := i)
    have rda := rd_bd (B := 10) (by omega) a i
    have rdb := rd_bd (B := 10) (by omega) b i
    have SA := Aside0.mk (div_pow_succ a i)
    have SB := Aside0.mk (div_pow_succ b i)
    have HV := Aside0.mk hv
    clear hv
    generalize a / 10 ^ i = A at *
    generalize b / 10 ^ i = B at *
    have HW : Aside0 (wrap64 ((i : Int) + 1) = ((i + 1 : Nat) : Int)) := ⟨by rw [w64 (by omega) (by omega)]; rfl⟩
    have hol : o.length < 17592186044416 := by omega
    have hi0 : (0 : Int) ≤ (i : Int) := by omega
    have key : ∀ n : Int, n = ((A % 10 : Nat) : Int) - c - ((B % 10 : Nat) : Int) →
        Ev (fun k => if n < 0 then yardstickref03_minus.l0 k (bd 10 a) (bd 10 b) (o ++ [wrap64 (n + 10)]) 1 ((i + 1 : Nat) : Int) else yardstickref03_minus.l0 k (bd 10 a) (bd 10 b) (o ++ [n]) 0 ((i + 1 : Nat) : Int)) (bd 10 (a - b)) := by
      intro n hn
      have mk : ∀ (x : Int) (c' : Nat), x = n + 10 * c' → 0 ≤ x → x < 10 → c' ≤ 1 → Ev (fun k => yardstickref03_minus.l0 k (bd 10 a) (bd 10 b) (o ++ [x]) c' ((i + 1 : Nat) : Int)) (bd 10 (a - b)) := by
        intro x c' hx hx0 hx1 hc'
        refine ih (i + 1) c' (o ++ [x]) (by omega) hc' (by simp; omega) ?_ ?_ ?_
        · intro y hy
          rcases List.mem_append.1 hy with hy | hy
          · exact hd y hy
          · have : y = x := by simpa using hy
            omega
        · rw [SA.out, SB.out]; omega
        · rw [bv_one, ho, SA.out, SB.out, Int.pow_succ, ← HV.out]
          have e : ((A - B - c : Nat) : Int) = x + 10 * ((A / 10 - B / 10 - c' : Nat) : Int) := by omega
          rw [e]
          generalize ((A / 10 - B / 10 - c' : Nat) : Int) = V
          grind
      by_cases hn0 : n < 0
      · simp only [if_pos hn0]
        rw [w64 (by omega) (by omega)]
        exact mk (n + 10) 1 (by omega) (by omega) (by omega) (by omega)
      · simp only [if_neg hn0]
        exact mk n 0 (by omega) (by omega) (by omega) (by omega)
    simp only [yardstickref03_minus.l0, if_pos (show (i : Int) < ((bd 10 a).length : Int) by omega), rda, rdb, HW.out, if_pos hol, if_pos hi0]
    by_cases h2 : i < (bd 10 b).length
    · simp only [if_pos (show (i : Int) < ((bd 10 b).length : Int) by omega)]
      rw [w64 (x := ((A % 10 : Nat) : Int) - c) (by omega) (by omega), w64 (x := ((A % 10 : Nat) : Int) - c - _) (by omega) (by omega)]
      exact key _ rfl
    · have : B = 0 := by omega
      simp only [if_neg (show ¬ (i : Int) < ((bd 10 b).length : Int) by omega)]
      rw [w64 (x := ((A % 10 : Nat) : Int) - c) (by omega) (by omega)]
      exact key _ (by rw [this]; omega)
theorem minus_ev (a b : Nat) (hba : b ≤ a) (ha : (bd 10 a).length ≤ 100000) : Ev (fun k => yardstickref03_minus.f k (bd 10 a) (bd 10 b)) (bd 10 (a - b)) := by
  have := minus_l0 a b hba ha (bd 10 a).length 0 0 [] (by omega) (by omega) rfl (fun _ h => by cases h) (by simpa using hba) (by simp [bv])
  simpa [yardstickref03_minus.f] using this

theorem bv_set (B : Nat) : ∀ (l : List Int) (i : Nat) (x : Int), i < l.length → bv B (l.set i x) = bv B l + (x - l.getD i 0) * (B : Int) ^ i
  | [], i, x, h => by simp at h
  | a :: r, 0, x, _ => by simp [bv]; omega
  | a :: r, i + 1, x, h => by
    have := bv_set B r i x (by simpa using h)
    simp only [List.set_cons_succ, bv, this, List.getD_cons_succ, Int.pow_succ]
    generalize (r.getD i 0) = y
    generalize (B : Int) ^ i = p
    grind
theorem mem_set {l : List Int} {i : Nat} {x y : Int} (h : y ∈ l.set i x) : y ∈ l ∨ y = x := by
  rcases List.mem_or_eq_of_mem_set h with h | h
  · exact .inl h
  · exact .inr h
theorem bv_zeros (B n : Nat) : bv B (List.replicate n 0) = 0 := by
  induction n with
  | zero => rfl
  | succ n ih => rw [List.replicate_succ, bv, ih]; simp
theorem rd_get {l : List Int} {i : Nat} (h : i < l.length) : rd l (i : Int) = l.getD i 0 := by unfold rd; rw [Int.toNat_natCast]
theorem getD_mem {l : List Int} {i : Nat} (h : i < l.length) : l.getD i 0 ∈ l := by
  rw [List.getD_eq_getElem?_getD, List.getElem?_eq_getElem h]; exact List.getElem_mem h

end Go.Proofs.YtnhjidbjibehpaaGreatDoor.Ref

/- The reference's products and quotients of lists of digits, in plain numbers. -/
namespace Go.Proofs.YtnhjidbjibehpaaGreatDoor.Ref
open Go.RowKit Go.Proofs.YtnhjidbjibehpaaGreatDoorW.PrintWords Go.Proofs.YtnhjidbjibehpaaGreatDoorW.PrintLast Go.Proofs.YtnhjidbjibehpaaGreatDoorW.PrintMore Yd Go.Lib
set_option linter.unusedVariables false
set_option linter.unusedSimpArgs false

theorem getD_dig {l : List Int} (hd : ∀ x ∈ l, 0 ≤ x ∧ x < 10) (i : Nat) (h : i < l.length) : 0 ≤ l.getD i 0 ∧ l.getD i 0 < 10 := hd _ (getD_mem h)
theorem pow_lt_of {x y : Nat} (h : (10 : Nat) ^ x < 10 ^ y) : x < y := (Nat.pow_lt_pow_iff_right (by omega)).1 h
theorem ten_pos (i : Nat) : (0 : Int) < 10 ^ i := Int.pow_pos (by omega)
theorem carry_room {o : List Int} {c D B i j lb : Nat} {V : Int} (hd : ∀ x ∈ o, 0 ≤ x ∧ x < 10) (hV : V < 10 ^ (i + 1 + lb)) (hv : bv 10 o + ((c : Int) + D * B) * 10 ^ (i + j) = V) (hc : 0 < c) : j ≤ lb := by
  have h0 := bv_nonneg 10 o (fun x hx => (hd x hx).1)
  have hp := ten_pos (i + j)
  have h1 : (0 : Int) ≤ (D : Int) * B := Int.mul_nonneg (by omega) (by omega)
  have h2 : (1 : Int) * 10 ^ (i + j) ≤ ((c : Int) + D * B) * 10 ^ (i + j) := Int.mul_le_mul_of_nonneg_right (by omega) (by omega)
  have h3 : (10 : Int) ^ (i + j) < 10 ^ (i + 1 + lb) := by omega
  have h4 : (10 : Nat) ^ (i + j) < 10 ^ (i + 1 + lb) := by exact_mod_cast h3
  have := pow_lt_of h4
  omega
theorem times_step {o : List Int} {c D Bj i j : Nat} {V : Int} (hl : i + j < o.length) (hv : bv 10 o + ((c : Int) + D * Bj) * 10 ^ (i + j) = V) (n : Int) (hn : n = o.getD (i + j) 0 + c + ((D * (Bj % 10) : Nat) : Int)) :
    bv 10 (o.set (i + j) (n % 10)) + ((n / 10) + D * (Bj / 10 : Nat)) * 10 ^ (i + (j + 1)) = V := by
  rw [bv_set 10 o _ _ hl, ← hv, ← Nat.add_assoc, Int.pow_succ]
  have e1 : n = 10 * (n / 10) + n % 10 := by omega
  have e2 : (Bj : Int) = 10 * ((Bj / 10 : Nat) : Int) + ((Bj % 10 : Nat) : Int) := by omega
  rw [Int.natCast_mul] at hn
  rw [e2]
  generalize ((Bj / 10 : Nat) : Int) = B'
  generalize ((Bj % 10 : Nat) : Int) = b' at *
  generalize n / 10 = q at *
  generalize n % 10 = s at *
  generalize o.getD (i + j) 0 = x at *
  have : ((10 : Nat) : Int) = 10 := rfl
  rw [this]
  generalize (10 : Int) ^ (i + j) = p
  subst e1
  grind
/-- the inner loop: adding the i-th digit times the other -/
theorem times_in (a b i : Nat) (hi : i < (bd 10 a).length) (ha : (bd 10 a).length ≤ 10000) (hb : (bd 10 b).length ≤ 10000)
    (V : Int) (hV : V < 10 ^ (i + 1 + (bd 10 b).length)) (r : List Int)
    (hnext : ∀ o : List Int, o.length = (bd 10 a).length + (bd 10 b).length → (∀ x ∈ o, 0 ≤ x ∧ x < 10) → bv 10 o = V → Ev (fun k => yardstickref03_times.l0 k (bd 10 a) (bd 10 b) o ((i + 1 : Nat) : Int)) r) :
    ∀ (m j c : Nat) (o : List Int), j + m = (bd 10 b).length + 1 → c ≤ 9 → o.length = (bd 10 a).length + (bd 10 b).length → (∀ x ∈ o, 0 ≤ x ∧ x < 10) →
      bv 10 o + ((c : Int) + (a / 10 ^ i % 10 : Nat) * (b / 10 ^ j : Nat)) * 10 ^ (i + j) = V →
      Ev (fun k => yardstickref03_times.l1 k (bd 10 a) (bd 10 b) o i c j) r := by
  have HI : Aside0 (wrap64 ((i : Int) + 1) = ((i + 1 : Nat) : Int)) := ⟨by rw [w64 (by omega) (by omega)]; rfl⟩
  have rda := Aside0.mk (rd_bd (B := 10) (by omega) a i)
  have had : a / 10 ^ i % 10 < 10 := Nat.mod_lt _ (by omega)
  generalize a / 10 ^ i % 10 = D at *
  intro m
  induction m with
  | zero =>
    intro j c o hj hc ho hd hv
    have hjb := len_lt_iff (a := b) (i := j)
    have hc0 : c = 0 := by
      rcases Nat.eq_zero_or_pos c with h | h
      · exact h
      · have := carry_room hd hV hv h; omega
    have HV := Aside0.mk hv
    clear hv
    generalize b / 10 ^ j = Bj at *
    have hB : Bj = 0 := by omega
    subst hc0 hB
    apply Ev.hop
    simp only [yardstickref03_times.l1, if_neg (show ¬ (j : Int) < ((bd 10 b).length : Int) by omega)]
    apply Ev.hop
    simp only [yardstickref03_times.j2, show ¬ (((0 : Nat) : Int) > 0) by omega, decide_false, Bool.false_eq_true, if_false, HI.out]
    exact hnext o ho hd (by have := HV.out; simpa using this)
  | succ m ih =>
    intro j c o hj hc ho hd hv
    have hjb := len_lt_iff (a := b) (i := j)
    have HR := Aside0.mk (carry_room hd hV hv)
    have HV := Aside0.mk hv
    have RDB := Aside0.mk (rd_bd (B := 10) (by omega) b j)
    have SB := Aside0.mk (div_pow_succ b j)
    clear hv
    have ih := ih (j + 1)
    rw [SB.out] at ih
    generalize b / 10 ^ j = Bj at *
    have HJ : Aside0 (wrap64 ((j : Int) + 1) = ((j + 1 : Nat) : Int)) := ⟨by rw [w64 (by omega) (by omega)]; rfl⟩
    have HIJ : Aside0 (wrap64 ((i : Int) + (j : Int)) = ((i + j : Nat) : Int)) := ⟨by rw [w64 (by omega) (by omega)]; rfl⟩
    by_cases hcond : j < (bd 10 b).length ∨ 0 < c
    · have hjl : j ≤ (bd 10 b).length := by
        rcases hcond with h | h
        · omega
        · exact HR.out h
      have hidx : i + j < o.length := by omega
      have hx := getD_dig hd (i + j) hidx
      have RDO := Aside0.mk (rd_get hidx)
      have key : ∀ n : Int, n = o.getD (i + j) 0 + c + ((D * (Bj % 10) : Nat) : Int) → n ≤ 99 → 0 ≤ n → Ev (fun k => yardstickref03_times.l1 k (bd 10 a) (bd 10 b) (o.set (i + j) (Int.tmod n 10)) i (wrap64 (Int.tdiv n 10)) ((j + 1 : Nat) : Int)) r := by
        intro n hn h99 h0
        have hv' := times_step hidx HV.out n hn
        have e1 : Int.tmod n 10 = n % 10 := Int.tmod_eq_emod_of_nonneg h0
        have e2 : wrap64 (Int.tdiv n 10) = (((n / 10).toNat : Nat) : Int) := by
          rw [Int.tdiv_eq_ediv_of_nonneg h0, w64 (by omega) (by omega)]; omega
        have e3 : n / 10 = (((n / 10).toNat : Nat) : Int) := by omega
        rw [e3] at hv'
        rw [e1, e2]
        exact ih _ _ (by omega) (by omega) (by simpa using ho) (fun y hy => by
          rcases mem_set hy with h | h
          · exact hd y h
          · omega) hv'
      have hmul : D * (Bj % 10) ≤ 81 := Nat.mul_le_mul (show D ≤ 9 by omega) (show Bj % 10 ≤ 9 by omega)
      have hJ2 : Ev (fun k => yardstickref03_times.j2 k (bd 10 a) (bd 10 b) o i c j true) r := by
        apply Ev.hop
        have c1 : (0 : Int) ≤ ((i + j : Nat) : Int) := by omega
        have c2 : ((i + j : Nat) : Int) < (o.length : Int) := by omega
        have c3 : (0 : Int) ≤ (i : Int) := by omega
        have c4 : (i : Int) < ((bd 10 a).length : Int) := by omega
        have c5 : (0 : Int) ≤ (j : Int) := by omega
        simp only [yardstickref03_times.j2, if_true, HIJ.out, HJ.out, RDO.out, rda.out, RDB.out, Int.toNat_natCast, if_pos c1, if_pos c2, if_pos c3, if_pos c4, if_pos c5]
        by_cases hjb' : j < (bd 10 b).length
        · simp only [if_pos (show (j : Int) < ((bd 10 b).length : Int) by omega)]
          have e : wrap64 (wrap64 (o.getD (i + j) 0 + (c : Int)) + wrap64 (((D : Nat) : Int) * ((Bj % 10 : Nat) : Int))) = o.getD (i + j) 0 + c + ((D * (Bj % 10) : Nat) : Int) := by
            rw [← Int.natCast_mul]
            rw [w64 (x := o.getD (i + j) 0 + (c : Int)) (by omega) (by omega), w64 (x := ((D * (Bj % 10) : Nat) : Int)) (by omega) (by omega), w64 (by omega) (by omega)]
          rw [e]
          exact key _ rfl (by omega) (by omega)
        · simp only [if_neg (show ¬ (j : Int) < ((bd 10 b).length : Int) by omega)]
          have hB : Bj = 0 := by omega
          have e : wrap64 (o.getD (i + j) 0 + (c : Int)) = o.getD (i + j) 0 + c := w64 (by omega) (by omega)
          rw [e]
          exact key _ (by rw [hB]; simp) (by omega) (by omega)
      apply Ev.hop
      by_cases hjb' : j < (bd 10 b).length
      · simp only [yardstickref03_times.l1, if_pos (show (j : Int) < ((bd 10 b).length : Int) by omega)]; exact hJ2
      · simp only [yardstickref03_times.l1, if_neg (show ¬ (j : Int) < ((bd 10 b).length : Int) by omega), show decide ((c : Int) > 0) = true from decide_eq_true (by omega)]; exact hJ2
    · have hc0 : c = 0 := by omega
      have hB : Bj = 0 := by omega
      subst hc0 hB
      apply Ev.hop
      simp only [yardstickref03_times.l1, if_neg (show ¬ (j : Int) < ((bd 10 b).length : Int) by omega)]
      apply Ev.hop
      simp only [yardstickref03_times.j2, show ¬ (((0 : Nat) : Int) > 0) by omega, decide_false, Bool.false_eq_true, if_false, HI.out]
      exact hnext o ho hd (by have := HV.out; simpa using this)
theorem mod_pow_succ (a i : Nat) : a % 10 ^ (i + 1) = a % 10 ^ i + a / 10 ^ i % 10 * 10 ^ i := by
  rw [Nat.pow_succ, Nat.mod_mul, Nat.mul_comm (10 ^ i)]
theorem times_l0 (a b : Nat) (ha : (bd 10 a).length ≤ 10000) (hb : (bd 10 b).length ≤ 10000) : ∀ (d i : Nat) (o : List Int), i + d = (bd 10 a).length → o.length = (bd 10 a).length + (bd 10 b).length → (∀ x ∈ o, 0 ≤ x ∧ x < 10) → bv 10 o = ((a % 10 ^ i * b : Nat) : Int) →
    Ev (fun k => yardstickref03_times.l0 k (bd 10 a) (bd 10 b) o i) (bd 10 (a * b)) := by
  intro d
  induction d with
  | zero =>
    intro i o hi ho hd hv
    apply Ev.hop
    simp only [yardstickref03_times.l0, if_neg (show ¬ (i : Int) < ((bd 10 a).length : Int) by omega)]
    refine Ev.bind (trim_ev o (by omega)) ?_
    have e : trimL o = bd 10 (a * b) := by
      rw [trimL_bd (B := 10) (by omega) o hd, hv, Int.toNat_natCast]
      have h1 := bd_lt_pow (B := 10) (by omega) a
      rw [show i = (bd 10 a).length by omega, Nat.mod_eq_of_lt h1]
    rw [e]; exact Ev.now _
  | succ d ih =>
    intro i o hi ho hd hv
    apply Ev.hop
    simp only [yardstickref03_times.l0, if_pos (show (i : Int) < ((bd 10 a).length : Int) by omega)]
    have hV : ((a % 10 ^ (i + 1) * b : Nat) : Int) < 10 ^ (i + 1 + (bd 10 b).length) := by
      have h1 : a % 10 ^ (i + 1) < 10 ^ (i + 1) := Nat.mod_lt _ (Nat.pow_pos (by omega))
      have h2 := bd_lt_pow (B := 10) (by omega) b
      have h3 : a % 10 ^ (i + 1) * b < 10 ^ (i + 1) * 10 ^ (bd 10 b).length := by
        rcases Nat.eq_zero_or_pos b with h | h
        · subst h; rw [Nat.mul_zero]; exact Nat.mul_pos (Nat.pow_pos (by omega)) (Nat.pow_pos (by omega))
        · exact Nat.lt_of_lt_of_le ((Nat.mul_lt_mul_right h).2 h1) (Nat.mul_le_mul_left _ (Nat.le_of_lt h2))
      rw [← Nat.pow_add] at h3
      exact_mod_cast h3
    refine times_in a b i (by omega) ha hb _ hV (bd 10 (a * b)) (fun o' ho' hd' hv' => ih (i + 1) o' (by omega) ho' hd' hv') ((bd 10 b).length + 1) 0 0 o (by omega) (by omega) ho hd ?_
    rw [hv, mod_pow_succ]
    simp only [Nat.pow_zero, Nat.div_one, Nat.add_zero, Int.natCast_add, Int.natCast_mul, Int.natCast_pow]
    generalize ((a % 10 ^ i : Nat) : Int) = u
    generalize ((a / 10 ^ i % 10 : Nat) : Int) = v
    have : ((10 : Nat) : Int) = 10 := rfl
    rw [this]
    generalize (10 : Int) ^ i = p
    grind
theorem times_ev (a b : Nat) (ha : (bd 10 a).length ≤ 10000) (hb : (bd 10 b).length ≤ 10000) : Ev (fun k => yardstickref03_times.f k (bd 10 a) (bd 10 b)) (bd 10 (a * b)) := by
  unfold yardstickref03_times.f
  have e : wrap64 (((bd 10 a).length : Int) + ((bd 10 b).length : Int)) = (((bd 10 a).length + (bd 10 b).length : Nat) : Int) := by rw [w64 (by omega) (by omega)]; rfl
  simp only [e, Int.toNat_natCast, if_pos (show (0 : Int) ≤ (((bd 10 a).length + (bd 10 b).length : Nat) : Int) by omega), if_pos (show (bd 10 a).length + (bd 10 b).length ≤ 35184372088832 by omega)]
  have := times_l0 a b ha hb (bd 10 a).length 0 (List.replicate ((bd 10 a).length + (bd 10 b).length) 0) (by omega) (by simp) (fun x hx => by have := (List.mem_replicate.1 hx).2; omega) (by rw [bv_zeros]; simp [Nat.mod_one])
  simpa using this

theorem cons_trim10 (R u : Nat) (hu : u < 10) : trimL (((u : Nat) : Int) :: bd 10 R) = bd 10 (R * 10 + u) := by
  rw [trimL_bd (B := 10) (by omega) _ (by
    intro d hd
    rcases List.mem_cons.1 hd with rfl | hd
    · omega
    · exact bd_mem (B := 10) (by omega) R d hd)]
  congr 1
  simp only [bv, bv_bd (B := 10) (by omega)]
  have : ((10 : Nat) : Int) = 10 := rfl
  omega
theorem div_step {A b t R Q S u : Nat} (hb : 0 < b) (hA : A = 10 * (Q * b + S) + u) (hR : R + t * b = S * 10 + u) (hlt : R < b) : A / b = 10 * Q + t ∧ A % b = R := by
  have e : A = R + b * (10 * Q + t) := by
    rw [hA]
    have : b * (10 * Q + t) = 10 * (Q * b) + t * b := by
      rw [Nat.mul_add, Nat.mul_comm b t, Nat.mul_comm b (10 * Q), Nat.mul_assoc]
    omega
  constructor
  · rw [e, Nat.add_mul_div_left _ _ hb, Nat.div_eq_of_lt hlt]; omega
  · rw [e, Nat.add_mul_mod_self_left, Nat.mod_eq_of_lt hlt]
theorem divided_in (a b i : Nat) (hb : 0 < b) (hi : i < (bd 10 a).length) (ha : (bd 10 a).length ≤ 10000) (hbl : (bd 10 b).length ≤ 10000) (q : List Int) (hq : q.length = (bd 10 a).length) (R0 : Nat) (h0 : R0 < 10 * b) (r : List Int × List Int)
    (hnext : ∀ t R : Nat, R + t * b = R0 → R < b → Ev (fun k => yardstickref03_divided.l0 k (bd 10 a) (bd 10 b) (q.set i t) (bd 10 R) ((i : Int) - 1)) r) :
    ∀ R t : Nat, R + t * b = R0 → Ev (fun k => yardstickref03_divided.l1 k (bd 10 a) (bd 10 b) (q.set i t) (bd 10 R) i) r := by
  intro R
  induction R using Nat.strongRecOn with
  | _ R ih =>
    intro t ht
    have hR10 : (bd 10 R).length ≤ (bd 10 b).length + 1 := by
      refine bd_length_le (by omega) _ _ ?_
      have h1 := bd_lt_pow (B := 10) (by omega) b
      have h3 : R ≤ R0 := by omega
      rw [Nat.pow_succ]; omega
    have ht9 : t < 10 := by
      rcases Nat.lt_or_ge t 10 with h | h
      · exact h
      · have : 10 * b ≤ t * b := Nat.mul_le_mul_right b h
        omega
    apply Ev.hop
    simp only [yardstickref03_divided.l1]
    refine Ev.bind (order_ev R b (by omega)) ?_
    by_cases hge : b ≤ R
    · have hs : sgn ((R : Int) - b) ≥ 0 := by unfold sgn; split <;> (try split) <;> omega
      simp only [if_pos hs]
      refine Ev.bind (minus_ev R b hge (by omega)) ?_
      have hil : i < (q.set i (t : Int)).length := by simpa [hq] using hi
      have e1 : rd (q.set i (t : Int)) (i : Int) = t := by
        rw [rd_get hil, List.getD_eq_getElem?_getD, List.getElem?_set_self (by omega)]; rfl
      have e2 : wrap64 ((t : Int) + 1) = ((t + 1 : Nat) : Int) := by rw [w64 (by omega) (by omega)]; rfl
      simp only [if_pos (show (0 : Int) ≤ (i : Int) by omega), if_pos (show (i : Int) < ((q.set i (t : Int)).length : Int) by omega), e1, e2, Int.toNat_natCast, List.set_set]
      exact ih (R - b) (by omega) (t + 1) (by rw [Nat.add_mul]; omega)
    · have hs : ¬ sgn ((R : Int) - b) ≥ 0 := by unfold sgn; rw [if_pos (by omega)]; omega
      simp only [if_neg hs]
      rw [w64 (by omega) (by omega)]
      exact hnext t R ht (by omega)
theorem divided_l0 (a b : Nat) (hb : 0 < b) (ha : (bd 10 a).length ≤ 10000) (hbl : (bd 10 b).length ≤ 10000) : ∀ (i : Nat) (q : List Int), i ≤ (bd 10 a).length → q.length = (bd 10 a).length → (∀ x ∈ q, 0 ≤ x ∧ x < 10) → (∀ j, j < i → q.getD j 0 = 0) → bv 10 q = ((a / 10 ^ i / b * 10 ^ i : Nat) : Int) →
    Ev (fun k => yardstickref03_divided.l0 k (bd 10 a) (bd 10 b) q (bd 10 (a / 10 ^ i % b)) ((i : Int) - 1)) (bd 10 (a / b), bd 10 (a % b)) := by
  intro i
  induction i with
  | zero =>
    intro q _ hq hd _ hv
    apply Ev.hop
    simp only [yardstickref03_divided.l0, if_neg (show ¬ ((0 : Nat) : Int) - 1 ≥ 0 by omega)]
    refine Ev.bind (trim_ev q (by omega)) ?_
    rw [trimL_bd (B := 10) (by omega) q hd, hv, Int.toNat_natCast]
    simp only [Nat.pow_zero, Nat.div_one, Nat.mul_one]
    exact Ev.now _
  | succ i ih =>
    intro q hi hq hd hz hv
    apply Ev.hop
    have rda := Aside0.mk (rd_bd (B := 10) (by omega) a i)
    have e1 : ((i + 1 : Nat) : Int) - 1 = (i : Int) := by omega
    have hil : i < (bd 10 a).length := by omega
    have hlen : (bd 10 (a / 10 ^ (i + 1) % b)).length ≤ 10000 := Nat.le_trans (bd_length_mono (by omega) (Nat.le_of_lt (Nat.mod_lt _ hb))) hbl
    simp only [yardstickref03_divided.l0, e1, if_pos (show (i : Int) ≥ 0 by omega), if_pos (show (0 : Int) ≤ (i : Int) by omega), if_pos (show (i : Int) < ((bd 10 a).length : Int) by omega), rda.out, Option.bind_some, List.length_cons, List.length_nil, if_pos (show 0 + 1 + (bd 10 (a / 10 ^ (i + 1) % b)).length < 17592186044416 by omega), List.cons_append, List.nil_append]
    refine Ev.bind (trim_ev _ (by rw [List.length_cons]; omega)) ?_
    have hu : a / 10 ^ i % 10 < 10 := Nat.mod_lt _ (by omega)
    have hS : a / 10 ^ (i + 1) % b < b := Nat.mod_lt _ hb
    rw [cons_trim10 _ _ hu]
    have hA : a / 10 ^ i = 10 * (a / 10 ^ (i + 1) / b * b + a / 10 ^ (i + 1) % b) + a / 10 ^ i % 10 := by
      have h1 := Nat.div_add_mod (a / 10 ^ (i + 1)) b
      rw [Nat.mul_comm b] at h1
      rw [h1, div_pow_succ]
      have := Nat.div_add_mod (a / 10 ^ i) 10
      omega
    have q0 : q = q.set i ((0 : Nat) : Int) := by
      have := hz i (by omega)
      refine List.ext_getElem (by simp) fun n h1 h2 => ?_
      by_cases hn : n = i
      · subst hn
        rw [List.getElem_set_self]
        rw [List.getD_eq_getElem?_getD, List.getElem?_eq_getElem h1] at this
        simpa using this
      · rw [List.getElem_set_ne (by omega)]
    have hfin := divided_in a b i hb hil ha hbl q hq (a / 10 ^ (i + 1) % b * 10 + a / 10 ^ i % 10) (by omega) (bd 10 (a / b), bd 10 (a % b)) (by
      intro t R hR hRb
      obtain ⟨d1, d2⟩ := div_step hb hA hR hRb
      have ht9 : t < 10 := by
        rcases Nat.lt_or_ge t 10 with h | h
        · exact h
        · have : 10 * b ≤ t * b := Nat.mul_le_mul_right b h
          omega
      have := ih (q.set i (t : Int)) (by omega) (by simpa using hq) (fun x hx => by
        rcases mem_set hx with h | h
        · exact hd x h
        · omega) (fun j hj => by
          rw [List.getD_eq_getElem?_getD, List.getElem?_set_ne (by omega), ← List.getD_eq_getElem?_getD]; exact hz j (by omega)) (by
          rw [bv_set 10 q i _ (by omega), hv, hz i (by omega), d1, Nat.pow_succ]
          simp only [Int.natCast_mul, Int.natCast_add, Int.natCast_pow]
          have : ((10 : Nat) : Int) = 10 := rfl
          rw [this]
          generalize ((a / (10 ^ i * 10) / b : Nat) : Int) = Q
          generalize (10 : Int) ^ i = p
          grind)
      rw [d2] at this
      exact this) (a / 10 ^ (i + 1) % b * 10 + a / 10 ^ i % 10) 0 (by omega)
    rw [← q0] at hfin
    exact hfin
theorem divided_ev (a b : Nat) (hb : 0 < b) (ha : (bd 10 a).length ≤ 10000) (hbl : (bd 10 b).length ≤ 10000) : Ev (fun k => yardstickref03_divided.f k (bd 10 a) (bd 10 b)) (bd 10 (a / b), bd 10 (a % b)) := by
  unfold yardstickref03_divided.f
  simp only [Int.toNat_natCast, if_pos (show (0 : Int) ≤ ((bd 10 a).length : Int) by omega), if_pos (show (bd 10 a).length ≤ 35184372088832 by omega)]
  rw [w64 (by omega) (by omega)]
  have h1 := bd_lt_pow (B := 10) (by omega) a
  have := divided_l0 a b hb ha hbl (bd 10 a).length (List.replicate (bd 10 a).length 0) (Nat.le_refl _) (by simp) (fun x hx => by have := (List.mem_replicate.1 hx).2; omega)
    (fun j _ => by rw [List.getD_eq_getElem?_getD, List.getElem?_replicate]; split <;> rfl) (by rw [bv_zeros, Nat.div_eq_of_lt h1]; simp)
  rw [Nat.div_eq_of_lt h1, Nat.zero_mod, bd_zero] at this
  exact this

end Go.Proofs.YtnhjidbjibehpaaGreatDoor.Ref
