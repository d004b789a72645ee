/- The words of the printed functions, and the struct of two texts. -/
import Derived.Test.YtnhjidbjibehpaaGreatDoorProg
import Derived.Below
import Derived.Deep.Draws
import Derived.Deep.AppendLies
import Derived.Maps.AppendAt
import Derived.OwnWalk
import Derived.Laws.BytesArg
import Derived.Laws.MakeOwn
import Derived.Laws.OwnMore
import Derived.Deep.OwnRows
import Derived.Tactics
import Derived.Lib.ConvBytes
import Derived.Laws.Slices
import Derived.WalkKit
import Derived.KernelRfl
import Derived.RowKit3
import Derived.Deep.LoopGhost
import Derived.Deep.QuietTactic
import Derived.BigQuiet
import Derived.WideLaws
import Derived.Deep.DeepCutAuto
import Derived.Deep.CutBlock
import Derived.Deep.RegionHeld3
import Derived.Laws.Rows
import Derived.Lib.AppendStr
import Derived.ArgAppend
import Derived.Laws.IdiomCopy
import Derived.OrdersHeld
import Derived.Laws.BitsLemmas
import Derived.RowKit
import Derived.Test.YtnhjidbjibehpaaGreatDoorZa
import Derived.Test.YtnhjidbjibehpaaGreatDoorZb
import Derived.Lib.ItoaNum
import Derived.Lib.Atoi
namespace Go.Proofs.YtnhjidbjibehpaaGreatDoor.Ref
open Go.RowKit Go.Proofs.YtnhjidbjibehpaaGreatDoorW.PrintWords Go.Proofs.YtnhjidbjibehpaaGreatDoorW.PrintLast Go.Proofs.YtnhjidbjibehpaaGreatDoorW.PrintMore
attribute [local go_sem] max2_int max_two -- for this text's walks alone

set_option linter.unusedVariables false
set_option linter.unusedSimpArgs false

def errW : Option Int → Value
  | none => .nilIface
  | some c => .iface 162 (.int .i64 c)
theorem errW_none : errW none = .nilIface := rfl
theorem errW_some (c : Int) : errW (some c) = .iface 162 (.int .i64 c) := rfl

theorem info3 : (Tryz.prog.info? 3).map (fun i => (i.zero, i.size, i.bytes)) = some (some (.int .i64 0), 1, 8) := by kernel_rfl
theorem info5 : (Tryz.prog.info? 5).map (fun i => (i.zero, i.size, i.bytes)) = some (some (.int .u8 0), 1, 1) := by kernel_rfl
-- the values' own types
end Go.Proofs.YtnhjidbjibehpaaGreatDoor.Ref

/- Plain numbers: lists of digits in a base, decimal texts, the value of a text. No program in this text. -/
namespace Yd

def bd (B n : Nat) : List Int := if _h : n = 0 ∨ B < 2 then [] else ((n % B : Nat) : Int) :: bd B (n / B)
termination_by n
decreasing_by exact Nat.div_lt_self (by omega) (by omega)

def bv (B : Nat) : List Int → Int
  | [] => 0
  | a :: r => a + B * bv B r

theorem bd_zero (B : Nat) : bd B 0 = [] := by rw [bd, dif_pos (Or.inl rfl)]
theorem bd_pos {B n : Nat} (hB : 2 ≤ B) (h : 0 < n) : bd B n = ((n % B : Nat) : Int) :: bd B (n / B) := by rw [bd, dif_neg (by omega)]
theorem bv_bd {B : Nat} (hB : 2 ≤ B) : ∀ n : Nat, bv B (bd B n) = n := by
  intro n
  induction n using Nat.strongRecOn with
  | _ n ih =>
    by_cases h : n = 0
    · subst h; rw [bd_zero]; rfl
    · rw [bd_pos hB (by omega), bv, ih (n / B) (Nat.div_lt_self (by omega) (by omega))]
      have := Nat.mod_add_div n B
      exact_mod_cast this

theorem bd_mem {B : Nat} (hB : 2 ≤ B) : ∀ n : Nat, ∀ d ∈ bd B n, 0 ≤ d ∧ d < (B : Int) := by
  intro n
  induction n using Nat.strongRecOn with
  | _ n ih =>
    intro d hd
    by_cases h : n = 0
    · subst h; rw [bd_zero] at hd; cases hd
    · rw [bd_pos hB (by omega)] at hd
      rcases List.mem_cons.1 hd with rfl | hd
      · have := Nat.mod_lt n (show B > 0 by omega)
        omega
      · exact ih _ (Nat.div_lt_self (by omega) (by omega)) d hd

theorem bd_getD {B : Nat} (hB : 2 ≤ B) : ∀ (i n : Nat), (bd B n).getD i 0 = ((n / B ^ i % B : Nat) : Int)
  | 0, n => by
    by_cases h : n = 0
    · subst h; rw [bd_zero]; simp
    · rw [bd_pos hB (by omega)]; simp
  | i + 1, n => by
    by_cases h : n = 0
    · subst h; rw [bd_zero]; simp
    · rw [bd_pos hB (by omega), List.getD_cons_succ, bd_getD hB i (n / B), Nat.div_div_eq_div_mul, Nat.pow_succ, Nat.mul_comm B]

theorem bd_lt_pow {B : Nat} (hB : 2 ≤ B) : ∀ n : Nat, n < B ^ (bd B n).length := by
  intro n
  induction n using Nat.strongRecOn with
  | _ n ih =>
    by_cases h : n = 0
    · subst h; rw [bd_zero]; simp
    · rw [bd_pos hB (by omega), List.length_cons, Nat.pow_succ]
      have := ih (n / B) (Nat.div_lt_self (by omega) (by omega))
      exact (Nat.div_lt_iff_lt_mul (by omega)).1 this

theorem bd_pow_le {B : Nat} (hB : 2 ≤ B) : ∀ n k : Nat, (bd B n).length = k + 1 → B ^ k ≤ n := by
  intro n
  induction n using Nat.strongRecOn with
  | _ n ih =>
    intro k hk
    by_cases h : n = 0
    · subst h; rw [bd_zero] at hk; cases hk
    · rw [bd_pos hB (by omega), List.length_cons] at hk
      cases k with
      | zero => simp; omega
      | succ k =>
        have := ih (n / B) (Nat.div_lt_self (by omega) (by omega)) k (by omega)
        rw [Nat.pow_succ]
        exact (Nat.le_div_iff_mul_le (by omega)).1 this

theorem bd_length_le {B : Nat} (hB : 2 ≤ B) (n k : Nat) (h : n < B ^ k) : (bd B n).length ≤ k := by
  rcases Nat.lt_or_ge k (bd B n).length with hl | hl
  · exfalso
    have h1 := bd_pow_le hB n ((bd B n).length - 1) (by omega)
    have h2 : B ^ k ≤ B ^ ((bd B n).length - 1) := Nat.pow_le_pow_right (by omega) (by omega)
    omega
  · exact hl

theorem bd_length_mono {B : Nat} (hB : 2 ≤ B) {n m : Nat} (h : n ≤ m) : (bd B n).length ≤ (bd B m).length :=
  bd_length_le hB _ _ (Nat.lt_of_le_of_lt h (bd_lt_pow hB m))

theorem lt_of_length {B : Nat} (hB : 2 ≤ B) {n m : Nat} (h : (bd B n).length < (bd B m).length) : n < m := by
  rcases Nat.lt_or_ge n m with hl | hl
  · exact hl
  · have := bd_length_mono hB hl
    omega

/-- without zeros at the end -/
def trimL (l : List Int) : List Int := (l.reverse.dropWhile (· == 0)).reverse

theorem trimL_snoc_zero (l : List Int) : trimL (l ++ [0]) = trimL l := by simp [trimL]
theorem trimL_snoc (l : List Int) {a : Int} (h : a ≠ 0) : trimL (l ++ [a]) = l ++ [a] := by simp [trimL, h]

theorem bv_snoc (B : Nat) (l : List Int) (a : Int) : bv B (l ++ [a]) = bv B l + a * (B : Int) ^ l.length := by
  induction l with
  | nil => simp [bv]
  | cons b r ih =>
    simp only [List.cons_append, bv, ih, List.length_cons]
    rw [show (B : Int) ^ (r.length + 1) = (B : Int) ^ r.length * B from Int.pow_succ ..]
    have : (B : Int) * (bv B r + a * (B : Int) ^ r.length) = B * bv B r + a * ((B : Int) ^ r.length * B) := by
      rw [Int.mul_add]; congr 1; rw [Int.mul_comm (B : Int), Int.mul_assoc]
    omega

theorem bv_trimL (B : Nat) (l : List Int) : bv B (trimL l) = bv B l := by
  suffices h : ∀ r : List Int, bv B (trimL r.reverse) = bv B r.reverse by simpa using h l.reverse
  intro r
  induction r with
  | nil => rfl
  | cons a r ih =>
    by_cases h : a = 0
    · subst h; rw [List.reverse_cons, trimL_snoc_zero, ih, bv_snoc]; simp
    · rw [List.reverse_cons, trimL_snoc _ h]

theorem bv_nonneg (B : Nat) : ∀ l : List Int, (∀ d ∈ l, 0 ≤ d) → 0 ≤ bv B l
  | [], _ => Int.le_refl _
  | a :: r, h => by
    have h1 := h a (List.mem_cons_self ..)
    have h2 := bv_nonneg B r (fun d hd => h d (List.mem_cons_of_mem _ hd))
    have h3 : 0 ≤ (B : Int) * bv B r := Int.mul_nonneg (by omega) h2
    simp only [bv]; omega

theorem bv_lt_pow (B : Nat) : ∀ l : List Int, (∀ d ∈ l, d < (B : Int)) → bv B l < (B : Int) ^ l.length
  | [], _ => by simp [bv]
  | a :: r, h => by
    have h1 := h a (List.mem_cons_self ..)
    have h2 := bv_lt_pow B r (fun d hd => h d (List.mem_cons_of_mem _ hd))
    simp only [bv, List.length_cons]
    rw [show (B : Int) ^ (r.length + 1) = (B : Int) ^ r.length * B from Int.pow_succ ..]
    have h3 : (B : Int) * (bv B r + 1) ≤ (B : Int) * (B : Int) ^ r.length := Int.mul_le_mul_of_nonneg_left (by omega) (by omega)
    rw [Int.mul_add, Int.mul_one, Int.mul_comm (B : Int) ((B : Int) ^ r.length)] at h3
    omega

/-- a list of digits that does not end in 0 is the list of the digits of its value -/
theorem bd_of_list {B : Nat} (hB : 2 ≤ B) : ∀ l : List Int, (∀ d ∈ l, 0 ≤ d ∧ d < (B : Int)) → l.getLast? ≠ some 0 → l = bd B (bv B l).toNat
  | [], _, _ => by simp [bv, bd_zero]
  | a :: r, h, hl => by
    have ha := h a (List.mem_cons_self ..)
    have hr := fun d hd => h d (List.mem_cons_of_mem _ hd)
    have hn := bv_nonneg B r (fun d hd => (hr d hd).1)
    obtain ⟨n, hn'⟩ := Int.eq_ofNat_of_zero_le hn
    obtain ⟨c, rfl⟩ := Int.eq_ofNat_of_zero_le ha.1
    have hc : c < B := by omega
    have hv : (bv B ((c : Int) :: r)).toNat = c + B * n := by
      simp only [bv, hn']; norm_cast
    rw [hv]
    have hr' : r = bd B n := by
      have hl' : r.getLast? ≠ some 0 := by
        cases r with
        | nil => simp
        | cons b t => simpa [List.getLast?_cons_cons] using hl
      have := bd_of_list hB r hr hl'
      rwa [hn'] at this
    by_cases h0 : c + B * n = 0
    · exfalso
      have hc0 : c = 0 := by omega
      have hn0 : n = 0 := by
        rcases Nat.eq_zero_or_pos n with h | h
        · exact h
        · have : 0 < B * n := Nat.mul_pos (by omega) h
          omega
      subst hc0; subst hn0; rw [bd_zero] at hr'; subst hr'; simp at hl
    · rw [bd_pos hB (by omega), Nat.add_mul_mod_self_left, Nat.mod_eq_of_lt hc, Nat.add_mul_div_left _ _ (by omega), Nat.div_eq_of_lt hc, Nat.zero_add, ← hr']

theorem trimL_last (l : List Int) : (trimL l).getLast? ≠ some 0 := by
  suffices h : ∀ r : List Int, (trimL r.reverse).getLast? ≠ some 0 by simpa using h l.reverse
  intro r
  induction r with
  | nil => simp [trimL]
  | cons a r ih =>
    by_cases h : a = 0
    · subst h; rw [List.reverse_cons, trimL_snoc_zero]; exact ih
    · rw [List.reverse_cons, trimL_snoc _ h]; simpa using h

theorem trimL_mem {l : List Int} {d : Int} (h : d ∈ trimL l) : d ∈ l := by
  unfold trimL at h
  have h1 := List.mem_reverse.1 h
  have h2 := (List.dropWhile_sublist (p := fun x : Int => x == 0) (l := l.reverse)).mem h1
  exact List.mem_reverse.1 h2

theorem trimL_bd {B : Nat} (hB : 2 ≤ B) (l : List Int) (h : ∀ d ∈ l, 0 ≤ d ∧ d < (B : Int)) : trimL l = bd B (bv B l).toNat := by
  have := bd_of_list hB (trimL l) (fun d hd => h d (trimL_mem hd)) (trimL_last l)
  rwa [bv_trimL] at this

theorem bd_mul {B n : Nat} (hB : 2 ≤ B) (h : 0 < n) : bd B (n * B) = 0 :: bd B n := by
  rw [bd_pos hB (Nat.mul_pos h (by omega)), Nat.mul_mod_left, Nat.mul_div_left _ (by omega)]; rfl

theorem bd_len_pos {B n : Nat} (hB : 2 ≤ B) (h : 0 < n) : 0 < (bd B n).length := by
  rw [bd_pos hB h]; simp

end Yd

/- Layer 3, walked: a group of a number; the folding of groups. -/
namespace Go.Proofs.YtnhjidbjibehpaaGreatDoor.L3
open Go.RowKit Go.Proofs.YtnhjidbjibehpaaGreatDoorW.PrintWords Go.Proofs.YtnhjidbjibehpaaGreatDoorW.PrintLast Go.Proofs.YtnhjidbjibehpaaGreatDoorW.PrintMore Yd
set_option linter.unusedVariables false
set_option linter.unusedSimpArgs false

theorem info3 : (Tryz.prog.info? 3).map (fun i => (i.zero, i.size, i.bytes)) = some (some (.int .i64 0), 1, 8) := by kernel_rfl

/-- The slice value reads as the list. -/
def Ls (w : World) (v : Value) (xs : List Int) : Prop := ∃ A c, v = .slice A xs.length c ∧ xs.length ≤ c ∧ ReadsInt w .i64 A xs.length xs
theorem Ls.below {w w1 : World} {v : Value} {xs : List Int} (h : Ls w v xs) (hb : Below w.heap.size w w1) : Ls w1 v xs := by
  obtain ⟨A, c, e, hc, hr⟩ := h
  exact ⟨A, c, e, hc, hr.below hb⟩
theorem Ls.of_own {w : World} {base : Nat} {v : Value} {xs : List Int} (h : w.ownsRow base 3 1 v xs.length (nums .i64 xs)) : Ls w v xs := by
  obtain ⟨A, c, rfl, hr⟩ := own_reads h
  exact ⟨A, c, rfl, own_le h, hr⟩
theorem Ls.nil (w : World) : Ls w (.slice none 0 0) [] := ⟨none, 0, rfl, Nat.le_refl _, rfl, by simp, fun h => absurd h (Nat.lt_irrefl 0)⟩

/-- number.at -/
theorem at_calls (A : Option Addr) (c : Nat) (xs : List Int) (i : Int) (w : World) (hr : ReadsInt w .i64 A xs.length xs) (hi : 0 ≤ i) :
    Calls Tryz.prog 114 #[.slice A xs.length c, .int .i64 i] w fun e w' => e = .returned (.int .i64 (rd xs i)) ∧ w = w' := by
  by_cases hlt : i < (xs.length : Int)
  · obtain ⟨ad, rfl, hc⟩ := hr.at_ i hi hlt
    have b0 : decide (i < (xs.length : Int)) = true := decide_eq_true hlt
    have p := eq_true hi
    have q := eq_true hlt
    clear hr hlt hi
    go_enter Tryz.func114, Tryz.ntmps114
    go_wp2
    go_ret
    exact ⟨rfl, rfl⟩
  · have b0 : decide (i < (xs.length : Int)) = false := decide_eq_false hlt
    have e : rd xs i = 0 := by unfold rd; rw [List.getD_eq_getElem?_getD, List.getElem?_eq_none (by omega)]; rfl
    have E := Aside0.mk e
    clear hr hlt e
    go_enter Tryz.func114, Tryz.ntmps114
    go_wp2
    go_ret
    exact ⟨by rw [E.out]; rfl, rfl⟩

/-- what the first k digits come to -/
def sumF (f : Nat → Int) : Nat → Int
  | 0 => 0
  | k + 1 => sumF f k + f k * (10000 : Int) ^ k

/-- after k rounds: the digits so far, and what is carried -/
structure FInv (f : Nat → Int) (n k : Nat) (c : Int) (o : List Int) : Prop where
  len : o.length = k
  dig : ∀ d ∈ o, 0 ≤ d ∧ d < 10000
  sum : bv 10000 o + c * (10000 : Int) ^ k = sumF f (min k n)
  lo : -1 ≤ c
  hi : c ≤ 9999
  kn : k ≤ n + 1
  last : k = n + 1 → c = 0

theorem FInv.start (f : Nat → Int) (n : Nat) : FInv f n 0 0 [] := ⟨rfl, (fun _ h => by cases h), by simp [bv, sumF], by omega, by omega, by omega, by omega⟩

theorem FInv.carry_nonneg {f : Nat → Int} {n : Nat} {c : Int} {o : List Int} (h : FInv f n n c o) (hs : 0 ≤ sumF f n) : 0 ≤ c := by
  have h1 := h.sum
  rw [Nat.min_self] at h1
  have h2 := bv_lt_pow 10000 o (fun d hd => (h.dig d hd).2)
  rw [h.len] at h2
  rcases Int.lt_or_le c 0 with hc | hc
  · exfalso
    have : c = -1 := by have := h.lo; omega
    subst this
    have h3 : ((10000 : Nat) : Int) = 10000 := rfl
    rw [h3] at h2
    omega
  · exact hc

/-- The digit that a round writes, and what it carries on. -/
def digS (s : Int) : Int := if s < 0 then s + 10000 else if s ≥ 10000 then s % 10000 else s
def digC (s : Int) : Int := if s < 0 then -1 else if s ≥ 10000 then s / 10000 else 0

theorem digS_C {s : Int} (h0 : -10000 ≤ s) (h1 : s ≤ 99999999) : digS s + digC s * 10000 = s ∧ 0 ≤ digS s ∧ digS s < 10000 ∧ -1 ≤ digC s ∧ digC s ≤ 9999 := by
  unfold digS digC
  split
  · omega
  · split <;> omega

theorem FInv.step {f : Nat → Int} {n k : Nat} {c : Int} {o : List Int} (h : FInv f n k c o) (hs : 0 ≤ sumF f n) (h0 : ∀ j, n ≤ j → f j = 0) (hf : ∀ j, -9999 ≤ f j ∧ f j ≤ 99980001)
    (hgo : k < n ∨ c ≠ 0) : FInv f n (k + 1) (digC (f k + c)) (o ++ [digS (f k + c)]) := by
  have hb := hf k
  have hl := h.lo
  have hh := h.hi
  obtain ⟨e1, e2, e3, e4, e5⟩ := digS_C (s := f k + c) (by omega) (by omega)
  have hk1 : k ≤ n := by
    rcases hgo with hgo | hgo
    · omega
    · rcases Nat.lt_or_ge n k with hk | hk
      · exact absurd (h.last (by have := h.kn; omega)) hgo
      · exact hk
  refine ⟨by simp [h.len], ?_, ?_, e4, e5, by omega, ?_⟩
  · intro d hd
    rcases List.mem_append.1 hd with hd | hd
    · exact h.dig d hd
    · rw [List.mem_singleton] at hd; subst hd; exact ⟨e2, e3⟩
  · rw [bv_snoc, h.len]
    have h1 := h.sum
    rw [Nat.min_eq_left hk1] at h1
    have h2 : sumF f (min (k + 1) n) = sumF f k + f k * (10000 : Int) ^ k := by
      rcases Nat.lt_or_ge k n with hk | hk
      · rw [Nat.min_eq_left (by omega)]; rfl
      · have : k = n := by omega
        subst this
        rw [Nat.min_eq_right (by omega), h0 k (Nat.le_refl _)]; simp
    rw [h2, ← h1, show ((10000 : Nat) : Int) = 10000 from rfl, Int.pow_succ]
    generalize hS : digS (f k + c) = S at *
    generalize hC : digC (f k + c) = C at *
    have h3 : f k = S + C * 10000 - c := by omega
    rw [h3]
    generalize (10000 : Int) ^ k = p
    rw [Int.sub_mul, Int.add_mul, Int.mul_assoc, Int.mul_comm 10000 p]
    omega
  · intro hk
    have : k = n := by omega
    subst this
    have hc := h.carry_nonneg hs
    rw [h0 k (Nat.le_refl _), Int.zero_add]
    unfold digC
    rw [if_neg (by omega), if_neg (by omega)]

theorem FInv.done {f : Nat → Int} {n k : Nat} {c : Int} {o : List Int} (h : FInv f n k c o) (hk : ¬ k < n) (hc : c = 0) : (∀ d ∈ o, 0 ≤ d ∧ d < 10000) ∧ bv 10000 o = sumF f n ∧ o.length ≤ n + 1 := by
  refine ⟨h.dig, ?_, by rw [h.len]; exact h.kn⟩
  have := h.sum
  rw [hc, Nat.min_eq_right (by omega)] at this
  omega

end Go.Proofs.YtnhjidbjibehpaaGreatDoor.L3

/- Layer 3, walked: fold. -/
namespace Go.Proofs.YtnhjidbjibehpaaGreatDoor.L3
open Go.RowKit Go.Proofs.YtnhjidbjibehpaaGreatDoorW.PrintWords Go.Proofs.YtnhjidbjibehpaaGreatDoorW.PrintLast Go.Proofs.YtnhjidbjibehpaaGreatDoorW.PrintMore Yd
set_option linter.unusedVariables false
set_option linter.unusedSimpArgs false

set_option maxHeartbeats 2000000 in
set_option maxRecDepth 100000 in
/-- fold: the digits of the sum, when no carry is left. -/
theorem fold_calls (g : Nat) (lb : Array Value) (f : Nat → Int) (n : Nat) (w : World) (hn : n ≤ 100000)
    (eg : ∀ args W, (callFunc g args).run Tryz.prog W = .ok (.enter g args) W)
    (HC : ∀ (k : Nat) (W : World), Below w.heap.size w W → Calls Tryz.prog g (#[.int .i64 k] ++ lb) W fun e W' => e = .returned (.int .i64 (f k)) ∧ ∃ m, W' = W.drewN m)
    (hs : 0 ≤ sumF f n) (h0 : ∀ j, n ≤ j → f j = 0) (hf : ∀ j, -9999 ≤ f j ∧ f j ≤ 99980001) :
    Calls Tryz.prog 112 #[.int .i64 n, .int .i64 0, .func (.func g) #[] lb] w fun e w' => ∃ v o, e = .returned v ∧ (w'.ownsRow w.heap.size 3 1 v o.length (nums .i64 o)) ∧ (∀ d ∈ o, 0 ≤ d ∧ d < 10000) ∧ bv 10000 o = sumF f n ∧ o.length ≤ n + 1 ∧ Below w.heap.size w w' := by
  have HC' := Aside0.mk HC
  have HS := Aside0.mk hs
  have H0 := Aside0.mk h0
  have HF := Aside0.mk hf
  clear HC hs h0 hf
  obtain ⟨i0, hi, hz0, hz1, hz2⟩ := info_parts info3
  have HI := Aside0.mk hi
  have HZ0 := Aside0.mk hz0
  have HZ1 := Aside0.mk hz1
  have HZ2 := Aside0.mk hz2
  clear hi hz0 hz1 hz2
  go_enter Tryz.func112, Tryz.ntmps112
  go_wp2_with (first | ((with_reducible refine gate_dst (N := 12) rfl ?_); refine wpList_make_own _ rfl _ _ 98 rfl w.heap.size 3 i0 (.int .i64 0) 1 Tryz.underlying98 HI.out HZ0.out HZ1.out .i64 .i64 ((n : Int) + 1) (n + 1) rfl rfl rfl (by rw [HZ2.out]; omega) (by simp [maxLen]; omega) (Nat.le_refl _) ?_; intro w1 ho hg; have HO := Aside0.mk ho; have HB := Aside0.mk (pw_below_grown (Below.refl w.heap.size w) none (Nat.le_refl _) hg (by intro k h; cases h)); clear ho hg))
  go_loopg [1, 7, 8] (n + 1) (fun kq v1 v7 v8 w' => ∃ (o : List Int) (k : Nat) (c : Int), v8 = .int .i64 k ∧ v1 = .int .i64 c ∧ Aside0 (FInv f n k c o) ∧ Aside0 (k + kq = n + 1) ∧ Aside0 (w'.ownsRow w.heap.size 3 1 v7 o.length (nums .i64 o)) ∧ Aside0 (Below w.heap.size w w'))
  case atStart => exact ⟨[], 0, 0, rfl, rfl, ⟨FInv.start f n⟩, ⟨by omega⟩, ⟨HO.out⟩, ⟨HB.out⟩⟩
  case round =>
    clear HO HB HI HZ0 HZ1 HZ2
    obtain ⟨o, k, c, rfl, rfl, HV, HK, HO, HB⟩ := hrel
    have hl := HV.out.lo
    have hh := HV.out.hi
    have hk := HV.out.kn
    by_cases hgo : k < n ∨ c ≠ 0
    · have hstep := HV.out.step HS.out H0.out HF.out hgo
      have HST := Aside0.mk hstep
      have hfk := HF.out k
      obtain ⟨h1, h2⟩ := hfk
      clear hstep
      have hkn : k ≤ n := by
        rcases hgo with h | h
        · omega
        · rcases Nat.lt_or_ge n k with hk' | hk'
          · exact absurd (HV.out.last (by omega)) h
          · exact hk'
      have HKN := Aside0.mk hkn
      obtain ⟨kj, rfl⟩ : ∃ m, gk = m + 1 := ⟨gk - 1, by have := HK.out; omega⟩
      have hb : (decide ((k : Int) < (n : Int)) = true ∧ decide (k < n) = true) ∨ (decide ((k : Int) < (n : Int)) = false ∧ decide (k < n) = false ∧ (c != 0) = true) := by
        rcases Nat.lt_or_ge k n with h | h
        · exact .inl ⟨decide_eq_true (by omega), decide_eq_true h⟩
        · exact .inr ⟨decide_eq_false (by omega), decide_eq_false (by omega), bne_iff_ne.2 (hgo.resolve_left (by omega))⟩
      clear hgo hkn hk
      have hlen : k ≤ 100001 := by have := HKN.out; omega
      obtain ⟨x, hx⟩ : ∃ x, f k = x := ⟨_, rfl⟩
      rw [hx] at HST h1 h2
      have HX := Aside0.mk hx
      clear hx
      have hsx : (x + c < 0) ∨ (0 ≤ x + c ∧ x + c < 10000) ∨ (10000 ≤ x + c) := by omega
      have HOL := Aside0.mk (by have := HV.out.len; omega : o.length ≤ 100001)
      rcases hb with ⟨b1, b1'⟩ | ⟨b1, b1', b2⟩
      all_goals
        go_wp2_with fail
        refine (HC'.out k _ HB.out).mono ?_
        rintro e w2 ⟨rfl, m, hw⟩
        rw [HX.out]
        have HO2 := Aside0.mk (by rw [hw]; exact pw_own_below HO.out (pw_below_drewN (Below.refl _ _) m) : w2.ownsRow w.heap.size 3 1 u7 o.length (nums .i64 o))
        have HB2 := Aside0.mk (by rw [hw]; exact pw_below_drewN HB.out m : Below w.heap.size w w2)
        clear hw HO HB
        rcases hsx with hx1 | ⟨hx1, hx2⟩ | hx1
        · have b3 : decide (x + c < 0) = true := decide_eq_true hx1
          have HD : Aside0 (digS (x + c) = x + c + 10000 ∧ digC (x + c) = -1) := ⟨by unfold digS digC; rw [if_pos hx1, if_pos hx1]; exact ⟨rfl, rfl⟩⟩
          rw [HD.out.1, HD.out.2] at HST
          go_wp2_with (first | ((with_reducible refine gate_builtin (b := .append) (xs := #[.tmp 37, .tmp 39]) rfl ?_); at_builtin; refine print_append_num (w0 := w) w.heap.size rfl (.tmp 37) (.tmp 39) 98 3 .i64 8 rfl Tryz.underlying98 info3 (by decide) u7 o (x + c + 10000) rfl rfl HO2.out HB2.out HB2.out.size (by have := HOL.out; omega) ?_; intro v1 w1 ho hb hg hat; have HO3 := Aside0.mk ho; have HB3 := Aside0.mk hb; clear ho hb hg hat HO2 HB2))
          go_roundg kj
          case measure => have := HK.out; omega
          case rel => exact ⟨_, k + 1, -1, by go_num, rfl, HST, ⟨by have := HK.out; omega⟩, HO3, HB3⟩
        · have b3 : decide (x + c < 0) = false := decide_eq_false (by omega)
          have b4 : decide (10000 ≤ x + c) = false := decide_eq_false (by omega)
          have HD : Aside0 (digS (x + c) = x + c ∧ digC (x + c) = 0) := ⟨by unfold digS digC; rw [if_neg (by omega), if_neg (by omega), if_neg (by omega), if_neg (by omega)]; exact ⟨rfl, rfl⟩⟩
          rw [HD.out.1, HD.out.2] at HST
          go_wp2_with (first | ((with_reducible refine gate_builtin (b := .append) (xs := #[.tmp 37, .tmp 39]) rfl ?_); at_builtin; refine print_append_num (w0 := w) w.heap.size rfl (.tmp 37) (.tmp 39) 98 3 .i64 8 rfl Tryz.underlying98 info3 (by decide) u7 o (x + c) rfl rfl HO2.out HB2.out HB2.out.size (by have := HOL.out; omega) ?_; intro v1 w1 ho hb hg hat; have HO3 := Aside0.mk ho; have HB3 := Aside0.mk hb; clear ho hb hg hat HO2 HB2))
          go_roundg kj
          case measure => have := HK.out; omega
          case rel => exact ⟨_, k + 1, 0, by go_num, rfl, HST, ⟨by have := HK.out; omega⟩, HO3, HB3⟩
        · have b3 : decide (x + c < 0) = false := decide_eq_false (by omega)
          have b4 : decide (10000 ≤ x + c) = true := decide_eq_true hx1
          have HD : Aside0 (digS (x + c) = (x + c) % 10000 ∧ digC (x + c) = (x + c) / 10000) := ⟨by unfold digS digC; rw [if_neg (by omega), if_pos (by omega), if_neg (by omega), if_pos (by omega)]; exact ⟨rfl, rfl⟩⟩
          rw [HD.out.1, HD.out.2] at HST
          go_wp2_with (first | ((with_reducible refine gate_builtin (b := .append) (xs := #[.tmp 37, .tmp 39]) rfl ?_); at_builtin; refine print_append_num (w0 := w) w.heap.size rfl (.tmp 37) (.tmp 39) 98 3 .i64 8 rfl Tryz.underlying98 info3 (by decide) u7 o ((x + c) % 10000) rfl rfl HO2.out HB2.out HB2.out.size (by have := HOL.out; omega) ?_; intro v1 w1 ho hb hg hat; have HO3 := Aside0.mk ho; have HB3 := Aside0.mk hb; clear ho hb hg hat HO2 HB2))
          go_roundg kj
          case measure => have := HK.out; omega
          case rel => exact ⟨_, k + 1, (x + c) / 10000, by go_num, rfl, HST, ⟨by have := HK.out; omega⟩, HO3, HB3⟩
    · have hc0 : c = 0 := by omega
      have hkn : ¬ k < n := by omega
      obtain ⟨hd, hv, hln⟩ := HV.out.done hkn hc0
      have HLN := Aside0.mk hln
      have HD := Aside0.mk hd
      have HVV := Aside0.mk hv
      have b1 : decide ((k : Int) < (n : Int)) = false := decide_eq_false (by omega)
      have b1' : decide (k < n) = false := decide_eq_false (by omega)
      subst hc0
      clear hd hv hgo hkn hln
      go_wp2_with fail
      go_ret
      exact ⟨_, o, rfl, HO.out, HD.out, HVV.out, HLN.out, HB.out⟩

end Go.Proofs.YtnhjidbjibehpaaGreatDoor.L3

/- Functions of the reference, each as a plain Lean function, and that the machine's call does what it says: internal/stringslite.HasPrefix, internal/stringslite.TrimPrefix, strings.TrimPrefix, (yardstick/integer.number).trimmed, yardstick/integer.one, cmp.isNaN[int], cmp.Compare[int]. -/
namespace Go.Proofs.YtnhjidbjibehpaaGreatDoor.Ref
open Go.RowKit Go.Proofs.YtnhjidbjibehpaaGreatDoorW.PrintWords Go.Proofs.YtnhjidbjibehpaaGreatDoorW.PrintLast Go.Proofs.YtnhjidbjibehpaaGreatDoorW.PrintMore
attribute [local go_sem] max2_int max_two

set_option linter.unusedVariables false
set_option linter.unusedSimpArgs false

def stringslite_HasPrefix.f (a0 : ByteArray) (a1 : ByteArray) : Option (Bool) := if (a0.size : Int) ≥ (a1.size : Int) then (if 0 ≤ (a1.size : Int) then (if (a1.size : Int) ≤ (a0.size : Int) then (some ((a0.extract 0 ((a1.size : Int) : Int).toNat).toList == a1.toList)) else (none)) else (none)) else (some false)
set_option maxHeartbeats 8000000 in
set_option maxRecDepth 100000 in
theorem stringslite_HasPrefix.calls (a0 : ByteArray) (a1 : ByteArray) (r : Bool) (w : World) (h : stringslite_HasPrefix.f a0 a1 = some r) :
    Calls Tryz.prog 141 #[.string a0, .string a1] w fun e w' => e = .returned (.bool r) ∧ Drawn0 w w' := by
  have H : (if (a0.size : Int) ≥ (a1.size : Int) then (if 0 ≤ (a1.size : Int) then (if (a1.size : Int) ≤ (a0.size : Int) then (some ((a0.extract 0 ((a1.size : Int) : Int).toNat).toList == a1.toList)) else (none)) else (none)) else (some false)) = some r := h
  clear h
  by_cases c3 : (a0.size : Int) ≥ (a1.size : Int)
  · rw [if_pos c3] at H
    have c3b0 : decide ((a1.size : Int) ≤ (a0.size : Int)) = true := decide_eq_true c3
    have c3b1 : decide (a1.size ≤ a0.size) = true := decide_eq_true (Int.ofNat_le.mp c3)
    clear c3
    by_cases c4 : 0 ≤ (a1.size : Int)
    · rw [if_pos c4] at H
      have c4b0 := eq_true c4
      have c4b1 : decide (0 ≤ (a1.size : Int)) = true := decide_eq_true c4
      clear c4
      by_cases c5 : (a1.size : Int) ≤ (a0.size : Int)
      · rw [if_pos c5] at H
        have c5b0 := eq_true c5
        have c5b1 : decide ((a1.size : Int) ≤ (a0.size : Int)) = true := decide_eq_true c5
        clear c5
        obtain rfl := Option.some.inj H
        go_enter Tryz.func141, Tryz.ntmps141
        go_wp2
        go_ret
        exact ⟨by first | rfl | (simp; done) | (simp [*]; done), by repeat (first | exact Drawn0.refl _ | apply Drawn0.step)⟩
      · rw [if_neg c5] at H
        exact absurd H (by simp)
    · rw [if_neg c4] at H
      exact absurd H (by simp)
  · rw [if_neg c3] at H
    have c3b0 : decide ((a1.size : Int) ≤ (a0.size : Int)) = false := decide_eq_false c3
    have c3b1 : decide (a1.size ≤ a0.size) = false := decide_eq_false (fun h => c3 (Int.ofNat_le.mpr h))
    clear c3
    obtain rfl := Option.some.inj H
    go_enter Tryz.func141, Tryz.ntmps141
    go_wp2
    go_ret
    exact ⟨by first | rfl | (simp; done) | (simp [*]; done), by repeat (first | exact Drawn0.refl _ | apply Drawn0.step)⟩

def stringslite_TrimPrefix.f (a0 : ByteArray) (a1 : ByteArray) : Option (ByteArray) := (stringslite_HasPrefix.f a0 a1).bind fun t101 => (if t101 = true then (if 0 ≤ (a1.size : Int) then (if (a1.size : Int) ≤ (a0.size : Int) then (some (a0.extract ((a1.size : Int) : Int).toNat a0.size)) else (none)) else (none)) else (some a0))
set_option maxHeartbeats 8000000 in
set_option maxRecDepth 100000 in
theorem stringslite_TrimPrefix.calls (a0 : ByteArray) (a1 : ByteArray) (r : ByteArray) (w : World) (h : stringslite_TrimPrefix.f a0 a1 = some r) :
    Calls Tryz.prog 127 #[.string a0, .string a1] w fun e w' => e = .returned (.string r) ∧ Drawn0 w w' := by
  have H : ((stringslite_HasPrefix.f a0 a1).bind fun t101 => (if t101 = true then (if 0 ≤ (a1.size : Int) then (if (a1.size : Int) ≤ (a0.size : Int) then (some (a0.extract ((a1.size : Int) : Int).toNat a0.size)) else (none)) else (none)) else (some a0))) = some r := h
  clear h
  replace H := Option.bind_eq_some_iff.mp H
  obtain ⟨t101, A30, H⟩ := H
  replace H : (if t101 = true then (if 0 ≤ (a1.size : Int) then (if (a1.size : Int) ≤ (a0.size : Int) then (some (a0.extract ((a1.size : Int) : Int).toNat a0.size)) else (none)) else (none)) else (some a0)) = some r := H
  have A3 := Aside0.mk A30
  clear A30
  by_cases c4 : t101 = true
  · subst c4
    have H1 : (if 0 ≤ (a1.size : Int) then (if (a1.size : Int) ≤ (a0.size : Int) then (some (a0.extract ((a1.size : Int) : Int).toNat a0.size)) else (none)) else (none)) = some r := by rw [if_pos rfl] at H; exact H
    clear H
    have H := H1
    clear H1
    by_cases c5 : 0 ≤ (a1.size : Int)
    · rw [if_pos c5] at H
      have c5b0 := eq_true c5
      have c5b1 : decide (0 ≤ (a1.size : Int)) = true := decide_eq_true c5
      clear c5
      by_cases c6 : (a1.size : Int) ≤ (a0.size : Int)
      · rw [if_pos c6] at H
        have c6b0 := eq_true c6
        have c6b1 : decide ((a1.size : Int) ≤ (a0.size : Int)) = true := decide_eq_true c6
        clear c6
        obtain rfl := Option.some.inj H
        go_enter Tryz.func127, Tryz.ntmps127
        go_wp2_with (first | ((with_reducible refine gate_callee (f := 141) rfl ?_); refine goesL_ (some 7) rfl rfl Tryz.func141 (by kernel_rfl) rfl #[.string a0, .string a1] rfl (by (try simp only [List.map_toArray, List.map_cons, List.map_nil]); first | done | rfl | (simp only [List.length_drop, List.length_take]; rfl)) ?_; (with_reducible refine (stringslite_HasPrefix.calls a0 a1 true _ A3.out).mono ?_); rintro e w' ⟨rfl, ⟨nd, rfl⟩⟩; refine ⟨_, rfl, ?_⟩))
        go_ret
        exact ⟨by first | rfl | (simp; done) | (simp [*]; done), by repeat (first | exact Drawn0.refl _ | apply Drawn0.step)⟩
      · rw [if_neg c6] at H
        exact absurd H (by simp)
    · rw [if_neg c5] at H
      exact absurd H (by simp)
  · replace c4 := Bool.eq_false_iff.mpr c4
    subst c4
    have H1 : (some a0) = some r := by rw [if_neg (show ¬ (false = true) by decide)] at H; exact H
    clear H
    have H := H1
    clear H1
    obtain rfl := Option.some.inj H
    go_enter Tryz.func127, Tryz.ntmps127
    go_wp2_with (first | ((with_reducible refine gate_callee (f := 141) rfl ?_); refine goesL_ (some 7) rfl rfl Tryz.func141 (by kernel_rfl) rfl #[.string a0, .string a1] rfl (by (try simp only [List.map_toArray, List.map_cons, List.map_nil]); first | done | rfl | (simp only [List.length_drop, List.length_take]; rfl)) ?_; (with_reducible refine (stringslite_HasPrefix.calls a0 a1 false _ A3.out).mono ?_); rintro e w' ⟨rfl, ⟨nd, rfl⟩⟩; refine ⟨_, rfl, ?_⟩))
    go_ret
    exact ⟨by first | rfl | (simp; done) | (simp [*]; done), by repeat (first | exact Drawn0.refl _ | apply Drawn0.step)⟩

def strings_TrimPrefix.f (a0 : ByteArray) (a1 : ByteArray) : Option (ByteArray) := (stringslite_TrimPrefix.f a0 a1).bind fun t102 => (some t102)
set_option maxHeartbeats 8000000 in
set_option maxRecDepth 100000 in
theorem strings_TrimPrefix.calls (a0 : ByteArray) (a1 : ByteArray) (r : ByteArray) (w : World) (h : strings_TrimPrefix.f a0 a1 = some r) :
    Calls Tryz.prog 102 #[.string a0, .string a1] w fun e w' => e = .returned (.string r) ∧ Drawn0 w w' := by
  have H : ((stringslite_TrimPrefix.f a0 a1).bind fun t102 => (some t102)) = some r := h
  clear h
  replace H := Option.bind_eq_some_iff.mp H
  obtain ⟨t102, A30, H⟩ := H
  replace H : (some t102) = some r := H
  have A3 := Aside0.mk A30
  clear A30
  obtain rfl := Option.some.inj H
  go_enter Tryz.func102, Tryz.ntmps102
  go_wp2_with (first | ((with_reducible refine gate_callee (f := 127) rfl ?_); refine goesL_ (some 7) rfl rfl Tryz.func127 (by kernel_rfl) rfl #[.string a0, .string a1] rfl (by (try simp only [List.map_toArray, List.map_cons, List.map_nil]); first | done | rfl | (simp only [List.length_drop, List.length_take]; rfl)) ?_; (with_reducible refine (stringslite_TrimPrefix.calls a0 a1 t102 _ A3.out).mono ?_); rintro e w' ⟨rfl, ⟨nd, rfl⟩⟩; refine ⟨_, rfl, ?_⟩))
  go_ret
  exact ⟨by first | rfl | (simp; done) | (simp [*]; done), by repeat (first | exact Drawn0.refl _ | apply Drawn0.step)⟩

def integer_number_trimmed.l0 : Nat → List Int → Option (List Int)
  | 0, _ => none
  | k + 1, x0 => if (x0.length : Int) > 0 then (if 0 ≤ (wrap64 ((x0.length : Int) - 1)) then (if (wrap64 ((x0.length : Int) - 1)) < (x0.length : Int) then (if (rd x0 (wrap64 ((x0.length : Int) - 1))) = 0 then (if (wrap64 ((x0.length : Int) - 1)) ≤ (x0.length : Int) then (integer_number_trimmed.l0 k (x0.take ((wrap64 ((x0.length : Int) - 1)) : Int).toNat)) else (none)) else (some x0)) else (none)) else (none)) else (some x0)
def integer_number_trimmed.f (k : Nat) (l0 : List Int) : Option (List Int) := integer_number_trimmed.l0 k l0
theorem integer_number_trimmed.mono_l : ∀ k, (∀ y0, LeO (integer_number_trimmed.l0 k y0) (integer_number_trimmed.l0 (k + 1) y0))
  | 0 => fun _ r h => by simp [integer_number_trimmed.l0] at h
  | k + 1 => by
    have ih0 := integer_number_trimmed.mono_l k
    · intro y0
      unfold integer_number_trimmed.l0
      repeat' first
      | (with_reducible exact ih0 _)
      | (with_reducible exact LeO.refl _)
      | (with_reducible exact LeO.none _)
      | (with_reducible refine LeO.ite ?_ ?_)
      | (with_reducible refine LeO.bind ?_ (fun _ => ?_))
      | exact ih0 _
      | exact LeO.none _
      | refine LeO.ite ?_ ?_
      | refine LeO.bind ?_ (fun _ => ?_)
theorem integer_number_trimmed.mono : ∀ a0 k, LeO (integer_number_trimmed.f k a0) (integer_number_trimmed.f (k + 1) a0) := by
  intro a0 k
  have ih0 := integer_number_trimmed.mono_l k
  unfold integer_number_trimmed.f
  repeat' first
      | (with_reducible exact ih0 _)
      | (with_reducible exact LeO.refl _)
      | (with_reducible exact LeO.none _)
      | (with_reducible refine LeO.ite ?_ ?_)
      | (with_reducible refine LeO.bind ?_ (fun _ => ?_))
      | exact ih0 _
      | exact LeO.none _
      | refine LeO.ite ?_ ?_
      | refine LeO.bind ?_ (fun _ => ?_)
set_option maxHeartbeats 8000000 in
set_option maxRecDepth 100000 in
theorem integer_number_trimmed.calls (k : Nat) (P0_ : Nat → Prop) (A0 : Option Addr) (c0 : Nat) (l0 : List Int) (r : List Int) (w : World) (hs0 : Kd.V (Kd.int .i64) 3 w w.heap.size (fun k_ => P0_ k_) (.slice A0 l0.length c0) l0) (h : integer_number_trimmed.f k l0 = some r) :
    Calls Tryz.prog 107 #[.slice A0 l0.length c0] w fun e w' => ∃ v0_ : Value, e = .returned (v0_) ∧ Kd.V (Kd.int .i64) 3 w' w.heap.size (fun k_ => (P0_ k_ ∨ w.heap.size ≤ k_)) v0_ r ∧ Below w.heap.size w w' := by
  have HO0 := Aside0.mk (show Kd.V (Kd.int .i64) 3 w w.heap.size (fun k_ => (P0_ k_ ∨ w.heap.size ≤ k_)) (.slice A0 l0.length c0) l0 from Kd.V_mono hs0 (fun k_ hk => .inl hk))
  have HB := Aside0.mk (Below.refl w.heap.size w)
  have H : (integer_number_trimmed.l0 k l0) = some r := h
  clear h
  have H' := Aside0.mk H
  clear H
  go_enter Tryz.func107, Tryz.ntmps107
  go_wp2
  go_loopg [0] k (fun kq v0 w' => ∃ (x0_1 : List Int), Aside0 (integer_number_trimmed.l0 kq x0_1 = some r) ∧ Aside0 (kq ≤ k) ∧ Aside0 (Kd.V (Kd.int .i64) 3 w' w.heap.size (fun k_ => (P0_ k_ ∨ w.heap.size ≤ k_)) v0 x0_1) ∧ Aside0 (Below w.heap.size w w'))
  case atStart => exact ⟨(l0), H', ⟨Nat.le_refl _⟩, ⟨by (with_reducible repeat (first | apply Kd.V_alloc | apply Kd.V_drewN | apply Kd.V_drew)); exact HO0.out⟩, ⟨by repeat (first | (with_reducible first | exact HB.out | apply below_alloc | apply pw_below_drewN | apply below_drew1) | exact HB.out)⟩⟩
  case round =>
    clear H'
    try clear c1
    obtain ⟨x0_1, HA, HK1, HO_0, HB⟩ := hrel
    cases gk with
    | zero => exact absurd HA.out (by simp [integer_number_trimmed.l0])
    | succ k1 =>
      have H := HA.out
      clear HA
      simp only [integer_number_trimmed.l0] at H
      by_cases c2 : (x0_1.length : Int) > 0
      · rw [if_pos c2] at H
        have c2b0 : decide (0 < (x0_1.length : Int)) = true := decide_eq_true c2
        have c2b1 : decide (0 < x0_1.length) = true := decide_eq_true (by omega)
        clear c2
        obtain ⟨ji3, hji3⟩ : ∃ j_ : Int, (wrap64 ((x0_1.length : Int) - 1)) = j_ := ⟨_, rfl⟩
        replace H : (if 0 ≤ (ji3) then (if (ji3) < (x0_1.length : Int) then (if (rd x0_1 (ji3)) = 0 then (if (ji3) ≤ (x0_1.length : Int) then (integer_number_trimmed.l0 k1 (x0_1.take ((ji3) : Int).toNat)) else (none)) else (some x0_1)) else (none)) else (none)) = some r := by first | (rw [hji3] at H; exact H) | (simp only [hji3] at H ⊢; exact H)
        have hji3w : (IntKind.i64.wrap ((x0_1.length : Int) - 1)) = ji3 := (i64_w _).trans hji3
        by_cases c4 : 0 ≤ (ji3)
        · rw [if_pos c4] at H
          have c4b0 : decide (0 ≤ (ji3)) = true := decide_eq_true c4
          clear c4
          by_cases c5 : (ji3) < (x0_1.length : Int)
          · rw [if_pos c5] at H
            have c5b0 : decide ((ji3) < (x0_1.length : Int)) = true := decide_eq_true c5
            clear c5
            by_cases c6 : (rd x0_1 (ji3)) = 0
            · rw [if_pos c6] at H
              have c6b0 : ((rd x0_1 (ji3)) == 0) = true := beq_iff_eq.mpr c6
              have c6b1 : ((rd x0_1 (ji3)) != 0) = false := bne_eq_false_iff_eq.mpr c6
              clear c6
              have c7b0 := eq_true (of_decide_eq_true (by first | (with_reducible assumption) | assumption) : 0 ≤ (ji3))
              by_cases c8 : (ji3) ≤ (x0_1.length : Int)
              · rw [if_pos c8] at H
                have c8b0 := eq_true c8
                have c8b1 : decide ((ji3) ≤ (x0_1.length : Int)) = true := decide_eq_true c8
                clear c8
                obtain ⟨y108, hy108⟩ : ∃ y_ : List Int, y_ = (x0_1.take ((ji3) : Int).toNat) := ⟨_, rfl⟩
                replace H : (integer_number_trimmed.l0 k1 y108) = some r := by first | (rw [hy108]; with_reducible exact H) | (have H2_ := (Option.bind_some _ _).symm.trans H; rw [hy108]; with_reducible exact H2_) | (have H2_ := (Option.bind_some _ _).symm.trans H; with_reducible exact H2_) | with_reducible exact H | (rw [hy108]; exact H) | exact H
                have Ny108 := Aside0.mk hy108
                clear hy108
                have H' := Aside0.mk H
                clear H
                obtain ⟨Ao9, co9, eo9⟩ := Kd.V_slice HO_0.out
                subst eo9
                have p107 : 0 ≤ ((ji3) : Int) := of_decide_eq_true (by first | (with_reducible assumption) | assumption)
                have q107 : (ji3) < (x0_1.length : Int) := of_decide_eq_true (by first | (with_reducible assumption) | assumption)
                obtain ⟨ad107, e107, hx107_0⟩ := Kd.at_int (Kd.V_reads' HO_0.out).2.2 (ji3) p107 q107
                cases e107
                replace p107 := eq_true p107
                replace q107 := eq_true q107
                have q10 : ((ji3) : Int) ≤ ((x0_1.length : Int) : Int) := of_decide_eq_true (by first | (with_reducible assumption) | assumption)
                obtain ⟨i010, hi010, _, hsz10, _⟩ := info_parts info3
                have hroom10 : x0_1.length ≤ co9 := (Kd.V_reads' HO_0.out).2.1
                have hC10 : Kd.F (Kd.int .i64) _ _ (some ad107) x0_1.length x0_1 := (Kd.V_at (base := w.heap.size) HO_0.out).2.2
                have hcut10 := cut_to (P := Tryz.prog) 98 3 .i64 Tryz.underlying98 hi010 (some ad107) x0_1.length co9 (ji3) (of_decide_eq_true (by first | (with_reducible assumption) | assumption)) q10 hroom10
                have hr10 := Kd.F_take (m := ((ji3) : Int).toNat) hC10 (by omega)
                have hy10 : y108.length = ((ji3) : Int).toNat := (by rw [Ny108.out, List.length_take]; omega)
                rw [← Ny108.out] at hr10
                rw [← hy10] at hcut10
                have HO112 := Aside0.mk (show Kd.V (Kd.int .i64) 3 _ w.heap.size _ (.slice (some ad107) y108.length co9) y108 from Kd.V_mk (by omega) hr10)
                have HC112 := Aside0.mk (show y108.length ≤ co9 from by omega)
                clear hr10 hC10 hroom10 hi010 hsz10
                have KY10 := Aside0.mk hy10
                clear hy10
                replace q10 := eq_true q10
                go_wp2
                go_roundg k1
                case measure => have := HK1.out; omega
                case rel => exact ⟨(y108), H', ⟨by have := HK1.out; omega⟩, ⟨by (with_reducible repeat (first | apply Kd.V_alloc | apply Kd.V_drewN | apply Kd.V_drew)); exact HO112.out⟩, ⟨by repeat (first | (with_reducible first | exact HB.out | apply below_alloc | apply pw_below_drewN | apply below_drew1) | exact HB.out)⟩⟩
              · rw [if_neg c8] at H
                exact absurd H (by simp)
            · rw [if_neg c6] at H
              have c6b0 : ((rd x0_1 (ji3)) == 0) = false := beq_eq_false_iff_ne.mpr c6
              have c6b1 : ((rd x0_1 (ji3)) != 0) = true := bne_iff_ne.mpr c6
              obtain rfl := Option.some.inj H
              obtain ⟨Ao11, co11, eo11⟩ := Kd.V_slice HO_0.out
              subst eo11
              have p107 : 0 ≤ ((ji3) : Int) := of_decide_eq_true (by first | (with_reducible assumption) | assumption)
              have q107 : (ji3) < (x0_1.length : Int) := of_decide_eq_true (by first | (with_reducible assumption) | assumption)
              obtain ⟨ad107, e107, hx107_0⟩ := Kd.at_int (Kd.V_reads' HO_0.out).2.2 (ji3) p107 q107
              cases e107
              replace p107 := eq_true p107
              replace q107 := eq_true q107
              go_wp2
              go_ret
              exact ⟨_, by first | rfl | (simp [errW_none, errW_some] <;> rfl) | (simp only [← hji3]; first | rfl | (simp [errW_none, errW_some] <;> rfl)) | (simp [*, errW_none, errW_some] <;> rfl), by (with_reducible repeat (first | apply Kd.V_alloc | apply Kd.V_drewN | apply Kd.V_drew)); exact HO_0.out, by repeat (first | (with_reducible first | exact HB.out | apply below_alloc | apply pw_below_drewN | apply below_drew1) | exact HB.out)⟩
          · rw [if_neg c5] at H
            exact absurd H (by simp)
        · rw [if_neg c4] at H
          exact absurd H (by simp)
      · rw [if_neg c2] at H
        have c2b0 : decide (0 < (x0_1.length : Int)) = false := decide_eq_false c2
        have c2b1 : decide (0 < x0_1.length) = false := decide_eq_false (by omega)
        clear c2
        obtain rfl := Option.some.inj H
        obtain ⟨Ao12, co12, eo12⟩ := Kd.V_slice HO_0.out
        subst eo12
        go_wp2
        go_ret
        exact ⟨_, by first | rfl | (simp [errW_none, errW_some] <;> rfl) | (simp [*, errW_none, errW_some] <;> rfl), by (with_reducible repeat (first | apply Kd.V_alloc | apply Kd.V_drewN | apply Kd.V_drew)); exact HO_0.out, by repeat (first | (with_reducible first | exact HB.out | apply below_alloc | apply pw_below_drewN | apply below_drew1) | exact HB.out)⟩

def integer_one.f  : Option (List Int) := some (([1] : List Int))
set_option maxHeartbeats 8000000 in
set_option maxRecDepth 100000 in
theorem integer_one.calls  (r : List Int) (w : World) (h : integer_one.f  = some r) :
    Calls Tryz.prog 87 #[] w fun e w' => ∃ v0_ : Value, e = .returned (v0_) ∧ Kd.R (Kd.int .i64) 3 w' w.heap.size (fun _ => True) v0_ r ∧ Below w.heap.size w w' := by
  have HB := Aside0.mk (Below.refl w.heap.size w)
  have H : (some (([1] : List Int))) = some r := h
  clear h
  obtain ⟨y165, hy165⟩ : ∃ y_ : List Int, y_ = (([1] : List Int)) := ⟨_, rfl⟩
  replace H : (some y165) = some r := by first | (rw [hy165]; with_reducible exact H) | (have H2_ := (Option.bind_some _ _).symm.trans H; rw [hy165]; with_reducible exact H2_) | (have H2_ := (Option.bind_some _ _).symm.trans H; with_reducible exact H2_) | with_reducible exact H | (rw [hy165]; exact H) | exact H
  have Ny165 := Aside0.mk hy165
  clear hy165
  obtain rfl := Option.some.inj H
  go_enter Tryz.func87, Tryz.ntmps87
  go_wp2_with (first | ((with_reducible refine gate_dst (N := 1) rfl ?_); refine Kd.R_lit (Kd.int .i64) _ 3 ?hg (N := 1) ?hd (xs := ([1] : List Int)) (inner := [.int .i64 1]) (ok := fun _ => True) (okp := fun _ => True) ?hr ?hp (fun _ hk => hk) trivial (Below.refl _ _) (Nat.le_refl _) (by simp) ?_; (case hd => rfl); (case hg => rfl); (case hr => first | (go_simp; done) | (go_simp; rfl)); (case hp => exact (Reps.one (show Kd.M (Kd.int .i64) _ _ _ 1 [.int .i64 1] from rfl) (Reps.none _ _))); intro v166 w1 ho2 hb hg_ hnew_; clear hg_ hnew_; (first | rw [← Ny165.out] at ho2 | (simp only [Int.reduceToNat] at ho2; rw [← Ny165.out] at ho2)); have n0_ := Aside0.mk (Kd.R_lower ho2 (below_size (by repeat (first | (with_reducible first | exact HB.out | apply below_alloc | apply pw_below_drewN | apply below_drew1) | exact HB.out)))); have n1_ := Aside0.mk (below_step (by repeat (first | (with_reducible first | exact HB.out | apply below_alloc | apply pw_below_drewN | apply below_drew1) | exact HB.out)) hb); clear HB; have HO167 := n0_; have HB := n1_; clear n0_ n1_; clear hb ho2))
  go_ret
  exact ⟨_, by first | rfl | (simp [errW_none, errW_some] <;> rfl) | (simp [*, errW_none, errW_some] <;> rfl), by (with_reducible repeat (first | apply Kd.R_alloc | apply Kd.R_drewN | apply Kd.R_drew)); exact HO167.out, by repeat (first | (with_reducible first | exact HB.out | apply below_alloc | apply pw_below_drewN | apply below_drew1) | exact HB.out)⟩

-- NOT PRINTED: function 58 (integer_Div)

-- NOT PRINTED: function 23 (rational_Compare)

def cmp_isNaN_int.f (a0 : Int) : Option (Bool) := some (a0 != a0)
set_option maxHeartbeats 8000000 in
set_option maxRecDepth 100000 in
theorem cmp_isNaN_int.calls (a0 : Int) (r : Bool) (w : World) (h : cmp_isNaN_int.f a0 = some r) :
    Calls Tryz.prog 136 #[.int .i64 a0] w fun e w' => e = .returned (.bool r) ∧ Drawn0 w w' := by
  have H : (some (a0 != a0)) = some r := h
  clear h
  obtain rfl := Option.some.inj H
  go_enter Tryz.func136, Tryz.ntmps136
  go_wp2
  go_ret
  exact ⟨by first | rfl | (simp; done) | (simp [*]; done), by repeat (first | exact Drawn0.refl _ | apply Drawn0.step)⟩

def cmp_Compare_int.f (a0 : Int) (a1 : Int) : Option (Int) := (cmp_isNaN_int.f a0).bind fun t152 => ((cmp_isNaN_int.f a1).bind fun t153 => (if t152 = true then (if t153 = true then (some 0) else (some (-1))) else (if t153 = true then (some 1) else (if a0 < a1 then (some (-1)) else (if a0 > a1 then (some 1) else (some 0))))))
set_option maxHeartbeats 8000000 in
set_option maxRecDepth 100000 in
theorem cmp_Compare_int.calls (a0 : Int) (a1 : Int) (r : Int) (w : World) (h : cmp_Compare_int.f a0 a1 = some r) :
    Calls Tryz.prog 105 #[.int .i64 a0, .int .i64 a1] w fun e w' => e = .returned (.int .i64 r) ∧ Drawn0 w w' := by
  have H : ((cmp_isNaN_int.f a0).bind fun t152 => ((cmp_isNaN_int.f a1).bind fun t153 => (if t152 = true then (if t153 = true then (some 0) else (some (-1))) else (if t153 = true then (some 1) else (if a0 < a1 then (some (-1)) else (if a0 > a1 then (some 1) else (some 0))))))) = some r := h
  clear h
  replace H := Option.bind_eq_some_iff.mp H
  obtain ⟨t152, A30, H⟩ := H
  replace H : ((cmp_isNaN_int.f a1).bind fun t153 => (if t152 = true then (if t153 = true then (some 0) else (some (-1))) else (if t153 = true then (some 1) else (if a0 < a1 then (some (-1)) else (if a0 > a1 then (some 1) else (some 0)))))) = some r := H
  have A3 := Aside0.mk A30
  clear A30
  replace H := Option.bind_eq_some_iff.mp H
  obtain ⟨t153, A40, H⟩ := H
  replace H : (if t152 = true then (if t153 = true then (some 0) else (some (-1))) else (if t153 = true then (some 1) else (if a0 < a1 then (some (-1)) else (if a0 > a1 then (some 1) else (some 0))))) = some r := H
  have A4 := Aside0.mk A40
  clear A40
  by_cases c5 : t152 = true
  · subst c5
    have H1 : (if t153 = true then (some 0) else (some (-1))) = some r := by rw [if_pos rfl] at H; exact H
    clear H
    have H := H1
    clear H1
    by_cases c6 : t153 = true
    · subst c6
      have H1 : (some 0) = some r := by rw [if_pos rfl] at H; exact H
      clear H
      have H := H1
      clear H1
      obtain rfl := Option.some.inj H
      go_enter Tryz.func105, Tryz.ntmps105
      go_wp2_with (first | ((with_reducible refine gate_callee (f := 136) rfl ?_); refine goesL_ (some 8) rfl rfl Tryz.func136 (by kernel_rfl) rfl #[.int .i64 a0] rfl (by (try simp only [List.map_toArray, List.map_cons, List.map_nil]); first | done | rfl | (simp only [List.length_drop, List.length_take]; rfl)) ?_; (with_reducible refine (cmp_isNaN_int.calls a0 true _ A3.out).mono ?_); rintro e w' ⟨rfl, ⟨nd, rfl⟩⟩; refine ⟨_, rfl, ?_⟩) | ((with_reducible refine gate_callee (f := 136) rfl ?_); refine goesL_ (some 10) rfl rfl Tryz.func136 (by kernel_rfl) rfl #[.int .i64 a1] rfl (by (try simp only [List.map_toArray, List.map_cons, List.map_nil]); first | done | rfl | (simp only [List.length_drop, List.length_take]; rfl)) ?_; (with_reducible refine (cmp_isNaN_int.calls a1 true _ A4.out).mono ?_); rintro e w' ⟨rfl, ⟨nd, rfl⟩⟩; refine ⟨_, rfl, ?_⟩))
      go_ret
      exact ⟨by first | rfl | (simp; done) | (simp [*]; done), by repeat (first | exact Drawn0.refl _ | apply Drawn0.step)⟩
    · replace c6 := Bool.eq_false_iff.mpr c6
      subst c6
      have H1 : (some (-1)) = some r := by rw [if_neg (show ¬ (false = true) by decide)] at H; exact H
      clear H
      have H := H1
      clear H1
      obtain rfl := Option.some.inj H
      go_enter Tryz.func105, Tryz.ntmps105
      go_wp2_with (first | ((with_reducible refine gate_callee (f := 136) rfl ?_); refine goesL_ (some 8) rfl rfl Tryz.func136 (by kernel_rfl) rfl #[.int .i64 a0] rfl (by (try simp only [List.map_toArray, List.map_cons, List.map_nil]); first | done | rfl | (simp only [List.length_drop, List.length_take]; rfl)) ?_; (with_reducible refine (cmp_isNaN_int.calls a0 true _ A3.out).mono ?_); rintro e w' ⟨rfl, ⟨nd, rfl⟩⟩; refine ⟨_, rfl, ?_⟩) | ((with_reducible refine gate_callee (f := 136) rfl ?_); refine goesL_ (some 10) rfl rfl Tryz.func136 (by kernel_rfl) rfl #[.int .i64 a1] rfl (by (try simp only [List.map_toArray, List.map_cons, List.map_nil]); first | done | rfl | (simp only [List.length_drop, List.length_take]; rfl)) ?_; (with_reducible refine (cmp_isNaN_int.calls a1 false _ A4.out).mono ?_); rintro e w' ⟨rfl, ⟨nd, rfl⟩⟩; refine ⟨_, rfl, ?_⟩))
      go_ret
      exact ⟨by first | rfl | (simp; done) | (simp [*]; done), by repeat (first | exact Drawn0.refl _ | apply Drawn0.step)⟩
  · replace c5 := Bool.eq_false_iff.mpr c5
    subst c5
    have H1 : (if t153 = true then (some 1) else (if a0 < a1 then (some (-1)) else (if a0 > a1 then (some 1) else (some 0)))) = some r := by rw [if_neg (show ¬ (false = true) by decide)] at H; exact H
    clear H
    have H := H1
    clear H1
    by_cases c7 : t153 = true
    · subst c7
      have H1 : (some 1) = some r := by rw [if_pos rfl] at H; exact H
      clear H
      have H := H1
      clear H1
      obtain rfl := Option.some.inj H
      go_enter Tryz.func105, Tryz.ntmps105
      go_wp2_with (first | ((with_reducible refine gate_callee (f := 136) rfl ?_); refine goesL_ (some 8) rfl rfl Tryz.func136 (by kernel_rfl) rfl #[.int .i64 a0] rfl (by (try simp only [List.map_toArray, List.map_cons, List.map_nil]); first | done | rfl | (simp only [List.length_drop, List.length_take]; rfl)) ?_; (with_reducible refine (cmp_isNaN_int.calls a0 false _ A3.out).mono ?_); rintro e w' ⟨rfl, ⟨nd, rfl⟩⟩; refine ⟨_, rfl, ?_⟩) | ((with_reducible refine gate_callee (f := 136) rfl ?_); refine goesL_ (some 10) rfl rfl Tryz.func136 (by kernel_rfl) rfl #[.int .i64 a1] rfl (by (try simp only [List.map_toArray, List.map_cons, List.map_nil]); first | done | rfl | (simp only [List.length_drop, List.length_take]; rfl)) ?_; (with_reducible refine (cmp_isNaN_int.calls a1 true _ A4.out).mono ?_); rintro e w' ⟨rfl, ⟨nd, rfl⟩⟩; refine ⟨_, rfl, ?_⟩))
      go_ret
      exact ⟨by first | rfl | (simp; done) | (simp [*]; done), by repeat (first | exact Drawn0.refl _ | apply Drawn0.step)⟩
    · replace c7 := Bool.eq_false_iff.mpr c7
      subst c7
      have H1 : (if a0 < a1 then (some (-1)) else (if a0 > a1 then (some 1) else (some 0))) = some r := by rw [if_neg (show ¬ (false = true) by decide)] at H; exact H
      clear H
      have H := H1
      clear H1
      by_cases c8 : a0 < a1
      · rw [if_pos c8] at H
        have c8b0 : decide (a0 < a1) = true := decide_eq_true c8
        clear c8
        obtain rfl := Option.some.inj H
        go_enter Tryz.func105, Tryz.ntmps105
        go_wp2_with (first | ((with_reducible refine gate_callee (f := 136) rfl ?_); refine goesL_ (some 8) rfl rfl Tryz.func136 (by kernel_rfl) rfl #[.int .i64 a0] rfl (by (try simp only [List.map_toArray, List.map_cons, List.map_nil]); first | done | rfl | (simp only [List.length_drop, List.length_take]; rfl)) ?_; (with_reducible refine (cmp_isNaN_int.calls a0 false _ A3.out).mono ?_); rintro e w' ⟨rfl, ⟨nd, rfl⟩⟩; refine ⟨_, rfl, ?_⟩) | ((with_reducible refine gate_callee (f := 136) rfl ?_); refine goesL_ (some 10) rfl rfl Tryz.func136 (by kernel_rfl) rfl #[.int .i64 a1] rfl (by (try simp only [List.map_toArray, List.map_cons, List.map_nil]); first | done | rfl | (simp only [List.length_drop, List.length_take]; rfl)) ?_; (with_reducible refine (cmp_isNaN_int.calls a1 false _ A4.out).mono ?_); rintro e w' ⟨rfl, ⟨nd, rfl⟩⟩; refine ⟨_, rfl, ?_⟩))
        go_ret
        exact ⟨by first | rfl | (simp; done) | (simp [*]; done), by repeat (first | exact Drawn0.refl _ | apply Drawn0.step)⟩
      · rw [if_neg c8] at H
        have c8b0 : decide (a0 < a1) = false := decide_eq_false c8
        clear c8
        by_cases c9 : a0 > a1
        · rw [if_pos c9] at H
          have c9b0 : decide (a1 < a0) = true := decide_eq_true c9
          clear c9
          obtain rfl := Option.some.inj H
          go_enter Tryz.func105, Tryz.ntmps105
          go_wp2_with (first | ((with_reducible refine gate_callee (f := 136) rfl ?_); refine goesL_ (some 8) rfl rfl Tryz.func136 (by kernel_rfl) rfl #[.int .i64 a0] rfl (by (try simp only [List.map_toArray, List.map_cons, List.map_nil]); first | done | rfl | (simp only [List.length_drop, List.length_take]; rfl)) ?_; (with_reducible refine (cmp_isNaN_int.calls a0 false _ A3.out).mono ?_); rintro e w' ⟨rfl, ⟨nd, rfl⟩⟩; refine ⟨_, rfl, ?_⟩) | ((with_reducible refine gate_callee (f := 136) rfl ?_); refine goesL_ (some 10) rfl rfl Tryz.func136 (by kernel_rfl) rfl #[.int .i64 a1] rfl (by (try simp only [List.map_toArray, List.map_cons, List.map_nil]); first | done | rfl | (simp only [List.length_drop, List.length_take]; rfl)) ?_; (with_reducible refine (cmp_isNaN_int.calls a1 false _ A4.out).mono ?_); rintro e w' ⟨rfl, ⟨nd, rfl⟩⟩; refine ⟨_, rfl, ?_⟩))
          go_ret
          exact ⟨by first | rfl | (simp; done) | (simp [*]; done), by repeat (first | exact Drawn0.refl _ | apply Drawn0.step)⟩
        · rw [if_neg c9] at H
          have c9b0 : decide (a1 < a0) = false := decide_eq_false c9
          clear c9
          obtain rfl := Option.some.inj H
          go_enter Tryz.func105, Tryz.ntmps105
          go_wp2_with (first | ((with_reducible refine gate_callee (f := 136) rfl ?_); refine goesL_ (some 8) rfl rfl Tryz.func136 (by kernel_rfl) rfl #[.int .i64 a0] rfl (by (try simp only [List.map_toArray, List.map_cons, List.map_nil]); first | done | rfl | (simp only [List.length_drop, List.length_take]; rfl)) ?_; (with_reducible refine (cmp_isNaN_int.calls a0 false _ A3.out).mono ?_); rintro e w' ⟨rfl, ⟨nd, rfl⟩⟩; refine ⟨_, rfl, ?_⟩) | ((with_reducible refine gate_callee (f := 136) rfl ?_); refine goesL_ (some 10) rfl rfl Tryz.func136 (by kernel_rfl) rfl #[.int .i64 a1] rfl (by (try simp only [List.map_toArray, List.map_cons, List.map_nil]); first | done | rfl | (simp only [List.length_drop, List.length_take]; rfl)) ?_; (with_reducible refine (cmp_isNaN_int.calls a1 false _ A4.out).mono ?_); rintro e w' ⟨rfl, ⟨nd, rfl⟩⟩; refine ⟨_, rfl, ?_⟩))
          go_ret
          exact ⟨by first | rfl | (simp; done) | (simp [*]; done), by repeat (first | exact Drawn0.refl _ | apply Drawn0.step)⟩

-- NOT PRINTED: function 106 (integer_number_int)

-- NOT PRINTED: function 80 (integer_number_compare)

-- NOT PRINTED: function 50 (integer_Compare)

-- NOT PRINTED: function 112 (integer_number)

-- NOT PRINTED: function 88 (integer_number_minus)

-- NOT PRINTED: function 110 (sort_Search)

-- NOT PRINTED: function 81 (integer_number_over)

-- NOT PRINTED: function 121 (abi_NoEscape)

-- NOT PRINTED: function 99 (strings_Builder_copyCheck)

-- NOT PRINTED: function 75 (strings_Builder_WriteString)

-- NOT PRINTED: function 76 (strings_Builder_String)

-- NOT PRINTED: function 122 (bytealg_MakeNoZero)

-- NOT PRINTED: function 100 (strings_Builder_grow)

-- NOT PRINTED: function 74 (strings_Builder_Grow)

end Go.Proofs.YtnhjidbjibehpaaGreatDoor.Ref
