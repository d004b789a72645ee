/- Plain laws of fractions: powers of ten and the limit of 200 digits. No program in this text. -/
import Derived.Test.YtnhjidbjibehpaaGreatDoorRgrid
import Derived.Test.YtnhjidbjibehpaaGreatDoorNK
import Derived.Test.YtnhjidbjibehpaaGreatDoorTie
import Derived.Test.YtnhjidbjibehpaaGreatDoorRows
import Derived.Test.YtnhjidbjibehpaaGreatDoorCards
import Derived.WalkKit
import Derived.ProofKit
import Derived.OpenShut
import Derived.ShutString
import Derived.LaidMore
import Derived.Lay
import Derived.SevenTiedAt
import Derived.Stop.Joined
import Derived.Stop.LaidErr
import Derived.Shelf.Vars
import Derived.SizedLaws
namespace Yd
open Go.Lib

/-- a power of ten, and one over it -/
def Tn (n : Nat) : Rat := (((10 : Int) ^ n : Int) : Rat)
def Ti (m : Nat) : Rat := Rat.divInt 1 (10 ^ m)
theorem Tn_num (n : Nat) : (Tn n).num = 10 ^ n := rfl
theorem Tn_den (n : Nat) : (Tn n).den = 1 := rfl
theorem Ti_parts (m : Nat) : (Ti m).num = 1 ∧ ((Ti m).den : Int) = 10 ^ m := by
  unfold Ti
  exact num_divInt_co (pow10_pos m) (by rw [show (1 : Int).natAbs = 1 from rfl, Nat.gcd_one_left])
theorem Tn_RL {n : Nat} (h : n < 200) : RL (Tn n) := by
  refine ⟨?_, DL_gt1⟩
  rw [Tn_num]
  exact sm_iff.1 ((Pw.pow n).sm h)
theorem sm_pow_iff {k : Nat} : sm ((10 : Int) ^ k) = decide (k < 200) := by
  by_cases h : k < 200
  · rw [decide_eq_true h]; exact (Pw.pow k).sm h
  · rw [decide_eq_false h, Bool.eq_false_iff, ne_eq, sm_iff, DL_eq, Int.natAbs_pow]
    have : (10 : Nat) ^ 200 ≤ 10 ^ k := Nat.pow_le_pow_right (by omega) (by omega)
    show ¬ (10 : Nat) ^ k < 10 ^ 200
    omega
theorem Tn_mul (n m : Nat) : rmul (Tn n) (Tn m) = if n + m < 200 then some (Tn (n + m)) else none := by
  unfold rmul
  rw [Tn_num, Tn_num, Tn_den, Tn_den, ← Int.pow_add, sm_pow_iff]
  have h1 : sm (((1 : Nat) : Int) * ((1 : Nat) : Int)) = true := by rw [sm_iff]; exact DL_gt1
  rw [h1, Bool.and_true]
  by_cases h : n + m < 200
  · rw [if_pos h, decide_eq_true h, if_pos rfl]
    congr 1
    rw [← mul_divInt]
    show Rat.divInt ((10 : Int) ^ n * 10 ^ m) ((1 : Int) * 1) = Tn (n + m)
    rw [← Int.pow_add, ← divInt_self_rat (Tn (n + m)), Tn_num, Tn_den]; rfl
  · rw [if_neg h, decide_eq_false h]; rfl
theorem one_div (m : Nat) (h : m < 200) : rdiv 1 (Tn m) = some (Ti m) := by
  unfold rdiv
  have h0 : Tn m ≠ 0 := by
    intro h; have := congrArg Rat.num h
    rw [Tn_num] at this
    have := pow10_pos m
    have h0 : (0 : Rat).num = 0 := rfl
    omega
  have h1 : sm ((1 : Rat).num * ((Tn m).den : Int)) = true := by
    show sm ((1 : Int) * 1) = true
    rw [sm_iff]; exact DL_gt1
  have h2 : sm (((1 : Rat).den : Int) * (Tn m).num) = true := by
    show sm ((1 : Int) * 10 ^ m) = true
    rw [Int.one_mul, sm_pow_iff, decide_eq_true h]
  rw [h1, h2, decide_eq_true h0]
  show some (1 / Tn m) = _
  congr 1
  rw [← div_divInt]
  show Rat.divInt ((1 : Int) * 1) ((1 : Int) * 10 ^ m) = Ti m
  rw [Int.one_mul, Int.one_mul]; rfl
theorem pow_succ_lt (n m : Nat) (h : n + m < 200) : sm ((10 : Int) ^ (n + m) + 1) = true := by
  rw [sm_iff, DL_eq]
  have h1 : ((10 : Int) ^ (n + m) + 1).natAbs = 10 ^ (n + m) + 1 := by
    have : (10 : Int) ^ (n + m) + 1 = ((10 ^ (n + m) + 1 : Nat) : Int) := by rw [Int.natCast_add, Int.natCast_pow]; rfl
    rw [this, Int.natAbs_natCast]
  rw [h1]
  have h2 : (10 : Nat) ^ (n + m) * 10 ≤ 10 ^ 200 := by rw [← Nat.pow_succ]; exact Nat.pow_le_pow_right (by omega) (by omega)
  have h3 : 0 < (10 : Nat) ^ (n + m) := Nat.pow_pos (by omega)
  omega
theorem Tn_add (n m : Nat) (hm : m < 200) : (radd (Tn n) (Ti m)).isSome = decide (n + m < 200) := by
  obtain ⟨h1, h2⟩ := Ti_parts m
  unfold radd
  rw [Tn_num, Tn_den, h1, h2, ← Int.pow_add, sm_pow_iff]
  have e1 : sm ((1 : Int) * ((1 : Nat) : Int)) = true := by rw [sm_iff]; exact DL_gt1
  have e2 : sm (((1 : Nat) : Int) * 10 ^ m) = true := by
    show sm ((1 : Int) * 10 ^ m) = true
    rw [Int.one_mul, sm_pow_iff, decide_eq_true hm]
  rw [e1, e2]
  by_cases h : n + m < 200
  · have e3 : sm ((10 : Int) ^ (n + m) + 1 * ((1 : Nat) : Int)) = true := pow_succ_lt n m h
    rw [decide_eq_true h, e3]; rfl
  · rw [decide_eq_false h]; rfl
theorem Tn_cmp (n m : Nat) : rcmp (Tn n) (Tn m) = if n < m then -1 else if n > m then 1 else 0 := by
  unfold rcmp
  rw [Tn_num, Tn_num, Tn_den, Tn_den]
  have key : ∀ a b : Nat, a < b → (10 : Int) ^ a < 10 ^ b := fun a b h => by
    have : (10 : Nat) ^ a < 10 ^ b := Nat.pow_lt_pow_right (by omega) h
    exact_mod_cast this
  show sgn ((10 : Int) ^ n * 1 - 10 ^ m * 1) = _
  rw [Int.mul_one, Int.mul_one]
  unfold sgn
  by_cases h1 : n < m
  · have := key n m h1
    rw [if_pos (by omega), if_pos h1]
  · by_cases h2 : n > m
    · have := key m n h2
      rw [if_neg (by omega), if_pos (by omega), if_neg h1, if_pos h2]
    · have : n = m := by omega
      subst this
      rw [if_neg (by omega), if_neg (by omega), if_neg h1, if_neg h2]
theorem Ti_cmp (n m : Nat) : rcmp (Tn n) (Ti m) = if n = 0 ∧ m = 0 then 0 else 1 := by
  obtain ⟨h1, h2⟩ := Ti_parts m
  unfold rcmp
  rw [Tn_num, Tn_den, h1, h2, ← Int.pow_add]
  show sgn ((10 : Int) ^ (n + m) - 1 * 1) = _
  by_cases h : n = 0 ∧ m = 0
  · rw [if_pos h, h.1, h.2]; rfl
  · rw [if_neg h]
    have : (10 : Nat) ^ 0 < 10 ^ (n + m) := Nat.pow_lt_pow_right (by omega) (by omega)
    have : (1 : Int) < 10 ^ (n + m) := by exact_mod_cast this
    unfold sgn; rw [if_neg (by omega), if_pos (by omega)]

end Yd

/- RationalLimits, walked: the law returns true. -/
namespace Go.Proofs.YtnhjidbjibehpaaGreatDoor.L4
open Go.Shelf Go.RowKit Go.Proofs.YtnhjidbjibehpaaGreatDoorW.PrintWords Go.Proofs.YtnhjidbjibehpaaGreatDoorW.PrintLast Go.Proofs.YtnhjidbjibehpaaGreatDoorW.PrintMore Yd L3
set_option linter.unusedVariables false
set_option linter.unusedSimpArgs false
attribute [local go_sem ↓] Go.wp_at_zero Go.wp_at_succ

theorem tx_ten (i : Nat) : tx (10 ^ i) ++ (⟨#[48]⟩ : ByteArray) = tx (10 ^ (i + 1)) := by
  apply ba_ext
  have h := Ref.itoa_ten (10 ^ i) (Nat.pow_pos (by omega))
  rw [← Nat.pow_succ] at h
  have c1 : ((10 ^ (i + 1) : Nat) : Int) = (10 : Int) ^ (i + 1) := Int.natCast_pow 10 (i + 1)
  have c2 : ((10 ^ i : Nat) : Int) = (10 : Int) ^ i := Int.natCast_pow 10 i
  rw [c1, c2] at h
  rw [tx_data, h, ← tx_data]; simp
theorem tx_ten_size {i : Nat} (h : i < 200) : (tx (10 ^ i)).size ≤ 201 := tx_size (sm_iff.1 (Ref.sm_pow h))
theorem rv_Tn {n : Nat} (h : n < 200) : rvalB (tx (10 ^ n)) ⟨#[49]⟩ = some (Tn n) := by
  have := rvalB_tx (Tn_RL h)
  rw [Tn_num, Tn_den, show ((1 : Nat) : Int) = 1 from rfl, tx_1] at this
  exact this
theorem rv_one : rvalB ⟨#[49]⟩ ⟨#[49]⟩ = some 1 := by kernel_rfl
theorem Ti_RL {m : Nat} (h : m < 200) : RL (Ti m) := by
  obtain ⟨h1, h2⟩ := Ti_parts m
  refine ⟨by rw [h1]; exact DL_gt1, ?_⟩
  have := sm_iff.1 (Ref.sm_pow h)
  rw [← h2] at this
  simpa using this
theorem rv_Ti {m : Nat} (h : m < 200) : rvalB ⟨#[49]⟩ (tx (10 ^ m)) = some (Ti m) := by
  have := rvalB_tx (Ti_RL h)
  obtain ⟨h1, h2⟩ := Ti_parts m
  rw [h1, h2, tx_1] at this
  exact this
/-- what the law's calls give -/
structure LimF (n m : Nat) (a b : ByteArray) : Prop where
  z1 : n + m < 200 → ∃ s t, ratO (rbin rmul (rvalB a ⟨#[49]⟩) (rvalB b ⟨#[49]⟩)) = ratV s t 0
  z2 : ¬ n + m < 200 → ratO (rbin rmul (rvalB a ⟨#[49]⟩) (rvalB b ⟨#[49]⟩)) = badR
  sm : ratO (rbin rdiv (rvalB ⟨#[49]⟩ ⟨#[49]⟩) (rvalB b ⟨#[49]⟩)) = ratV ⟨#[49]⟩ b 0
  g1 : n + m < 200 → ∃ s t, ratO (rbin radd (rvalB a ⟨#[49]⟩) (rvalB ⟨#[49]⟩ b)) = ratV s t 0
  g2 : ¬ n + m < 200 → ratO (rbin radd (rvalB a ⟨#[49]⟩) (rvalB ⟨#[49]⟩ b)) = badR
  c1 : rcmpO (rvalB a ⟨#[49]⟩) (rvalB b ⟨#[49]⟩) = if n < m then -1 else if n > m then 1 else 0
  c2 : rcmpO (rvalB a ⟨#[49]⟩) (rvalB ⟨#[49]⟩ b) = if n = 0 ∧ m = 0 then 0 else 1
theorem LimF.mk' {n m : Nat} (hn : n < 200) (hm : m < 200) : LimF n m (tx (10 ^ n)) (tx (10 ^ m)) := by
  refine ⟨?_, ?_, ?_, ?_, ?_, ?_, ?_⟩
  · intro h
    rw [rv_Tn hn, rv_Tn hm]
    show ∃ s t, ratO (rmul (Tn n) (Tn m)) = _
    rw [Tn_mul, if_pos h]; exact ⟨_, _, rfl⟩
  · intro h
    rw [rv_Tn hn, rv_Tn hm]
    show ratO (rmul (Tn n) (Tn m)) = _
    rw [Tn_mul, if_neg h]; rfl
  · rw [rv_one, rv_Tn hm]
    show ratO (rdiv 1 (Tn m)) = _
    rw [one_div m hm]
    obtain ⟨h1, h2⟩ := Ti_parts m
    rw [ratO_some, h1, h2, tx_1]
  · intro h
    rw [rv_Tn hn, rv_Ti hm]
    show ∃ s t, ratO (radd (Tn n) (Ti m)) = _
    have := Tn_add n m hm
    rw [decide_eq_true h] at this
    obtain ⟨r, hr⟩ := Option.isSome_iff_exists.1 this
    rw [hr]; exact ⟨_, _, rfl⟩
  · intro h
    rw [rv_Tn hn, rv_Ti hm]
    show ratO (radd (Tn n) (Ti m)) = _
    have := Tn_add n m hm
    rw [decide_eq_false h] at this
    rw [Option.isSome_eq_false_iff, Option.isNone_iff_eq_none] at this
    rw [this]; rfl
  · rw [rv_Tn hn, rv_Tn hm]; exact Tn_cmp n m
  · rw [rv_Tn hn, rv_Ti hm]; exact Ti_cmp n m

set_option maxRecDepth 100000 in
set_option maxHeartbeats 16000000 in
/-- RationalLimits -/
theorem limits_calls (x0 x1 : Int) (w : World) (hE : Env w) (h0 : -9223372036854775808 ≤ x0) (h1 : x0 ≤ 9223372036854775807) (h2 : -9223372036854775808 ≤ x1) (h3 : x1 ≤ 9223372036854775807) :
    Calls Tryz.prog 5 #[.int .i64 x0, .int .i64 x1] w fun e w' => e = .returned (.bool true) ∧ Below w.heap.size w w' := by
  have HE := Aside0.mk hE
  have HB := Aside0.mk (And.intro (And.intro h0 h1) (And.intro h2 h3))
  have HL := Aside0.mk (Hp.nil w)
  have HP0 := Aside0.mk (pk_range x0 (n := 200) (by omega))
  have HP1 := Aside0.mk (pk_range x1 (n := 200) (by omega))
  clear hE h0 h1 h2 h3
  go_enter Tryz.func5, Tryz.ntmps5
  go_wp2_with fail
  refine (sane_calls _ (HL.out.env HE.out)).mono ?_
  rintro e V ⟨rfl, hb⟩
  have hl := HL.out.next hb
  clear HL
  have HL := Aside0.mk hl
  clear hb hl
  go_wp2_with fail
  refine (p_pick x0 200 _ HB.out.1.1 HB.out.1.2 (by omega)).mono ?_
  rintro e V ⟨rfl, hb⟩
  have hl := HL.out.next hb
  clear HL
  have HL := Aside0.mk hl
  clear hb hl
  obtain ⟨n, hn⟩ : ∃ n : Nat, pk x0 200 = n := ⟨(pk x0 200).toNat, by have := HP0.out; omega⟩
  have HN : Aside0 (n < 200) := ⟨by have := HP0.out; omega⟩
  rw [hn]
  clear hn HP0
  go_wp2_with fail
  refine (p_pick x1 200 _ HB.out.2.1 HB.out.2.2 (by omega)).mono ?_
  rintro e V ⟨rfl, hb⟩
  have hl := HL.out.next hb
  clear HL
  have HL := Aside0.mk hl
  clear hb hl
  obtain ⟨m, hm⟩ : ∃ m : Nat, pk x1 200 = m := ⟨(pk x1 200).toNat, by have := HP1.out; omega⟩
  have HM : Aside0 (m < 200) := ⟨by have := HP1.out; omega⟩
  rw [hm]
  clear hm HP1
  go_wp2_with fail
  go_loopg [6, 7] n (fun jq v6 v7 wr => ∃ i : Nat, v6 = .string (tx (10 ^ i)) ∧ v7 = .int .i64 i ∧ i + jq = n ∧ Aside0 (Hp [] w wr))
  case atStart => exact ⟨0, by rw [show (10 : Int) ^ 0 = 1 from rfl, tx_1], rfl, by omega, HL⟩
  case round =>
    clear HL
    obtain ⟨i, rfl, rfl, hi, HL⟩ := hrel
    have hn200 := HN.out
    by_cases hlt : i < n
    · have hsz := tx_ten_size (i := i) (by omega)
      have HS := Aside0.mk (tx_ten i)
      obtain ⟨s, hs⟩ : ∃ s, tx (10 ^ i) = s := ⟨_, rfl⟩
      rw [hs] at hsz HS ⊢
      clear hs
      go_wp2_with fail
      go_roundg (n - (i + 1))
      case measure => omega
      case rel => exact ⟨i + 1, by rw [← HS.out], rfl, by omega, HL⟩
    · obtain rfl : i = n := by omega
      clear hlt hi
      obtain ⟨a, ha⟩ : ∃ a, tx (10 ^ i) = a := ⟨_, rfl⟩
      have HA := Aside0.mk ha
      rw [ha]
      clear ha
      go_wp2_with fail
      go_loopg [8, 9] m (fun jq v8 v9 wr => ∃ j : Nat, v8 = .string (tx (10 ^ j)) ∧ v9 = .int .i64 j ∧ j + jq = m ∧ Aside0 (Hp [] w wr))
      case atStart => exact ⟨0, by rw [show (10 : Int) ^ 0 = 1 from rfl, tx_1], rfl, by omega, HL⟩
      case round =>
        clear HL
        obtain ⟨j, rfl, rfl, hj, HL⟩ := hrel
        have hm200 := HM.out
        by_cases hlt : j < m
        · have hsz := tx_ten_size (i := j) (by omega)
          have HS := Aside0.mk (tx_ten j)
          obtain ⟨s, hs⟩ : ∃ s, tx (10 ^ j) = s := ⟨_, rfl⟩
          rw [hs] at hsz HS ⊢
          clear hs
          go_wp2_with fail
          go_roundg (m - (j + 1))
          case measure => omega
          case rel => exact ⟨j + 1, by rw [← HS.out], rfl, by omega, HL⟩
        · obtain rfl : j = m := by omega
          clear hlt hj
          obtain ⟨b, hb'⟩ : ∃ b, tx (10 ^ j) = b := ⟨_, rfl⟩
          have HF := Aside0.mk (LimF.mk' HN.out HM.out)
          rw [HA.out, hb'] at HF
          rw [hb']
          clear hb' HA
          go_wp2_with fail
          refine (p_is a ⟨#[49]⟩ _).mono ?_
          rintro e V ⟨rfl, hb⟩
          have hl := HL.out.next hb
          clear HL
          have HL := Aside0.mk hl
          clear hb hl
          have hl := HL.out.push (Rb a ⟨#[49]⟩)
          clear HL
          have HL := Aside0.mk hl
          clear hl
          go_wp2_with fail
          generalize V.alloc (.cells #[.string a, .string ⟨#[49]⟩] 23) = W at *
          generalize V.heap.size = ax at *
          refine (p_is b ⟨#[49]⟩ _).mono ?_
          rintro e V ⟨rfl, hb⟩
          have hl := HL.out.next hb
          clear HL
          have HL := Aside0.mk hl
          clear hb hl
          have hl := HL.out.push (Rb b ⟨#[49]⟩)
          clear HL
          obtain ⟨k0, k1, kf0, kf1⟩ := pair_facts hl.tail.head
          obtain ⟨l0, l1, lf0, lf1⟩ := pair_facts hl.head
          have HL := Aside0.mk hl
          clear hl
          go_wp2_with fail
          generalize V.alloc (.cells #[.string b, .string ⟨#[49]⟩] 23) = W at *
          generalize V.heap.size = ay at *
          by_cases hfit : i + j < 200
          · obtain ⟨s, t, hz⟩ := HF.out.z1 hfit
            obtain ⟨g, h, hg⟩ := HF.out.g1 hfit
            have HZ := Aside0.mk hz
            have HG := Aside0.mk hg
            clear hz hg
            refine (p_mul a ⟨#[49]⟩ b ⟨#[49]⟩ _ (HL.out.env HE.out)).mono ?_
            rintro e V ⟨rfl, hb⟩
            rw [HZ.out]
            unfold ratV
            have hl := HL.out.next hb
            clear HL
            have HL := Aside0.mk hl
            clear hb hl
            have hl := HL.out.push (Rb s t)
            clear HL
            have HL := Aside0.mk hl
            clear hl
            go_wp2_with fail
            generalize V.alloc (.cells #[.string s, .string t] 23) = W at *
            generalize V.heap.size = az at *
            go_cut [14, 15] (fun v14 v15 wc => ∃ aw : Nat, v14 = .pointer (some ⟨aw, 0, none⟩) ∧ v15 = .int .i64 0 ∧ Aside0 (Hp ((aw, Rb ⟨#[49]⟩ b) :: [(az, Rb s t), (ay, Rb b ⟨#[49]⟩), (ax, Rb a ⟨#[49]⟩)]) w wc))
            case first =>
              obtain ⟨c0, c1, f0, f1⟩ := pair_facts (HL.out.bx (ay, Rb b ⟨#[49]⟩) (by simp))
              have hw := HL.out.next (below_drew (Below.refl _ W))
              clear HL
              have HL := Aside0.mk hw
              clear hw
              go_region_held3 (fun w' => w'.cell? ⟨ay, 0, none⟩ = some (.string b) ∧ w'.cell? ⟨ay, 1, none⟩ = some (.string ⟨#[49]⟩)) (first | exact ⟨c0, c1⟩ | go_keep) (first
                | (go_at_call 24; (with_reducible refine (p_is ⟨#[49]⟩ ⟨#[49]⟩ _).mono ?_); rintro e V ⟨rfl, hb⟩; have hl := HL.out.next hb; clear HL; have HL := Aside0.mk hl; obtain ⟨c0, c1, f0, f1⟩ := pair_facts (hl.bx (ay, Rb b ⟨#[49]⟩) (by simp)); obtain ⟨y0, y1, yf0, yf1⟩ := pair_facts hl.head; clear hb hl)
                | (go_at_call 24; have hap := HL.out.apart; (try rw [show W.drew.heap.size = W.heap.size from rfl] at hap); have HAP := Aside0.mk hap; have ne0 := hap.2 (ay, Rb b ⟨#[49]⟩) (by simp); dsimp only at ne0; have ne0' := Ne.symm ne0; have hpu := HL.out.push Zb; (try rw [show W.drew.heap.size = W.heap.size from rfl] at hpu); have HPU := Aside0.mk hpu; clear hap hpu; (with_reducible refine (p_is ⟨#[49]⟩ ⟨#[49]⟩ _).mono ?_); rintro e V ⟨rfl, hb⟩; have hl := HPU.out.next hb; clear HL HPU; have HL := Aside0.mk hl; obtain ⟨c0, c1, f0, f1⟩ := pair_facts (hl.bx (ay, Rb b ⟨#[49]⟩) (by simp)); obtain ⟨y0, y1, yf0, yf1⟩ := pair_facts hl.head; clear hb hl)
                | (go_at_call 26; (with_reducible refine (p_div ⟨#[49]⟩ ⟨#[49]⟩ b ⟨#[49]⟩ _ (HL.out.env HE.out)).mono ?_); rintro e V ⟨rfl, hb⟩; rw [HF.out.sm]; unfold ratV; have hl := HL.out.next hb; clear HL; have HL := Aside0.mk hl; obtain ⟨c0, c1, f0, f1⟩ := pair_facts (hl.bx (ay, Rb b ⟨#[49]⟩) (by simp)); obtain ⟨y0, y1, yf0, yf1⟩ := pair_facts hl.head; clear hb hl)
                | (go_at_call 26; have hap := HL.out.apart; (try rw [show W.drew.heap.size = W.heap.size from rfl] at hap); have HAP := Aside0.mk hap; have ne0 := hap.2 (ay, Rb b ⟨#[49]⟩) (by simp); dsimp only at ne0; have ne0' := Ne.symm ne0; have hpu := HL.out.push Zb; (try rw [show W.drew.heap.size = W.heap.size from rfl] at hpu); have HPU := Aside0.mk hpu; clear hap hpu; (with_reducible refine (p_div ⟨#[49]⟩ ⟨#[49]⟩ b ⟨#[49]⟩ _ (HPU.out.env HE.out)).mono ?_); rintro e V ⟨rfl, hb⟩; rw [HF.out.sm]; unfold ratV; have hl := HPU.out.next hb; clear HL HPU; have HL := Aside0.mk hl; obtain ⟨c0, c1, f0, f1⟩ := pair_facts (hl.bx (ay, Rb b ⟨#[49]⟩) (by simp)); obtain ⟨y0, y1, yf0, yf1⟩ := pair_facts hl.head; clear hb hl))
              all_goals
                go_wp2_with fail
                go_meet
                case rel => exact ⟨_, rfl, rfl, ⟨by first | exact (show Hp ((_, Rb ⟨#[49]⟩ b) :: _) w _ from (HL.out.put HAP.out 0 _).put HAP.out 1 _) | exact HL.out.push (Rb ⟨#[49]⟩ b)⟩⟩
            case rest =>
              obtain ⟨aw, rfl, rfl, hl0⟩ := hcut
              clear HL
              have HL := hl0
              clear hl0
              obtain ⟨w0, w1, wf0, wf1⟩ := pair_facts HL.out.head
              obtain ⟨k0, k1, kf0, kf1⟩ := pair_facts (HL.out.bx (ax, Rb a ⟨#[49]⟩) (by simp))
              go_wp2_with fail
              refine (p_add a ⟨#[49]⟩ ⟨#[49]⟩ b _ (HL.out.env HE.out)).mono ?_
              rintro e V ⟨rfl, hb⟩
              rw [HG.out]
              unfold ratV
              have hl := (HL.out.next hb).push (Rb g h)
              clear HL
              have HL := Aside0.mk hl
              obtain ⟨w0, w1, wf0, wf1⟩ := pair_facts (hl.bx (aw, Rb ⟨#[49]⟩ b) (by simp))
              obtain ⟨k0, k1, kf0, kf1⟩ := pair_facts (hl.bx (ax, Rb a ⟨#[49]⟩) (by simp))
              obtain ⟨l0, l1, lf0, lf1⟩ := pair_facts (hl.bx (ay, Rb b ⟨#[49]⟩) (by simp))
              obtain ⟨z0, z1, zf0, zf1⟩ := pair_facts (hl.bx (az, Rb s t) (by simp))
              clear hb hl
              have hn200 := HN.out
              have hm200 := HM.out
              have e1 : decide ((i : Int) + (j : Int) + 1 ≤ 200) = true := decide_eq_true (by omega)
              have HC1 := Aside0.mk HF.out.c1
              have HC2 := Aside0.mk HF.out.c2
              have HI := Aside0.mk (show i < j ∨ i = j ∨ j < i by omega)
              rcases HI.out with h | h | h
              · have a1 : decide (i < j) = true := decide_eq_true (by omega)
                have a2 : decide (j < i) = false := decide_eq_false (by omega)
                have a3 : decide ((i : Int) < (j : Int)) = true := decide_eq_true (by omega)
                have a4 : decide ((j : Int) < (i : Int)) = false := decide_eq_false (by omega)
                have C1 : Aside0 (rcmpO (rvalB a ⟨#[49]⟩) (rvalB b ⟨#[49]⟩) = -1) := ⟨by rw [HC1.out, if_pos h]⟩
                by_cases hi0 : i = 0
                · have hj0 : ¬ j = 0 := by omega
                  have q0 : ((i : Int) == 0) = true := by rw [hi0]; rfl
                  have q1 : ((j : Int) == 0) = false := by rw [beq_eq_false_iff_ne]; omega
                  have C2 : Aside0 (rcmpO (rvalB a ⟨#[49]⟩) (rvalB ⟨#[49]⟩ b) = 1) := ⟨by rw [HC2.out, if_neg (fun h' => hj0 h'.2)]⟩
                  clear h hi0 hj0 HC1 HC2 HI
                  go_wp2_with fail
                  refine (p_cmp a ⟨#[49]⟩ b ⟨#[49]⟩ _ (HL.out.env HE.out)).mono ?_
                  rintro e V2 ⟨rfl, hb⟩
                  rw [C1.out]
                  have hl := HL.out.next hb
                  clear HL
                  have HL := Aside0.mk hl
                  obtain ⟨w0, w1, wf0, wf1⟩ := pair_facts (hl.bx (aw, Rb ⟨#[49]⟩ b) (by simp))
                  obtain ⟨k0, k1, kf0, kf1⟩ := pair_facts (hl.bx (ax, Rb a ⟨#[49]⟩) (by simp))
                  clear hb hl
                  go_wp2_with fail
                  refine (p_cmp a ⟨#[49]⟩ ⟨#[49]⟩ b _ (HL.out.env HE.out)).mono ?_
                  rintro e V3 ⟨rfl, hb⟩
                  rw [C2.out]
                  have hl := HL.out.next hb
                  clear HL
                  have HL := Aside0.mk hl
                  clear hb hl
                  go_wp2_with fail
                  go_ret
                  exact ⟨rfl, HL.out.bl⟩
                · have q0 : ((i : Int) == 0) = false := by rw [beq_eq_false_iff_ne]; omega
                  have C2 : Aside0 (rcmpO (rvalB a ⟨#[49]⟩) (rvalB ⟨#[49]⟩ b) = 1) := ⟨by rw [HC2.out, if_neg (fun h' => hi0 h'.1)]⟩
                  clear h hi0 HC1 HC2 HI
                  go_wp2_with fail
                  refine (p_cmp a ⟨#[49]⟩ b ⟨#[49]⟩ _ (HL.out.env HE.out)).mono ?_
                  rintro e V2 ⟨rfl, hb⟩
                  rw [C1.out]
                  have hl := HL.out.next hb
                  clear HL
                  have HL := Aside0.mk hl
                  obtain ⟨w0, w1, wf0, wf1⟩ := pair_facts (hl.bx (aw, Rb ⟨#[49]⟩ b) (by simp))
                  obtain ⟨k0, k1, kf0, kf1⟩ := pair_facts (hl.bx (ax, Rb a ⟨#[49]⟩) (by simp))
                  clear hb hl
                  go_wp2_with fail
                  refine (p_cmp a ⟨#[49]⟩ ⟨#[49]⟩ b _ (HL.out.env HE.out)).mono ?_
                  rintro e V3 ⟨rfl, hb⟩
                  rw [C2.out]
                  have hl := HL.out.next hb
                  clear HL
                  have HL := Aside0.mk hl
                  clear hb hl
                  go_wp2_with fail
                  go_ret
                  exact ⟨rfl, HL.out.bl⟩
              · have a1 : decide (i < j) = false := decide_eq_false (by omega)
                have a2 : decide (j < i) = false := decide_eq_false (by omega)
                have a3 : decide ((i : Int) < (j : Int)) = false := decide_eq_false (by omega)
                have a4 : decide ((j : Int) < (i : Int)) = false := decide_eq_false (by omega)
                have C1 : Aside0 (rcmpO (rvalB a ⟨#[49]⟩) (rvalB b ⟨#[49]⟩) = 0) := ⟨by rw [HC1.out, if_neg (by omega), if_neg (by omega)]⟩
                by_cases hi0 : i = 0
                · have hj0 : j = 0 := by omega
                  have q0 : ((i : Int) == 0) = true := by rw [hi0]; rfl
                  have q1 : ((j : Int) == 0) = true := by rw [hj0]; rfl
                  have C2 : Aside0 (rcmpO (rvalB a ⟨#[49]⟩) (rvalB ⟨#[49]⟩ b) = 0) := ⟨by rw [HC2.out, if_pos ⟨hi0, hj0⟩]⟩
                  clear h hi0 hj0 HC1 HC2 HI
                  go_wp2_with fail
                  refine (p_cmp a ⟨#[49]⟩ b ⟨#[49]⟩ _ (HL.out.env HE.out)).mono ?_
                  rintro e V2 ⟨rfl, hb⟩
                  rw [C1.out]
                  have hl := HL.out.next hb
                  clear HL
                  have HL := Aside0.mk hl
                  obtain ⟨w0, w1, wf0, wf1⟩ := pair_facts (hl.bx (aw, Rb ⟨#[49]⟩ b) (by simp))
                  obtain ⟨k0, k1, kf0, kf1⟩ := pair_facts (hl.bx (ax, Rb a ⟨#[49]⟩) (by simp))
                  clear hb hl
                  go_wp2_with fail
                  refine (p_cmp a ⟨#[49]⟩ ⟨#[49]⟩ b _ (HL.out.env HE.out)).mono ?_
                  rintro e V3 ⟨rfl, hb⟩
                  rw [C2.out]
                  have hl := HL.out.next hb
                  clear HL
                  have HL := Aside0.mk hl
                  clear hb hl
                  go_wp2_with fail
                  go_ret
                  exact ⟨rfl, HL.out.bl⟩
                · have q0 : ((i : Int) == 0) = false := by rw [beq_eq_false_iff_ne]; omega
                  have C2 : Aside0 (rcmpO (rvalB a ⟨#[49]⟩) (rvalB ⟨#[49]⟩ b) = 1) := ⟨by rw [HC2.out, if_neg (fun h' => hi0 h'.1)]⟩
                  clear h hi0 HC1 HC2 HI
                  go_wp2_with fail
                  refine (p_cmp a ⟨#[49]⟩ b ⟨#[49]⟩ _ (HL.out.env HE.out)).mono ?_
                  rintro e V2 ⟨rfl, hb⟩
                  rw [C1.out]
                  have hl := HL.out.next hb
                  clear HL
                  have HL := Aside0.mk hl
                  obtain ⟨w0, w1, wf0, wf1⟩ := pair_facts (hl.bx (aw, Rb ⟨#[49]⟩ b) (by simp))
                  obtain ⟨k0, k1, kf0, kf1⟩ := pair_facts (hl.bx (ax, Rb a ⟨#[49]⟩) (by simp))
                  clear hb hl
                  go_wp2_with fail
                  refine (p_cmp a ⟨#[49]⟩ ⟨#[49]⟩ b _ (HL.out.env HE.out)).mono ?_
                  rintro e V3 ⟨rfl, hb⟩
                  rw [C2.out]
                  have hl := HL.out.next hb
                  clear HL
                  have HL := Aside0.mk hl
                  clear hb hl
                  go_wp2_with fail
                  go_ret
                  exact ⟨rfl, HL.out.bl⟩
              · have a1 : decide (i < j) = false := decide_eq_false (by omega)
                have a2 : decide (j < i) = true := decide_eq_true (by omega)
                have a3 : decide ((i : Int) < (j : Int)) = false := decide_eq_false (by omega)
                have a4 : decide ((j : Int) < (i : Int)) = true := decide_eq_true (by omega)
                have C1 : Aside0 (rcmpO (rvalB a ⟨#[49]⟩) (rvalB b ⟨#[49]⟩) = 1) := ⟨by rw [HC1.out, if_neg (by omega), if_pos h]⟩
                by_cases hi0 : i = 0
                · exfalso; omega
                · have q0 : ((i : Int) == 0) = false := by rw [beq_eq_false_iff_ne]; omega
                  have C2 : Aside0 (rcmpO (rvalB a ⟨#[49]⟩) (rvalB ⟨#[49]⟩ b) = 1) := ⟨by rw [HC2.out, if_neg (fun h' => hi0 h'.1)]⟩
                  clear h hi0 HC1 HC2 HI
                  go_wp2_with fail
                  refine (p_cmp a ⟨#[49]⟩ b ⟨#[49]⟩ _ (HL.out.env HE.out)).mono ?_
                  rintro e V2 ⟨rfl, hb⟩
                  rw [C1.out]
                  have hl := HL.out.next hb
                  clear HL
                  have HL := Aside0.mk hl
                  obtain ⟨w0, w1, wf0, wf1⟩ := pair_facts (hl.bx (aw, Rb ⟨#[49]⟩ b) (by simp))
                  obtain ⟨k0, k1, kf0, kf1⟩ := pair_facts (hl.bx (ax, Rb a ⟨#[49]⟩) (by simp))
                  clear hb hl
                  go_wp2_with fail
                  refine (p_cmp a ⟨#[49]⟩ ⟨#[49]⟩ b _ (HL.out.env HE.out)).mono ?_
                  rintro e V3 ⟨rfl, hb⟩
                  rw [C2.out]
                  have hl := HL.out.next hb
                  clear HL
                  have HL := Aside0.mk hl
                  clear hb hl
                  go_wp2_with fail
                  go_ret
                  exact ⟨rfl, HL.out.bl⟩
          · have hz := HF.out.z2 hfit
            have hg := HF.out.g2 hfit
            unfold badR at hz hg
            have HZ := Aside0.mk hz
            have HG := Aside0.mk hg
            clear hz hg
            refine (p_mul a ⟨#[49]⟩ b ⟨#[49]⟩ _ (HL.out.env HE.out)).mono ?_
            rintro e V ⟨rfl, hb⟩
            rw [HZ.out]
            unfold ratV
            have hl := HL.out.next hb
            clear HL
            have HL := Aside0.mk hl
            clear hb hl
            have hl := HL.out.push (Rb ⟨#[]⟩ ⟨#[]⟩)
            clear HL
            have HL := Aside0.mk hl
            clear hl
            go_wp2_with fail
            generalize V.alloc (.cells #[.string ⟨#[]⟩, .string ⟨#[]⟩] 23) = W at *
            generalize V.heap.size = az at *
            go_cut [14, 15] (fun v14 v15 wc => ∃ aw : Nat, v14 = .pointer (some ⟨aw, 0, none⟩) ∧ v15 = .int .i64 0 ∧ Aside0 (Hp ((aw, Rb ⟨#[49]⟩ b) :: [(az, Rb ⟨#[]⟩ ⟨#[]⟩), (ay, Rb b ⟨#[49]⟩), (ax, Rb a ⟨#[49]⟩)]) w wc))
            case first =>
              obtain ⟨c0, c1, f0, f1⟩ := pair_facts (HL.out.bx (ay, Rb b ⟨#[49]⟩) (by simp))
              have hw := HL.out.next (below_drew (Below.refl _ W))
              clear HL
              have HL := Aside0.mk hw
              clear hw
              go_region_held3 (fun w' => w'.cell? ⟨ay, 0, none⟩ = some (.string b) ∧ w'.cell? ⟨ay, 1, none⟩ = some (.string ⟨#[49]⟩)) (first | exact ⟨c0, c1⟩ | go_keep) (first
                | (go_at_call 24; (with_reducible refine (p_is ⟨#[49]⟩ ⟨#[49]⟩ _).mono ?_); rintro e V ⟨rfl, hb⟩; have hl := HL.out.next hb; clear HL; have HL := Aside0.mk hl; obtain ⟨c0, c1, f0, f1⟩ := pair_facts (hl.bx (ay, Rb b ⟨#[49]⟩) (by simp)); obtain ⟨y0, y1, yf0, yf1⟩ := pair_facts hl.head; clear hb hl)
                | (go_at_call 24; have hap := HL.out.apart; (try rw [show W.drew.heap.size = W.heap.size from rfl] at hap); have HAP := Aside0.mk hap; have ne0 := hap.2 (ay, Rb b ⟨#[49]⟩) (by simp); dsimp only at ne0; have ne0' := Ne.symm ne0; have hpu := HL.out.push Zb; (try rw [show W.drew.heap.size = W.heap.size from rfl] at hpu); have HPU := Aside0.mk hpu; clear hap hpu; (with_reducible refine (p_is ⟨#[49]⟩ ⟨#[49]⟩ _).mono ?_); rintro e V ⟨rfl, hb⟩; have hl := HPU.out.next hb; clear HL HPU; have HL := Aside0.mk hl; obtain ⟨c0, c1, f0, f1⟩ := pair_facts (hl.bx (ay, Rb b ⟨#[49]⟩) (by simp)); obtain ⟨y0, y1, yf0, yf1⟩ := pair_facts hl.head; clear hb hl)
                | (go_at_call 26; (with_reducible refine (p_div ⟨#[49]⟩ ⟨#[49]⟩ b ⟨#[49]⟩ _ (HL.out.env HE.out)).mono ?_); rintro e V ⟨rfl, hb⟩; rw [HF.out.sm]; unfold ratV; have hl := HL.out.next hb; clear HL; have HL := Aside0.mk hl; obtain ⟨c0, c1, f0, f1⟩ := pair_facts (hl.bx (ay, Rb b ⟨#[49]⟩) (by simp)); obtain ⟨y0, y1, yf0, yf1⟩ := pair_facts hl.head; clear hb hl)
                | (go_at_call 26; have hap := HL.out.apart; (try rw [show W.drew.heap.size = W.heap.size from rfl] at hap); have HAP := Aside0.mk hap; have ne0 := hap.2 (ay, Rb b ⟨#[49]⟩) (by simp); dsimp only at ne0; have ne0' := Ne.symm ne0; have hpu := HL.out.push Zb; (try rw [show W.drew.heap.size = W.heap.size from rfl] at hpu); have HPU := Aside0.mk hpu; clear hap hpu; (with_reducible refine (p_div ⟨#[49]⟩ ⟨#[49]⟩ b ⟨#[49]⟩ _ (HPU.out.env HE.out)).mono ?_); rintro e V ⟨rfl, hb⟩; rw [HF.out.sm]; unfold ratV; have hl := HPU.out.next hb; clear HL HPU; have HL := Aside0.mk hl; obtain ⟨c0, c1, f0, f1⟩ := pair_facts (hl.bx (ay, Rb b ⟨#[49]⟩) (by simp)); obtain ⟨y0, y1, yf0, yf1⟩ := pair_facts hl.head; clear hb hl))
              all_goals
                go_wp2_with fail
                go_meet
                case rel => exact ⟨_, rfl, rfl, ⟨by first | exact (show Hp ((_, Rb ⟨#[49]⟩ b) :: _) w _ from (HL.out.put HAP.out 0 _).put HAP.out 1 _) | exact HL.out.push (Rb ⟨#[49]⟩ b)⟩⟩
            case rest =>
              obtain ⟨aw, rfl, rfl, hl0⟩ := hcut
              clear HL
              have HL := hl0
              clear hl0
              obtain ⟨w0, w1, wf0, wf1⟩ := pair_facts HL.out.head
              obtain ⟨k0, k1, kf0, kf1⟩ := pair_facts (HL.out.bx (ax, Rb a ⟨#[49]⟩) (by simp))
              go_wp2_with fail
              refine (p_add a ⟨#[49]⟩ ⟨#[49]⟩ b _ (HL.out.env HE.out)).mono ?_
              rintro e V ⟨rfl, hb⟩
              rw [HG.out]
              unfold ratV
              have hl := (HL.out.next hb).push (Rb ⟨#[]⟩ ⟨#[]⟩)
              clear HL
              have HL := Aside0.mk hl
              obtain ⟨w0, w1, wf0, wf1⟩ := pair_facts (hl.bx (aw, Rb ⟨#[49]⟩ b) (by simp))
              obtain ⟨k0, k1, kf0, kf1⟩ := pair_facts (hl.bx (ax, Rb a ⟨#[49]⟩) (by simp))
              obtain ⟨l0, l1, lf0, lf1⟩ := pair_facts (hl.bx (ay, Rb b ⟨#[49]⟩) (by simp))
              obtain ⟨z0, z1, zf0, zf1⟩ := pair_facts (hl.bx (az, Rb ⟨#[]⟩ ⟨#[]⟩) (by simp))
              clear hb hl
              have hn200 := HN.out
              have hm200 := HM.out
              have e1 : decide ((i : Int) + (j : Int) + 1 ≤ 200) = false := decide_eq_false (by omega)
              have HC1 := Aside0.mk HF.out.c1
              have HC2 := Aside0.mk HF.out.c2
              have HI := Aside0.mk (show i < j ∨ i = j ∨ j < i by omega)
              rcases HI.out with h | h | h
              · have a1 : decide (i < j) = true := decide_eq_true (by omega)
                have a2 : decide (j < i) = false := decide_eq_false (by omega)
                have a3 : decide ((i : Int) < (j : Int)) = true := decide_eq_true (by omega)
                have a4 : decide ((j : Int) < (i : Int)) = false := decide_eq_false (by omega)
                have C1 : Aside0 (rcmpO (rvalB a ⟨#[49]⟩) (rvalB b ⟨#[49]⟩) = -1) := ⟨by rw [HC1.out, if_pos h]⟩
                by_cases hi0 : i = 0
                · have hj0 : ¬ j = 0 := by omega
                  have q0 : ((i : Int) == 0) = true := by rw [hi0]; rfl
                  have q1 : ((j : Int) == 0) = false := by rw [beq_eq_false_iff_ne]; omega
                  have C2 : Aside0 (rcmpO (rvalB a ⟨#[49]⟩) (rvalB ⟨#[49]⟩ b) = 1) := ⟨by rw [HC2.out, if_neg (fun h' => hj0 h'.2)]⟩
                  clear h hi0 hj0 HC1 HC2 HI
                  go_wp2_with fail
                  refine (p_cmp a ⟨#[49]⟩ b ⟨#[49]⟩ _ (HL.out.env HE.out)).mono ?_
                  rintro e V2 ⟨rfl, hb⟩
                  rw [C1.out]
                  have hl := HL.out.next hb
                  clear HL
                  have HL := Aside0.mk hl
                  obtain ⟨w0, w1, wf0, wf1⟩ := pair_facts (hl.bx (aw, Rb ⟨#[49]⟩ b) (by simp))
                  obtain ⟨k0, k1, kf0, kf1⟩ := pair_facts (hl.bx (ax, Rb a ⟨#[49]⟩) (by simp))
                  clear hb hl
                  go_wp2_with fail
                  refine (p_cmp a ⟨#[49]⟩ ⟨#[49]⟩ b _ (HL.out.env HE.out)).mono ?_
                  rintro e V3 ⟨rfl, hb⟩
                  rw [C2.out]
                  have hl := HL.out.next hb
                  clear HL
                  have HL := Aside0.mk hl
                  clear hb hl
                  go_wp2_with fail
                  go_ret
                  exact ⟨rfl, HL.out.bl⟩
                · have q0 : ((i : Int) == 0) = false := by rw [beq_eq_false_iff_ne]; omega
                  have C2 : Aside0 (rcmpO (rvalB a ⟨#[49]⟩) (rvalB ⟨#[49]⟩ b) = 1) := ⟨by rw [HC2.out, if_neg (fun h' => hi0 h'.1)]⟩
                  clear h hi0 HC1 HC2 HI
                  go_wp2_with fail
                  refine (p_cmp a ⟨#[49]⟩ b ⟨#[49]⟩ _ (HL.out.env HE.out)).mono ?_
                  rintro e V2 ⟨rfl, hb⟩
                  rw [C1.out]
                  have hl := HL.out.next hb
                  clear HL
                  have HL := Aside0.mk hl
                  obtain ⟨w0, w1, wf0, wf1⟩ := pair_facts (hl.bx (aw, Rb ⟨#[49]⟩ b) (by simp))
                  obtain ⟨k0, k1, kf0, kf1⟩ := pair_facts (hl.bx (ax, Rb a ⟨#[49]⟩) (by simp))
                  clear hb hl
                  go_wp2_with fail
                  refine (p_cmp a ⟨#[49]⟩ ⟨#[49]⟩ b _ (HL.out.env HE.out)).mono ?_
                  rintro e V3 ⟨rfl, hb⟩
                  rw [C2.out]
                  have hl := HL.out.next hb
                  clear HL
                  have HL := Aside0.mk hl
                  clear hb hl
                  go_wp2_with fail
                  go_ret
                  exact ⟨rfl, HL.out.bl⟩
              · have a1 : decide (i < j) = false := decide_eq_false (by omega)
                have a2 : decide (j < i) = false := decide_eq_false (by omega)
                have a3 : decide ((i : Int) < (j : Int)) = false := decide_eq_false (by omega)
                have a4 : decide ((j : Int) < (i : Int)) = false := decide_eq_false (by omega)
                have C1 : Aside0 (rcmpO (rvalB a ⟨#[49]⟩) (rvalB b ⟨#[49]⟩) = 0) := ⟨by rw [HC1.out, if_neg (by omega), if_neg (by omega)]⟩
                by_cases hi0 : i = 0
                · have hj0 : j = 0 := by omega
                  have q0 : ((i : Int) == 0) = true := by rw [hi0]; rfl
                  have q1 : ((j : Int) == 0) = true := by rw [hj0]; rfl
                  have C2 : Aside0 (rcmpO (rvalB a ⟨#[49]⟩) (rvalB ⟨#[49]⟩ b) = 0) := ⟨by rw [HC2.out, if_pos ⟨hi0, hj0⟩]⟩
                  clear h hi0 hj0 HC1 HC2 HI
                  go_wp2_with fail
                  refine (p_cmp a ⟨#[49]⟩ b ⟨#[49]⟩ _ (HL.out.env HE.out)).mono ?_
                  rintro e V2 ⟨rfl, hb⟩
                  rw [C1.out]
                  have hl := HL.out.next hb
                  clear HL
                  have HL := Aside0.mk hl
                  obtain ⟨w0, w1, wf0, wf1⟩ := pair_facts (hl.bx (aw, Rb ⟨#[49]⟩ b) (by simp))
                  obtain ⟨k0, k1, kf0, kf1⟩ := pair_facts (hl.bx (ax, Rb a ⟨#[49]⟩) (by simp))
                  clear hb hl
                  go_wp2_with fail
                  refine (p_cmp a ⟨#[49]⟩ ⟨#[49]⟩ b _ (HL.out.env HE.out)).mono ?_
                  rintro e V3 ⟨rfl, hb⟩
                  rw [C2.out]
                  have hl := HL.out.next hb
                  clear HL
                  have HL := Aside0.mk hl
                  clear hb hl
                  go_wp2_with fail
                  go_ret
                  exact ⟨rfl, HL.out.bl⟩
                · have q0 : ((i : Int) == 0) = false := by rw [beq_eq_false_iff_ne]; omega
                  have C2 : Aside0 (rcmpO (rvalB a ⟨#[49]⟩) (rvalB ⟨#[49]⟩ b) = 1) := ⟨by rw [HC2.out, if_neg (fun h' => hi0 h'.1)]⟩
                  clear h hi0 HC1 HC2 HI
                  go_wp2_with fail
                  refine (p_cmp a ⟨#[49]⟩ b ⟨#[49]⟩ _ (HL.out.env HE.out)).mono ?_
                  rintro e V2 ⟨rfl, hb⟩
                  rw [C1.out]
                  have hl := HL.out.next hb
                  clear HL
                  have HL := Aside0.mk hl
                  obtain ⟨w0, w1, wf0, wf1⟩ := pair_facts (hl.bx (aw, Rb ⟨#[49]⟩ b) (by simp))
                  obtain ⟨k0, k1, kf0, kf1⟩ := pair_facts (hl.bx (ax, Rb a ⟨#[49]⟩) (by simp))
                  clear hb hl
                  go_wp2_with fail
                  refine (p_cmp a ⟨#[49]⟩ ⟨#[49]⟩ b _ (HL.out.env HE.out)).mono ?_
                  rintro e V3 ⟨rfl, hb⟩
                  rw [C2.out]
                  have hl := HL.out.next hb
                  clear HL
                  have HL := Aside0.mk hl
                  clear hb hl
                  go_wp2_with fail
                  go_ret
                  exact ⟨rfl, HL.out.bl⟩
              · have a1 : decide (i < j) = false := decide_eq_false (by omega)
                have a2 : decide (j < i) = true := decide_eq_true (by omega)
                have a3 : decide ((i : Int) < (j : Int)) = false := decide_eq_false (by omega)
                have a4 : decide ((j : Int) < (i : Int)) = true := decide_eq_true (by omega)
                have C1 : Aside0 (rcmpO (rvalB a ⟨#[49]⟩) (rvalB b ⟨#[49]⟩) = 1) := ⟨by rw [HC1.out, if_neg (by omega), if_pos h]⟩
                by_cases hi0 : i = 0
                · exfalso; omega
                · have q0 : ((i : Int) == 0) = false := by rw [beq_eq_false_iff_ne]; omega
                  have C2 : Aside0 (rcmpO (rvalB a ⟨#[49]⟩) (rvalB ⟨#[49]⟩ b) = 1) := ⟨by rw [HC2.out, if_neg (fun h' => hi0 h'.1)]⟩
                  clear h hi0 HC1 HC2 HI
                  go_wp2_with fail
                  refine (p_cmp a ⟨#[49]⟩ b ⟨#[49]⟩ _ (HL.out.env HE.out)).mono ?_
                  rintro e V2 ⟨rfl, hb⟩
                  rw [C1.out]
                  have hl := HL.out.next hb
                  clear HL
                  have HL := Aside0.mk hl
                  obtain ⟨w0, w1, wf0, wf1⟩ := pair_facts (hl.bx (aw, Rb ⟨#[49]⟩ b) (by simp))
                  obtain ⟨k0, k1, kf0, kf1⟩ := pair_facts (hl.bx (ax, Rb a ⟨#[49]⟩) (by simp))
                  clear hb hl
                  go_wp2_with fail
                  refine (p_cmp a ⟨#[49]⟩ ⟨#[49]⟩ b _ (HL.out.env HE.out)).mono ?_
                  rintro e V3 ⟨rfl, hb⟩
                  rw [C2.out]
                  have hl := HL.out.next hb
                  clear HL
                  have HL := Aside0.mk hl
                  clear hb hl
                  go_wp2_with fail
                  go_ret
                  exact ⟨rfl, HL.out.bl⟩

end Go.Proofs.YtnhjidbjibehpaaGreatDoor.L4

/- What a row's condition gives the walks: strconv's table, and the runtime's variable; the row's frame with both. -/
namespace Go.Proofs.YtnhjidbjibehpaaGreatDoor
open Go.ChangeShapes Go.WideShapes Go.ChangeAt Go.RowKit

theorem own : ownKnob Tryz.prog.godebug = none := by kernel_rfl
/-- the list that all rows of this seat bear -/
def lst : List (String × DataW Unit) := [("math/bits.deBruijn32tab", Rows.laid_math_bits_deBruijn32tab), ("math/bits.deBruijn64tab", Rows.laid_math_bits_deBruijn64tab), ("internal/strconv.uint64pow10", Rows.laid_internal_strconv_uint64pow10), ("unicode/utf8.acceptRanges", Rows.laid_unicode_utf8_acceptRanges), ("strconv.ErrRange", Rows.laid_strconv_ErrRange), ("strconv.ErrSyntax", Rows.laid_strconv_ErrSyntax), ("unicode/utf8.first", Rows.laid_unicode_utf8_first)]
theorem tab_of {W : World} (h : laidMetH Tryz.prog lst W) : L3.Tab W := by
  rw [MakeChecks.laidMetH_plain _ _ _ (by kernel_rfl)] at h
  have h2 : laidMet Tryz.prog (("internal/strconv.uint64pow10", Lib.tabData .u64 Lib.pow10Tab) :: _) W := laidMet.tail (laidMet.tail h)
  exact Lib.tabIs_of_head (g := 1) (by kernel_rfl) (by kernel_rfl) (Tryz.underlying169) (Tryz.underlying146) (by kernel_rfl) (by kernel_rfl) h2
theorem mx_of {W : World} (h : W.ShapedOpen Tryz.prog) : L4.Mx W := by
  obtain ⟨m, hm⟩ := cell_of_shapedOpen_int (g := 0) (t := 3) (zero := #[.int .i64 0]) h (of_decide_eq_true (by kernel_rfl)) (by kernel_rfl) rfl (by kernel_rfl) (by kernel_rfl) Tryz.underlying3
  exact ⟨World.block_lt_of_cell? W _ hm, m, hm⟩
theorem env_of {W : World} (h : laidMetH Tryz.prog lst W) (h2 : W.ShapedOpen Tryz.prog) : L4.Env W := ⟨tab_of h, mx_of h2⟩
theorem i64_bounds {x : Int} (h : (Lit.int .i64 x).wf = true) : -9223372036854775808 ≤ x ∧ x ≤ 9223372036854775807 := by
  simp only [Lit.wf, IntKind.min, IntKind.max, IntKind.signed, IntKind.bits, Bool.and_eq_true, decide_eq_true_eq, if_true] at h
  omega
/-- the row's frame, with the listed variables and the world's shape -/
theorem framed {H : Type} {enc : TypeId × Value → H} {C : Checked} {os : Os} {f : FuncId} {fn : Func} {s : ChangeSpec} {conds : List PathCond} {X : World → Array Value → Prop}
    (hX : ∀ (w w' : World) (args : Array Value), w.heap = w'.heap → X w args → X w' args)
    (own : ownKnob C.prog.godebug = none) (started : os.Started) (noInit : C.prog.inits.idxOf? f = none) (hfn : C.prog.funcs[f]? = some fn)
    (witness : ∃ (w : World) (tape : Tape) (i : Input), w.os = os ∧ (w.forCall tape i).Shaped C.prog ∧ i.vars = [] ∧ Input.okWide C.prog (w.forCall tape i) .any w.heap.size f i ∧
      ((s.pre enc C.prog fn conds false (w.forCall tape i).memory i.args ∧ X (w.forCall tape i).memory i.args) ∧ sizedMet enc C.prog fn (OpenSpec.ofChange s) false (w.forCall tape i).memory i.args) ∧ Assume.holds {} C.prog (lone (Frame.enter C.prog f i.args .normal) [] (w.forCall tape i)))
    (contract : ∀ (W : World) (base : Nat) (args : Array Value) (ds gs : List (DataW H)) (before : List MemPlace),
      (∀ (j : Nat) t v, fn.params[j]? = some t → args[j]? = some v → Value.okWide C.prog W .any base t v) →
      DataW.Whole enc C.prog fn.params.toList s.vars false W args.toList ds gs before →
      (DataW.weightsEach C.prog (fn.params.toList ++ s.plain.varTypes C.prog) (ds ++ gs)).all (· ≤ reachBytes) = true → X W args → W.ShapedOpen C.prog →
      Calls C.prog f args W fun e W' => ∃ v, e = .returned v ∧ s.post enc C.prog fn false true false false W args v W') :
    ReturnsInHanded {} C os f .any (fun w args => (s.pre enc C.prog fn conds false w args ∧ X w args) ∧ sizedMet enc C.prog fn (OpenSpec.ofChange s) false w args) (s.post enc C.prog fn false true false false) := by
  refine returnsInHanded_of_calls own started noInit witness ?_
  intro w tape i _ hsh _ hok hpre hholds
  obtain ⟨_, _, _, fn', hfn', _, _, _, _, hval⟩ := hok
  have e : fn' = fn := Option.some.inj (hfn'.symm.trans hfn)
  subst e
  obtain ⟨⟨⟨ds, gs, before, hw, hc⟩, hx⟩, hz⟩ := hpre
  have hw' := DataW.Whole.of_heap (w' := w.forCall tape i) (by rfl) hw
  refine (contract (w.forCall tape i) w.heap.size i.args ds gs before hval hw' (hz.weights hw) (hX _ _ _ (by rfl) hx) hsh).mono fun e W' ⟨v, he, hp⟩ => ?_
  subst he
  exact ChangeSpec.post_blind hp

end Go.Proofs.YtnhjidbjibehpaaGreatDoor

/- RationalLimits: for all integers n, m the law returns true, and its arguments read as they did; under the row's conditions (the package-level variables that the row lists hold what the program's text lays). The tied card. -/
namespace Go.Proofs.YtnhjidbjibehpaaGreatDoor.RationalLimitsC
open Go.ChangeShapes Go.WideShapes Go.ChangeAt Go.RowKit

set_option maxRecDepth 100000 in
theorem lifted (os : Os) (started : os.Started) (H : Type) (enc : TypeId × Value → H) :
    ReturnsInHanded {} Tryz.checked os 5 .any (fun w args => (Rows.rationalLimitsSpec.pre enc Tryz.prog Tryz.f5 Rows.rationalLimitsRow.domain false w args ∧ laidMetH Tryz.prog lst w) ∧ sizedMet enc Tryz.prog Tryz.f5 (OpenSpec.ofChange Rows.rationalLimitsSpec) false w args)
      (Rows.rationalLimitsSpec.post enc Tryz.prog Tryz.f5 false true false false) := by
  refine framed (C := Tryz.checked) (X := fun w _ => laidMetH Tryz.prog lst w) (fun _ _ _ hh h => h.of_heap hh) own started (by kernel_rfl) Tryz.func5
    (ChangeSpec.witness_shaped (enc := enc) (C := Tryz.checked) (os := os) (X := fun w _ => laidMetH Tryz.prog lst w) false (World.laidAll Tryz.prog os lst) #[.int .i64 0, .int .i64 0] 8 (World.laidAll_os _ _ _)
      (World.shaped_of_ZipB (by kernel_rfl) (by kernel_rfl)) (by kernel_rfl) (by kernel_rfl) (by kernel_rfl)
      (by rw [MakeChecks.laidMetH_plain _ _ _ (by kernel_rfl)]; exact laidMet_laidAll _ (by kernel_rfl) (by kernel_rfl))) ?_
  intro W base args ds gs before hval0 hW hsz0 hL hsh
  have hE := env_of hL hsh
  have hval : ∀ (j : Nat) t v, Tryz.f5.params[j]? = some t → args[j]? = some v → Value.okWide Tryz.prog W .any base t v := hval0
  have hW' := hW
  obtain ⟨p, q, hA0, hV, rfl, hfz, hnd⟩ := hW
  have hA : DataW.TrodAll enc Tryz.prog W 0 (fun _ => true) true Tryz.f5.params.toList args.toList ds p := hA0
  rw [Tryz.params5] at hA hval
  obtain ⟨v0, vs0, d0, ds0, p0, q0, hargs, rfl, rfl, h0, r0⟩ := trodAll_cons hA
  obtain ⟨v1, vs1, d1, ds1, p1, q1, rfl, rfl, rfl, h1, r1⟩ := trodAll_cons r0
  obtain ⟨rfl, rfl, rfl⟩ := trodAll_nil r1
  obtain rfl : args = #[v0, v1] := by cases args; simp_all
  obtain ⟨rfl, rfl⟩ := trodVars_none hV
  obtain ⟨a0, rfl, rfl, rfl, w0⟩ := open_int Tryz.underlying3 (hval 0 3 v0 rfl rfl) h0
  obtain ⟨a1, rfl, rfl, rfl, w1⟩ := open_int Tryz.underlying3 (hval 1 3 v1 rfl rfl) h1
  clear hA0 hval0 hsz0
  have b0 := i64_bounds w0
  have b1 := i64_bounds w1
  refine (L4.limits_calls a0 a1 W hE b0.1 b0.2 b1.1 b1.2).mono fun e W' ⟨he, bel⟩ => ?_
  subst he
  exact ⟨_, rfl, _, _, _, [], _, [], hW', trodAll_mk1 (shut_bool Tryz.underlying4 _), (trodAll_cons_mk (shut_int Tryz.underlying3 w0) (trodAll_cons_mk (shut_int Tryz.underlying3 w1) trodAll_mk0)), rfl, bel.frame _, fun h => by cases h⟩
theorem over : Rows.rationalLimitsRow.holds Tryz.pinned (OpenSpec.ofChange Rows.rationalLimitsSpec) :=
  OpenClaim.holds_of_wide 5 Tryz.f5 rfl rfl rfl rfl rfl rfl rfl ⟨rfl, rfl, rfl, rfl, rfl⟩ rfl rfl rfl rfl rfl (by kernel_rfl) Tryz.func5 (by kernel_rfl)
    (of_decide_eq_true (by kernel_rfl)) (by unfold Func.isWrapper; first | (rw [if_pos (by decide +kernel)]; kernel_rfl) | (rw [if_neg (by decide +kernel)]; exact ⟨rfl, rfl⟩))
    (fun os started H enc _ => lifted os started H enc)

theorem card : Rows.RationalLimitsCardSaid :=
  Claim7.holds_tied_plain_at .later [] [.data, .data, .data, .data, .sentinel, .sentinel, .pinned] true (true, "4dc10a88129ae4622e584b13318755c8b0b35b8a8bca651b717609842bef8677") true
    over (fun _ h => by cases h) (by kernel_rfl) (fun _ h => by cases h) rationalLimits_row_tie rfl ⟨rfl, rfl⟩ (by kernel_rfl) rfl
    (fun f fn hf hfn => by
      obtain rfl : f = 5 := Option.some.inj ((show Tryz.prog.funcNamed "yardstick/yardsticklaw04.RationalLimits" = some 5 by kernel_rfl).symm.trans hf) |>.symm
      obtain rfl : fn = Tryz.f5 := (Option.some.inj (Tryz.func5.symm.trans hfn)).symm
      exact ⟨by kernel_rfl, fun j t ht => by
        rw [Tryz.params5] at ht
        have hm : t ∈ [3, 3] := by simpa using Array.mem_of_getElem? ht
        have hall : ([3, 3].all fun u => !Tryz.prog.wantsStandIn u) = true := by kernel_rfl
        exact (show Tryz.prog.wantsStandIn t = false by simpa using List.all_eq_true.1 hall t hm)⟩)
    (by kernel_rfl)
#print axioms card

end Go.Proofs.YtnhjidbjibehpaaGreatDoor.RationalLimitsC
namespace Go.Proofs.YtnhjidbjibehpaaGreatDoor
/-- The card, under a short name, for the claim. -/
theorem rationalLimits_card : Rows.RationalLimitsCardSaid := RationalLimitsC.card
end Go.Proofs.YtnhjidbjibehpaaGreatDoor
