/- Plain texts: sizes, tails, powers of ten, a fraction on a grid. No program in this text. -/
import Derived.Test.YtnhjidbjibehpaaGreatDoorRgrid
import Derived.RowKit
import Derived.Lib.Strings
import Derived.Test.YtnhjidbjibehpaaGreatDoorRef0
import Derived.Test.YtnhjidbjibehpaaGreatDoorMJ
import Derived.ScopeJumps
import Derived.WalkMore
namespace Go.Proofs.YtnhjidbjibehpaaGreatDoor.Ref
open Go.RowKit Yd Go.Lib
set_option linter.unusedVariables false
set_option linter.unusedSimpArgs false

theorem w64 {x : Int} (h0 : -9223372036854775808 ≤ x) (h1 : x ≤ 9223372036854775807) : wrap64 x = x := by unfold wrap64; omega
theorem size_len (s : ByteArray) : s.size = s.data.toList.length := rfl
theorem tl_data (s : ByteArray) : s.toList = s.data.toList := Lib.toList_data s
theorem head_getElem {l : List UInt8} (h : 0 < l.length) : l.head? = some l[0] := by cases l with
  | nil => simp at h
  | cons a t => rfl
theorem extract_tail (s : ByteArray) : (s.extract 1 s.size).data.toList = s.data.toList.tail := by
  rw [Lib.extract_data]
  rw [size_len]
  cases h : s.data.toList with
  | nil => simp
  | cons a t => simp
theorem ba_eq {s t : ByteArray} (h : s.data.toList = t.data.toList) : s = t := by
  cases s; cases t; simp at h; simp [h]
/-- an integer's text -/
def itx (z : Int) : ByteArray := ⟨(itoa z).toArray⟩
theorem itx_data (z : Int) : (itx z).data.toList = itoa z := by simp [itx]
theorem itx_size {z : Int} (h : z.natAbs < DL) : (itx z).size ≤ 201 := by
  rw [size_len, itx_data]
  have h1 := decDigits_DL.2 h
  by_cases hz : z < 0
  · rw [itoa_neg hz, List.length_cons]; omega
  · rw [itoa_pos (by omega)]; omega
theorem ediv_lt {x y : Int} (hx : x.natAbs < DL) : (x / y).natAbs < DL := Nat.lt_of_le_of_lt (Int.natAbs_ediv_le_natAbs x y) hx
theorem itoa_ten (x : Nat) (h : 0 < x) : itoa ((x * 10 : Nat) : Int) = itoa (x : Int) ++ [48] := by
  rw [itoa_pos (by omega), itoa_pos (by omega), show ((x * 10 : Nat) : Int).natAbs = x * 10 by omega, show (x : Int).natAbs = x by omega, decDigits_big (by omega)]
  rw [Nat.mul_div_left _ (by omega), Nat.mul_mod_left]; rfl
/-- a fraction on a grid -/
def rgridP (up : Bool) (o : Option Rat) (p : Int) : Option Rat := match o with
  | some r => if 0 ≤ p ∧ p ≤ 30 then rgrid up r p.toNat else none
  | none => none
theorem sm_pow {p : Nat} (hp : p < 200) : sm ((10 : Int) ^ p) = true := (Pw.pow p).sm hp
theorem sm_ediv {x y : Int} (h : sm x = true) : sm (x / y) = true := sm_iff.2 (ediv_lt (sm_iff.1 h))
theorem sm_up {x y : Int} (h : sm x = true) (hy : 0 < y) (hr : x % y ≠ 0) : sm (x / y + 1) = true := by
  rw [sm_iff] at *
  have h1 := Int.emod_add_mul_ediv x y
  have h2 := Int.emod_nonneg x (show y ≠ 0 by omega)
  have h3 := Int.emod_lt_of_pos x hy
  have hy2 : 2 ≤ y := by
    rcases Int.lt_or_le y 2 with h | h
    · exfalso
      have : y = 1 := by omega
      subst this; simp at hr
    · exact h
  by_cases hx : 0 ≤ x / y
  · have : 2 * (x / y) ≤ y * (x / y) := Int.mul_le_mul_of_nonneg_right hy2 hx
    omega
  · have := Int.natAbs_ediv_le_natAbs x y
    omega
def strL (l : List UInt8) : ByteArray := ⟨l.toArray⟩
theorem strL_data (l : List UInt8) : (strL l).data.toList = l := by simp [strL]

end Go.Proofs.YtnhjidbjibehpaaGreatDoor.Ref

/- Functions of the reference, each as a plain Lean function, and that the machine's call does what it says: yardstickref04.pick, yardsticklaw04.pick, yardsticklaw04.is. -/
namespace Go.Proofs.YtnhjidbjibehpaaGreatDoor.Ref
open Go.RowKit Go.Proofs.YtnhjidbjibehpaaGreatDoorW.PrintWords Go.Proofs.YtnhjidbjibehpaaGreatDoorW.PrintLast Go.Proofs.YtnhjidbjibehpaaGreatDoorW.PrintMore
attribute [local go_sem] max2_int min2_int max_two min_two max_three min_three max_four min_four
set_option linter.unusedVariables false
set_option linter.unusedSimpArgs false

/-! ### yardstickref04_pick: function 46 -/
def yardstickref04_pick.f (a0 : Int) (a1 : Int) : Option (Int) := if a0 < 0 then (if a1 = 0 then (none) else (some (Int.tmod (wrap64 (-(wrap64 (a0 + 1)))) a1))) else (if a1 = 0 then (none) else (some (Int.tmod a0 a1)))
set_option maxHeartbeats 8000000 in
set_option maxRecDepth 100000 in
theorem yardstickref04_pick.calls (a0 : Int) (a1 : Int) (r : Int) (w : World) (h : yardstickref04_pick.f a0 a1 = some r) :
    Calls Tryz.prog 46 #[.int .i64 a0, .int .i64 a1] w fun e w' => e = .returned (.int .i64 r) ∧ Drawn0 w w' := by
  have H : (if a0 < 0 then (if a1 = 0 then (none) else (some (Int.tmod (wrap64 (-(wrap64 (a0 + 1)))) a1))) else (if a1 = 0 then (none) else (some (Int.tmod a0 a1)))) = some r := h
  clear h
  by_cases c3 : a0 < 0
  · rw [if_pos c3] at H
    have c3b0 : decide (a0 < 0) = true := decide_eq_true c3
    clear c3
    by_cases c4 : a1 = 0
    · rw [if_pos c4] at H
      exact absurd H (by simp)
    · rw [if_neg c4] at H
      have c4b0 : (a1 == 0) = false := beq_eq_false_iff_ne.mpr c4
      have c4b1 : (a1 != 0) = true := bne_iff_ne.mpr c4
      obtain rfl := Option.some.inj H
      go_enter Tryz.func46, Tryz.ntmps46
      go_wp2
      go_ret
      exact ⟨by first | rfl | (simp; done) | (simp [*]; done), by repeat (first | exact Drawn0.refl _ | apply Drawn0.step)⟩
  · rw [if_neg c3] at H
    have c3b0 : decide (a0 < 0) = false := decide_eq_false c3
    clear c3
    by_cases c5 : a1 = 0
    · rw [if_pos c5] at H
      exact absurd H (by simp)
    · rw [if_neg c5] at H
      have c5b0 : (a1 == 0) = false := beq_eq_false_iff_ne.mpr c5
      have c5b1 : (a1 != 0) = true := bne_iff_ne.mpr c5
      obtain rfl := Option.some.inj H
      go_enter Tryz.func46, Tryz.ntmps46
      go_wp2
      go_ret
      exact ⟨by first | rfl | (simp; done) | (simp [*]; done), by repeat (first | exact Drawn0.refl _ | apply Drawn0.step)⟩

-- NOT PRINTED: function 12 (yardstickref04_Long)

/-! ### yardsticklaw04_pick: function 18 -/
def yardsticklaw04_pick.f (a0 : Int) (a1 : Int) : Option (Int) := if a0 < 0 then (if a1 = 0 then (none) else (some (Int.tmod (wrap64 (-(wrap64 (a0 + 1)))) a1))) else (if a1 = 0 then (none) else (some (Int.tmod a0 a1)))
set_option maxHeartbeats 8000000 in
set_option maxRecDepth 100000 in
theorem yardsticklaw04_pick.calls (a0 : Int) (a1 : Int) (r : Int) (w : World) (h : yardsticklaw04_pick.f a0 a1 = some r) :
    Calls Tryz.prog 18 #[.int .i64 a0, .int .i64 a1] w fun e w' => e = .returned (.int .i64 r) ∧ Drawn0 w w' := by
  have H : (if a0 < 0 then (if a1 = 0 then (none) else (some (Int.tmod (wrap64 (-(wrap64 (a0 + 1)))) a1))) else (if a1 = 0 then (none) else (some (Int.tmod a0 a1)))) = some r := h
  clear h
  by_cases c3 : a0 < 0
  · rw [if_pos c3] at H
    have c3b0 : decide (a0 < 0) = true := decide_eq_true c3
    clear c3
    by_cases c4 : a1 = 0
    · rw [if_pos c4] at H
      exact absurd H (by simp)
    · rw [if_neg c4] at H
      have c4b0 : (a1 == 0) = false := beq_eq_false_iff_ne.mpr c4
      have c4b1 : (a1 != 0) = true := bne_iff_ne.mpr c4
      obtain rfl := Option.some.inj H
      go_enter Tryz.func18, Tryz.ntmps18
      go_wp2
      go_ret
      exact ⟨by first | rfl | (simp; done) | (simp [*]; done), by repeat (first | exact Drawn0.refl _ | apply Drawn0.step)⟩
  · rw [if_neg c3] at H
    have c3b0 : decide (a0 < 0) = false := decide_eq_false c3
    clear c3
    by_cases c5 : a1 = 0
    · rw [if_pos c5] at H
      exact absurd H (by simp)
    · rw [if_neg c5] at H
      have c5b0 : (a1 == 0) = false := beq_eq_false_iff_ne.mpr c5
      have c5b1 : (a1 != 0) = true := bne_iff_ne.mpr c5
      obtain rfl := Option.some.inj H
      go_enter Tryz.func18, Tryz.ntmps18
      go_wp2
      go_ret
      exact ⟨by first | rfl | (simp; done) | (simp [*]; done), by repeat (first | exact Drawn0.refl _ | apply Drawn0.step)⟩

-- NOT PRINTED: function 25 (rational_Mul)

-- NOT PRINTED: function 5 (yardsticklaw04_RationalLimits)

/-! ### yardsticklaw04_is: function 24 -/
def yardsticklaw04_is.f (a0 : ByteArray) (a1 : ByteArray) : Option (ByteArray × ByteArray) := some (a0, a1)
set_option maxHeartbeats 8000000 in
set_option maxRecDepth 100000 in
theorem yardsticklaw04_is.calls (a0 : ByteArray) (a1 : ByteArray) (r1 : ByteArray) (r2 : ByteArray) (w : World) (h : yardsticklaw04_is.f a0 a1 = some (r1, r2)) :
    Calls Tryz.prog 24 #[.string a0, .string a1] w fun e w' => e = .returned (.agg #[.string r1, .string r2]) ∧ Below w.heap.size w w' := by
  have hu23 := Tryz.underlying23
  have HB := Aside0.mk (Below.refl w.heap.size w)
  have H : (some (a0, a1)) = some (r1, r2) := h
  clear h
  simp only [Option.some.injEq, Prod.mk.injEq] at H
  obtain ⟨rfl, rfl⟩ := H
  go_enter Tryz.func24, Tryz.ntmps24
  go_wp2_with (first | ((with_reducible refine gate_dst (N := 4) rfl ?_); refine box_event ?hg (N := 4) ?hd (cs := #[.string (⟨#[]⟩ : ByteArray), .string (⟨#[]⟩ : ByteArray)]) (t := 23) ?hr ?_; (case hd => rfl); (case hg => rfl); (case hr => first | (go_simp; done) | (go_simp; rfl)); intro gb170 hg w3 hbox hb; have n0_ := Aside0.mk (below_step (by repeat (first | (with_reducible first | exact HB.out | apply below_alloc | apply pw_below_drewN | apply below_drew1) | exact HB.out)) hb); have n1_ := Aside0.mk (hbox); have n2_ := Aside0.mk ((by rw [hg]; exact (below_size (by repeat (first | (with_reducible first | exact HB.out | apply below_alloc | apply pw_below_drewN | apply below_drew1) | exact HB.out))) : w.heap.size ≤ gb170)); have n3_ := Aside0.mk ((by rw [hg]; exact (below_size (by repeat (first | (with_reducible first | exact HB.out | apply below_alloc | apply pw_below_drewN | apply below_drew1) | exact HB.out))) : w.heap.size ≤ gb170)); clear HB; have HB := n0_; have BK170 := n1_; have GW170 := n2_; have GE170 := n3_; clear n0_ n1_ n2_ n3_; clear hb hbox hg; have hcz4_0 : w3.cell? ⟨gb170, 0, none⟩ = some (.string (⟨#[]⟩ : ByteArray)) := (blk_cell BK170.out 0).trans rfl; have hcz4_1 : w3.cell? ⟨gb170, 1, none⟩ = some (.string (⟨#[]⟩ : ByteArray)) := (blk_cell BK170.out 1).trans rfl; have hfz4_0 := blk_frozen BK170.out 0; have hfz4_1 := blk_frozen BK170.out 1))
  refine bodyPost_ret (results_cell_row rfl _ _ gb170 23 #[.string a0, .string a1] (0, 0) _ rfl (by (with_reducible repeat (first | refine blk_drewN ?_ _ | refine blk_drew ?_ | refine blk_alloc ?_ _)); refine blk_put (cs := #[.string a0, .string (⟨#[]⟩ : ByteArray)]) ?_ 1 _ rfl; (with_reducible repeat (first | refine blk_drewN ?_ _ | refine blk_drew ?_ | refine blk_alloc ?_ _)); refine blk_put (cs := #[.string (⟨#[]⟩ : ByteArray), .string (⟨#[]⟩ : ByteArray)]) ?_ 0 _ rfl; (with_reducible repeat (first | refine blk_drewN ?_ _ | refine blk_drew ?_ | refine blk_alloc ?_ _)); exact BK170.out) Tryz.underlying23 rfl (by kernel_rfl)) rfl ?_
  exact ⟨by first | rfl | (simp [errW_none, errW_some] <;> rfl) | (simp [*, errW_none, errW_some] <;> rfl), by repeat (first | (with_reducible first | exact HB.out | apply below_alloc | apply pw_below_drewN | apply below_drew1 | refine below_set ?_ GE170.out) | exact HB.out)⟩

-- NOT PRINTED: function 90 (integer_signed_plus)

-- NOT PRINTED: function 73 (integer_Sub)

-- NOT PRINTED: function 84 (rational_work_do)

-- NOT PRINTED: function 85 (rational_work_quotient)

-- NOT PRINTED: function 57 (rational_work_reduced)

-- NOT PRINTED: function 59 (rational_work_check)

-- NOT PRINTED: function 108 (integer_number_by)

-- NOT PRINTED: function 116 (integer_number_times)

-- NOT PRINTED: function 89 (integer_Mul)

-- NOT PRINTED: function 60 (rational_work_mul)

-- NOT PRINTED: function 26 (rational_Div)

-- NOT PRINTED: function 61 (rational_sum)

-- NOT PRINTED: function 62 (integer_Add)

-- NOT PRINTED: function 27 (rational_Add)

-- NOT PRINTED: function 69 (rational_round)

-- NOT PRINTED: function 35 (rational_Down)

-- NOT PRINTED: function 37 (rational_Up)

-- NOT PRINTED: function 22 (rational_Make)

-- NOT PRINTED: function 72 (integer_FromInt)

-- NOT PRINTED: function 41 (rational_Of)

-- NOT PRINTED: function 11 (yardsticklaw04_sane)

end Go.Proofs.YtnhjidbjibehpaaGreatDoor.Ref

/- Layer 4, walked: Compare. -/
namespace Go.Proofs.YtnhjidbjibehpaaGreatDoor.L4
open Go.Shelf Go.RowKit Go.Proofs.YtnhjidbjibehpaaGreatDoorW.PrintWords Go.Proofs.YtnhjidbjibehpaaGreatDoorW.PrintLast Go.Proofs.YtnhjidbjibehpaaGreatDoorW.PrintMore Yd L3
set_option linter.unusedVariables false
set_option linter.unusedSimpArgs false
attribute [local go_sem ↓] Go.wp_at_zero Go.wp_at_succ

/-- two boxes -/
structure R2 (w W : World) (s1 t1 s2 t2 : ByteArray) : Prop where
  bl : Below w.heap.size w W
  pa : W.heap[w.heap.size]? = some (.cells #[.string s1, .string t1] 23)
  pb : W.heap[w.heap.size + 1]? = some (.cells #[.string s2, .string t2] 23)
theorem R2.next {w W W' : World} {s1 t1 s2 t2 : ByteArray} (h : R2 w W s1 t1 s2 t2) (hb : Below W.heap.size W W') : R2 w W' s1 t1 s2 t2 :=
  ⟨h.bl.trans (hb.mono h.bl.size), (hb.block _ (blk_lt h.pa)).trans h.pa, (hb.block _ (blk_lt h.pb)).trans h.pb⟩
theorem R2.start (w : World) (s1 t1 s2 t2 : ByteArray) : R2 w ((w.alloc (.cells #[.string s1, .string t1] 23)).alloc (.cells #[.string s2, .string t2] 23)) s1 t1 s2 t2 := by
  have h1 := alloc_here w (.cells #[.string s1, .string t1] 23)
  have e : w.heap.size + 1 = (w.alloc (.cells #[.string s1, .string t1] 23)).heap.size := by simp only [World.size_alloc]
  refine ⟨(((Below.refl _ w).alloc (Nat.le_refl _) _).alloc (by simp only [World.size_alloc]; omega) _), ?_, ?_⟩
  · exact ((below_alloc (Below.refl _ _) _).block _ (by rw [← e]; omega)).trans h1
  · rw [e]; exact alloc_here _ _
theorem cmpI_sgn (a b : Int) : cmpI a b = sgn (a - b) := by unfold cmpI sgn; split <;> split <;> (try split) <;> (try split) <;> omega

/-- what a round of comparing starts from -/
structure CN (n d m c sg v : Int) : Prop where
  d1 : divV (tx n).data.toList (tx d).data.toList = .tuple #[.string (tx (n / d)), .string (tx (n % d)), .int .i64 0]
  d2 : divV (tx m).data.toList (tx c).data.toList = .tuple #[.string (tx (m / c)), .string (tx (m % c)), .int .i64 0]
  cases : (cmpT (tx (n / d)).data.toList (tx (m / c)).data.toList = -1 ∧ sgn (n * c - m * d) = -1) ∨ (cmpT (tx (n / d)).data.toList (tx (m / c)).data.toList = 1 ∧ sgn (n * c - m * d) = 1) ∨
    (cmpT (tx (n / d)).data.toList (tx (m / c)).data.toList = 0 ∧ n % d = 0 ∧ m % c = 0 ∧ sgn (n * c - m * d) = 0) ∨ (cmpT (tx (n / d)).data.toList (tx (m / c)).data.toList = 0 ∧ n % d = 0 ∧ m % c ≠ 0 ∧ sgn (n * c - m * d) = -1) ∨
    (cmpT (tx (n / d)).data.toList (tx (m / c)).data.toList = 0 ∧ n % d ≠ 0 ∧ m % c = 0 ∧ sgn (n * c - m * d) = 1) ∨ (cmpT (tx (n / d)).data.toList (tx (m / c)).data.toList = 0 ∧ n % d ≠ 0 ∧ m % c ≠ 0 ∧ sgn (n * c - m * d) = -sgn (d * (m % c) - c * (n % d)))
  er : (n % d = 0 → ((tx (n % d)).toList == [48]) = true) ∧ (n % d ≠ 0 → ((tx (n % d)).toList == [48]) = false)
  es : (m % c = 0 → ((tx (m % c)).toList == [48]) = true) ∧ (m % c ≠ 0 → ((tx (m % c)).toList == [48]) = false)
  sgb : -1 ≤ sg ∧ sg ≤ 1
  veq : v = sg * sgn (n * c - m * d)
  lt : (n % d).natAbs < d.natAbs
  bd : n.natAbs < DL ∧ d.natAbs < DL ∧ m.natAbs < DL ∧ c.natAbs < DL ∧ 0 < d ∧ 0 < c
theorem tx_zero {x : Int} : (x = 0 → ((tx x).toList == [48]) = true) ∧ (x ≠ 0 → ((tx x).toList == [48]) = false) :=
  ⟨fun h => by rw [tx_list, h, itoa_0]; rfl, fun h => by rw [tx_list, beq_eq_false_iff_ne]; exact fun h' => h ((itoa_0_iff x).1 h')⟩
theorem divV_tx {x y : Int} (hx : x.natAbs < DL) (hy : y.natAbs < DL) (h0 : 0 < y) : divV (tx x).data.toList (tx y).data.toList = .tuple #[.string (tx (x / y)), .string (tx (x % y)), .int .i64 0] := by
  rw [divV_te, quoR_tx hx hy (by omega), teI_ok (div_lt hx)]
  unfold remR
  rw [ival_tx hx, ival_tx hy]
  simp only [if_neg (show ¬ y = 0 by omega), if_pos (div_lt (y := y) hx)]
  rfl
theorem CN.mk' {n d m c sg v : Int} (hn : n.natAbs < DL) (hd : d.natAbs < DL) (hm : m.natAbs < DL) (hc : c.natAbs < DL) (d0 : 0 < d) (c0 : 0 < c) (hs : -1 ≤ sg ∧ sg ≤ 1) (hv : v = sg * sgn (n * c - m * d)) : CN n d m c sg v := by
  have r1 := Int.emod_nonneg n (show d ≠ 0 by omega)
  have r2 := Int.emod_lt_of_pos n d0
  have s1 := Int.emod_nonneg m (show c ≠ 0 by omega)
  refine ⟨divV_tx hn hd d0, divV_tx hm hc c0, ?_, tx_zero, tx_zero, hs, hv, by omega, hn, hd, hm, hc, d0, c0⟩
  rw [cmpT_yes (ival_tx (div_lt hn)) (ival_tx (div_lt hm))]
  rcases Int.lt_trichotomy (n / d) (m / c) with h | h | h
  · exact .inl ⟨by unfold cmpI; rw [if_pos h], sgn_whole_lt d0 c0 h⟩
  · have hst := sgn_step h
    have h0 : cmpI (n / d) (m / c) = 0 := by rw [h]; unfold cmpI; rw [if_neg (by omega), if_neg (by omega)]
    by_cases hr : n % d = 0
    · by_cases hs : m % c = 0
      · refine .inr (.inr (.inl ⟨h0, hr, hs, ?_⟩))
        rw [hst, hr, hs, Int.mul_zero, Int.mul_zero]; rfl
      · refine .inr (.inr (.inr (.inl ⟨h0, hr, hs, ?_⟩)))
        rw [hst, hr, Int.mul_zero, Int.sub_zero]
        have := Int.mul_pos d0 (show 0 < m % c by omega)
        unfold sgn; rw [if_neg (by omega), if_pos this]
    · by_cases hs : m % c = 0
      · refine .inr (.inr (.inr (.inr (.inl ⟨h0, hr, hs, ?_⟩))))
        rw [hst, hs, Int.mul_zero]
        have := Int.mul_pos c0 (show 0 < n % d by omega)
        unfold sgn; rw [if_pos (by omega)]; rfl
      · exact .inr (.inr (.inr (.inr (.inr ⟨h0, hr, hs, hst⟩))))
  · exact .inr (.inl ⟨by unfold cmpI; rw [if_neg (by omega), if_pos h], sgn_whole_gt d0 c0 h⟩)
theorem CN.next {n d m c sg v : Int} (h : CN n d m c sg v) (hr : n % d ≠ 0) (hs : m % c ≠ 0) (hv : sgn (n * c - m * d) = -sgn (d * (m % c) - c * (n % d))) : CN d (n % d) c (m % c) (-sg) v := by
  obtain ⟨hn, hd, hm, hc, d0, c0⟩ := h.bd
  have r1 := Int.emod_nonneg n (show d ≠ 0 by omega)
  have r2 := Int.emod_lt_of_pos n d0
  have s1 := Int.emod_nonneg m (show c ≠ 0 by omega)
  have s2 := Int.emod_lt_of_pos m c0
  refine CN.mk' hd (by omega) hc (by omega) (by omega) (by omega) (by have := h.sgb; omega) ?_
  rw [h.veq, hv, Int.mul_neg, Int.neg_mul]
/-- the measure -/
def cmpM (B : Nat) (w : World) : Nat := match w.cell? ⟨B, 1, none⟩ with
  | some (.string s) => ((ival s.data.toList).getD 0).natAbs
  | _ => 0
theorem R2.pa_1 {w W : World} {s1 t1 s2 t2 : ByteArray} (h : R2 w W s1 t1 s2 t2) : W.cell? ⟨w.heap.size, 1, none⟩ = some (.string t1) := blk_cell h.pa 1
theorem cmpM_of {w : World} {B : Nat} {x : Int} (h : w.cell? ⟨B, 1, none⟩ = some (.string (tx x))) (hx : x.natAbs < DL) : cmpM B w = x.natAbs := by
  unfold cmpM; rw [h]; simp only []; rw [ival_tx hx]; rfl
theorem R2.put {w W : World} {s1 t1 s2 t2 : ByteArray} (h : R2 w W s1 t1 s2 t2) (a b c d : ByteArray) :
    R2 w ((((W.setCell ⟨w.heap.size, 0, none⟩ (.string a)).setCell ⟨w.heap.size, 1, none⟩ (.string b)).setCell ⟨w.heap.size + 1, 0, none⟩ (.string c)).setCell ⟨w.heap.size + 1, 1, none⟩ (.string d)).drew a b c d := by
  refine ⟨below_drew ((((h.bl.setCell (p := ⟨w.heap.size, 0, none⟩) (Nat.le_refl _) _).setCell (p := ⟨w.heap.size, 1, none⟩) (Nat.le_refl _) _).setCell (p := ⟨w.heap.size + 1, 0, none⟩) (by show _ ≤ w.heap.size + 1; omega) _).setCell (p := ⟨w.heap.size + 1, 1, none⟩) (by show _ ≤ w.heap.size + 1; omega) _), ?_, ?_⟩
  · exact (Below.heap_setCell _ ⟨w.heap.size + 1, 1, none⟩ _ _ (by show w.heap.size ≠ w.heap.size + 1; omega)).trans ((Below.heap_setCell _ ⟨w.heap.size + 1, 0, none⟩ _ _ (by show w.heap.size ≠ w.heap.size + 1; omega)).trans (blk_set (blk_set h.pa 0 (.string a)) 1 (.string b)))
  · have hB : ((W.setCell ⟨w.heap.size, 0, none⟩ (.string a)).setCell ⟨w.heap.size, 1, none⟩ (.string b)).heap[w.heap.size + 1]? = some (.cells #[.string s2, .string t2] 23) := (Below.heap_setCell _ ⟨w.heap.size, 1, none⟩ _ _ (by show w.heap.size + 1 ≠ w.heap.size; omega)).trans ((Below.heap_setCell _ ⟨w.heap.size, 0, none⟩ _ _ (by show w.heap.size + 1 ≠ w.heap.size; omega)).trans h.pb)
    exact blk_set (blk_set hB 0 (.string c)) 1 (.string d)
/-- what holds at each jump -/
def CJ (w : World) (v : Int) (s1 t1 s2 t2 : ByteArray) (a' : Act) (w' : World) : Prop := ∃ (n d m c sg : Int) (u4 u6 u7 u8 u9 u10 u11 u12 u13 u14 u15 u16 u17 u18 u19 u20 u21 u22 u23 u24 u25 u26 u27 u28 u29 u30 u31 u32 u33 u34 u35 u36 u37 u38 u39 u40 u41 u42 u43 u44 u45 u46 u47 u48 u49 u50 u51 u52 u53 u54 u55 u56 u57 u58 u59 u60 u61 u62 u63 u64 u65 u66 u67 u68 u69 u70 u71 u72 u73 : Value), a' = { tmps := #[.agg #[.string s1, .string t1], .agg #[.string s2, .string t2], .pointer (some ⟨w.heap.size, 0, none⟩), .pointer (some ⟨w.heap.size + 1, 0, none⟩), u4, .int .i64 sg, u6, u7, u8, u9, u10, u11, u12, u13, u14, u15, u16, u17, u18, u19, u20, u21, u22, u23, u24, u25, u26, u27, u28, u29, u30, u31, u32, u33, u34, u35, u36, u37, u38, u39, u40, u41, u42, u43, u44, u45, u46, u47, u48, u49, u50, u51, u52, u53, u54, u55, u56, u57, u58, u59, u60, u61, u62, u63, u64, u65, u66, u67, u68, u69, u70, u71, u72, u73], defers := [] } ∧ Aside0 (CN n d m c sg v) ∧ Aside0 (R2 w w' (tx n) (tx d) (tx m) (tx c))

set_option maxRecDepth 100000 in
set_option maxHeartbeats 8000000 in
/-- Compare of two fractions -/
theorem rcompare_ok (a b : Rat) (w : World) (hT : Tab w) (s1 t1 s2 t2 : ByteArray) (ha : rvalB s1 t1 = some a) (hb : rvalB s2 t2 = some b) :
    Calls Tryz.prog 23 #[.agg #[.string s1, .string t1], .agg #[.string s2, .string t2]] w fun e w' => e = .returned (.int .i64 (rcmp a b)) ∧ Below w.heap.size w w' := by
  have HT := Aside0.mk hT
  have HA : Aside0 (rvalid s1.data.toList t1.data.toList = true) := ⟨by rw [rvalid_rval]; unfold rvalB at ha; rw [ha]; rfl⟩
  have HB : Aside0 (rvalid s2.data.toList t2.data.toList = true) := ⟨by rw [rvalid_rval]; unfold rvalB at hb; rw [hb]; rfl⟩
  obtain ⟨hs1, ht1, la⟩ := rvalB_eq ha
  obtain ⟨hs2, ht2, lb⟩ := rvalB_eq hb
  have HN0 : Aside0 (CN a.num a.den b.num b.den 1 (rcmp a b)) := ⟨CN.mk' la.1 (den_lt la) lb.1 (den_lt lb) (rat_pos a) (rat_pos b) (by omega) (by unfold rcmp; omega)⟩
  have HS := Aside0.mk (And.intro hs1 (And.intro ht1 (And.intro hs2 ht2)))
  clear hT ha hb hs1 ht1 hs2 ht2 la lb
  generalize rcmp a b = v at *
  go_enter Tryz.func23, Tryz.ntmps23
  go_wp2_with fail
  have HR0 := Aside0.mk (R2.start w s1 t1 s2 t2)
  generalize ((w.alloc (.cells #[.string s1, .string t1] 23)).alloc (.cells #[.string s2, .string t2] 23)) = W0 at *
  refine wp_scope_jumps 0 (CJ w v s1 t1 s2 t2) (fun _ w' => cmpM w.heap.size w') rfl ?_ ?_
  · obtain ⟨k0, k1, l0, l1⟩ := pair_facts HR0.out.pa
    obtain ⟨p0, p1, q0, q1⟩ := pair_facts HR0.out.pb
    go_wp2_with fail
    refine (rvalid_calls s1 t1 _ (tabB HT.out HR0.out.bl)).mono ?_
    rintro e W1 ⟨rfl, hb1⟩
    rw [HA.out]
    have HR1 := Aside0.mk (HR0.out.next hb1)
    obtain ⟨k0, k1, l0, l1⟩ := pair_facts HR1.out.pa
    obtain ⟨p0, p1, q0, q1⟩ := pair_facts HR1.out.pb
    clear hb1 HR0
    go_wp2_with fail
    refine (rvalid_calls s2 t2 _ (tabB HT.out HR1.out.bl)).mono ?_
    rintro e W2 ⟨rfl, hb2⟩
    rw [HB.out]
    have hr2 := HR1.out.next hb2
    obtain ⟨rfl, rfl, rfl, rfl⟩ := HS.out
    have HR := Aside0.mk hr2
    have HN := Aside0.mk HN0.out
    generalize a.num = n at *
    generalize (a.den : Int) = d at *
    generalize b.num = m at *
    generalize (b.den : Int) = c at *
    clear hb2 hr2 HR1 HN0 HS HA HB k0 k1 l0 l1 p0 p1 q0 q1
    go_wp2_with fail
    go_step3
    obtain ⟨k0, k1, l0, l1⟩ := pair_facts HR.out.pa
    obtain ⟨p0, p1, q0, q1⟩ := pair_facts HR.out.pb
    go_wp2_with fail
    refine (div_calls (tx n) (tx d) _ (tabB HT.out HR.out.bl)).mono ?_
    rintro e W1 ⟨rfl, hb1⟩
    have HR1 := Aside0.mk (HR.out.next hb1)
    obtain ⟨k0, k1, l0, l1⟩ := pair_facts HR1.out.pa
    obtain ⟨p0, p1, q0, q1⟩ := pair_facts HR1.out.pb
    rw [HN.out.d1]
    clear hb1
    go_wp2_with fail
    refine (div_calls (tx m) (tx c) _ (tabB HT.out HR1.out.bl)).mono ?_
    rintro e W2 ⟨rfl, hb2⟩
    have HR2 := Aside0.mk (HR1.out.next hb2)
    obtain ⟨k0, k1, l0, l1⟩ := pair_facts HR2.out.pa
    obtain ⟨p0, p1, q0, q1⟩ := pair_facts HR2.out.pb
    rw [HN.out.d2]
    clear hb2
    go_wp2_with fail
    refine (compare_calls (tx (n / d)) (tx (m / c)) _).mono ?_
    rintro e W3 ⟨rfl, hb3⟩
    have HR3 := Aside0.mk (HR2.out.next hb3)
    obtain ⟨k0, k1, l0, l1⟩ := pair_facts HR3.out.pa
    obtain ⟨p0, p1, q0, q1⟩ := pair_facts HR3.out.pb
    clear hb3
    have HC := Aside0.mk HN.out.cases
    obtain ⟨cc, hcc⟩ : ∃ cc, cmpT (tx (n / d)).data.toList (tx (m / c)).data.toList = cc := ⟨_, rfl⟩
    rw [hcc] at HC ⊢
    have hsg := HN.out.sgb
    have er := HN.out.er
    have es := HN.out.es
    clear hcc
    have HCC := HC.out
    rcases HCC with ⟨hc1, hv⟩ | ⟨hc1, hv⟩ | ⟨hc1, hr, hs, hv⟩ | ⟨hc1, hr, hs, hv⟩ | ⟨hc1, hr, hs, hv⟩ | ⟨hc1, hr, hs, hv⟩
    · subst hc1
      have HV := Aside0.mk hv
      clear hv er es HC
      go_wp2_with fail
      simp only [Exit.jump]
      go_ret
      exact ⟨by rw [HN.out.veq, HV.out]; simp, HR3.out.bl⟩
    · subst hc1
      have HV := Aside0.mk hv
      clear hv er es HC
      go_wp2_with fail
      simp only [Exit.jump]
      go_ret
      exact ⟨by rw [HN.out.veq, HV.out]; simp, HR3.out.bl⟩
    · subst hc1
      have er := er.1 hr
      have es := es.1 hs
      have HV := Aside0.mk hv
      generalize tx (n % d) = tr at er ⊢
      generalize tx (m % c) = ts at es ⊢
      clear hv hr hs HC
      go_wp2_with fail
      simp only [Exit.jump]
      go_ret
      exact ⟨by rw [HN.out.veq, HV.out]; simp, HR3.out.bl⟩
    · subst hc1
      have er := er.1 hr
      have es := es.2 hs
      have HV := Aside0.mk hv
      generalize tx (n % d) = tr at er ⊢
      generalize tx (m % c) = ts at es ⊢
      clear hv hr hs HC
      go_wp2_with fail
      simp only [Exit.jump]
      go_ret
      exact ⟨by rw [HN.out.veq, HV.out]; simp, HR3.out.bl⟩
    · subst hc1
      have er := er.2 hr
      have es := es.1 hs
      have HV := Aside0.mk hv
      generalize tx (n % d) = tr at er ⊢
      generalize tx (m % c) = ts at es ⊢
      clear hv hr hs HC
      go_wp2_with fail
      simp only [Exit.jump]
      go_ret
      exact ⟨by rw [HN.out.veq, HV.out]; simp, HR3.out.bl⟩
    · subst hc1
      have er := er.2 hr
      have es := es.2 hs
      have HV := Aside0.mk hv
      have HX : Aside0 (CN d (n % d) c (m % c) (-1) v) := ⟨HN.out.next hr hs hv⟩
      obtain ⟨tr, htr⟩ : ∃ tr, tx (n % d) = tr := ⟨_, rfl⟩
      obtain ⟨ts, hts⟩ : ∃ ts, tx (m % c) = ts := ⟨_, rfl⟩
      have HTR := Aside0.mk htr
      have HTS := Aside0.mk hts
      rw [htr] at er ⊢
      rw [hts] at es ⊢
      clear hv hr hs HC htr hts
      go_wp2_with fail
      go_region
      all_goals go_wp2_with fail
      all_goals
        go_step3
        have HP := Aside0.mk (HR3.out.put (tx d) (tx (n % d)) (tx c) (tx (m % c)))
        exact ⟨rfl, d, n % d, c, m % c, -1, _, _, _, _, _, _, _, _, _, _, _, _, _, _, _, _, _, _, _, _, _, _, _, _, _, _, _, _, _, _, _, _, _, _, _, _, _, _, _, _, _, _, _, _, _, _, _, _, _, _, _, _, _, _, _, _, _, _, _, _, _, _, _, _, _, _, _, _, _, rfl, HX, by rw [← HTR.out, ← HTS.out]; exact HP⟩
  · rintro a' W0' ⟨n, d, m, c, sg, u4, u6, u7, u8, u9, u10, u11, u12, u13, u14, u15, u16, u17, u18, u19, u20, u21, u22, u23, u24, u25, u26, u27, u28, u29, u30, u31, u32, u33, u34, u35, u36, u37, u38, u39, u40, u41, u42, u43, u44, u45, u46, u47, u48, u49, u50, u51, u52, u53, u54, u55, u56, u57, u58, u59, u60, u61, u62, u63, u64, u65, u66, u67, u68, u69, u70, u71, u72, u73, rfl, HN, HR⟩
    clear HR0 HN0 HS HA HB
    obtain ⟨k0, k1, l0, l1⟩ := pair_facts HR.out.pa
    obtain ⟨p0, p1, q0, q1⟩ := pair_facts HR.out.pb
    go_wp2_with fail
    refine (div_calls (tx n) (tx d) _ (tabB HT.out HR.out.bl)).mono ?_
    rintro e W1 ⟨rfl, hb1⟩
    have HR1 := Aside0.mk (HR.out.next hb1)
    obtain ⟨k0, k1, l0, l1⟩ := pair_facts HR1.out.pa
    obtain ⟨p0, p1, q0, q1⟩ := pair_facts HR1.out.pb
    rw [HN.out.d1]
    clear hb1
    go_wp2_with fail
    refine (div_calls (tx m) (tx c) _ (tabB HT.out HR1.out.bl)).mono ?_
    rintro e W2 ⟨rfl, hb2⟩
    have HR2 := Aside0.mk (HR1.out.next hb2)
    obtain ⟨k0, k1, l0, l1⟩ := pair_facts HR2.out.pa
    obtain ⟨p0, p1, q0, q1⟩ := pair_facts HR2.out.pb
    rw [HN.out.d2]
    clear hb2
    go_wp2_with fail
    refine (compare_calls (tx (n / d)) (tx (m / c)) _).mono ?_
    rintro e W3 ⟨rfl, hb3⟩
    have HR3 := Aside0.mk (HR2.out.next hb3)
    obtain ⟨k0, k1, l0, l1⟩ := pair_facts HR3.out.pa
    obtain ⟨p0, p1, q0, q1⟩ := pair_facts HR3.out.pb
    clear hb3
    have HC := Aside0.mk HN.out.cases
    obtain ⟨cc, hcc⟩ : ∃ cc, cmpT (tx (n / d)).data.toList (tx (m / c)).data.toList = cc := ⟨_, rfl⟩
    rw [hcc] at HC ⊢
    have hsg := HN.out.sgb
    have er := HN.out.er
    have es := HN.out.es
    clear hcc
    have HCC := HC.out
    rcases HCC with ⟨hc1, hv⟩ | ⟨hc1, hv⟩ | ⟨hc1, hr, hs, hv⟩ | ⟨hc1, hr, hs, hv⟩ | ⟨hc1, hr, hs, hv⟩ | ⟨hc1, hr, hs, hv⟩
    · subst hc1
      have HV := Aside0.mk hv
      clear hv er es HC
      go_wp2_with fail
      simp only [Exit.jump]
      go_ret
      exact ⟨by rw [HN.out.veq, HV.out]; simp, HR3.out.bl⟩
    · subst hc1
      have HV := Aside0.mk hv
      clear hv er es HC
      go_wp2_with fail
      simp only [Exit.jump]
      go_ret
      exact ⟨by rw [HN.out.veq, HV.out]; simp, HR3.out.bl⟩
    · subst hc1
      have er := er.1 hr
      have es := es.1 hs
      have HV := Aside0.mk hv
      generalize tx (n % d) = tr at er ⊢
      generalize tx (m % c) = ts at es ⊢
      clear hv hr hs HC
      go_wp2_with fail
      simp only [Exit.jump]
      go_ret
      exact ⟨by rw [HN.out.veq, HV.out]; simp, HR3.out.bl⟩
    · subst hc1
      have er := er.1 hr
      have es := es.2 hs
      have HV := Aside0.mk hv
      generalize tx (n % d) = tr at er ⊢
      generalize tx (m % c) = ts at es ⊢
      clear hv hr hs HC
      go_wp2_with fail
      simp only [Exit.jump]
      go_ret
      exact ⟨by rw [HN.out.veq, HV.out]; simp, HR3.out.bl⟩
    · subst hc1
      have er := er.2 hr
      have es := es.1 hs
      have HV := Aside0.mk hv
      generalize tx (n % d) = tr at er ⊢
      generalize tx (m % c) = ts at es ⊢
      clear hv hr hs HC
      go_wp2_with fail
      simp only [Exit.jump]
      go_ret
      exact ⟨by rw [HN.out.veq, HV.out]; simp, HR3.out.bl⟩
    · subst hc1
      have er := er.2 hr
      have es := es.2 hs
      have HV := Aside0.mk hv
      have HX : Aside0 (CN d (n % d) c (m % c) (-sg) v) := ⟨HN.out.next hr hs hv⟩
      obtain ⟨tr, htr⟩ : ∃ tr, tx (n % d) = tr := ⟨_, rfl⟩
      obtain ⟨ts, hts⟩ : ∃ ts, tx (m % c) = ts := ⟨_, rfl⟩
      have HTR := Aside0.mk htr
      have HTS := Aside0.mk hts
      rw [htr] at er ⊢
      rw [hts] at es ⊢
      clear hv hr hs HC htr hts
      go_wp2_with fail
      go_region
      all_goals go_wp2_with fail
      all_goals
        go_step3
        have HP := Aside0.mk (HR3.out.put (tx d) (tx (n % d)) (tx c) (tx (m % c)))
        have HM := Aside0.mk (cmpM_of HR.out.pa_1 HN.out.bd.2.1)
        exact ⟨rfl, ⟨d, n % d, c, m % c, -sg, _, _, _, _, _, _, _, _, _, _, _, _, _, _, _, _, _, _, _, _, _, _, _, _, _, _, _, _, _, _, _, _, _, _, _, _, _, _, _, _, _, _, _, _, _, _, _, _, _, _, _, _, _, _, _, _, _, _, _, _, _, _, _, _, _, _, _, _, _, rfl, HX, by rw [← HTR.out, ← HTS.out]; exact HP⟩, by rw [HM.out, ← HTR.out, ← HTS.out, cmpM_of HP.out.pa_1 HX.out.bd.2.1]; exact HN.out.lt⟩

set_option maxRecDepth 100000 in
set_option maxHeartbeats 8000000 in
/-- Compare, where one is no fraction -/
theorem rcompare_no (w : World) (hT : Tab w) (s1 t1 s2 t2 : ByteArray) (h : rvalid s1.data.toList t1.data.toList = false ∨ rvalid s2.data.toList t2.data.toList = false) :
    Calls Tryz.prog 23 #[.agg #[.string s1, .string t1], .agg #[.string s2, .string t2]] w fun e w' => e = .returned (.int .i64 0) ∧ Below w.heap.size w w' := by
  have HT := Aside0.mk hT
  have H := Aside0.mk h
  clear hT h
  go_enter Tryz.func23, Tryz.ntmps23
  go_wp2_with fail
  have HR0 := Aside0.mk (R2.start w s1 t1 s2 t2)
  generalize ((w.alloc (.cells #[.string s1, .string t1] 23)).alloc (.cells #[.string s2, .string t2] 23)) = W0 at *
  refine wp_scope_jumps 0 (fun _ _ => False) (fun _ _ => 0) rfl ?_ (fun _ _ h => h.elim)
  obtain ⟨k0, k1, l0, l1⟩ := pair_facts HR0.out.pa
  obtain ⟨p0, p1, q0, q1⟩ := pair_facts HR0.out.pb
  go_wp2_with fail
  refine (rvalid_calls s1 t1 _ (tabB HT.out HR0.out.bl)).mono ?_
  rintro e W1 ⟨rfl, hb1⟩
  have HR1 := Aside0.mk (HR0.out.next hb1)
  obtain ⟨k0, k1, l0, l1⟩ := pair_facts HR1.out.pa
  obtain ⟨p0, p1, q0, q1⟩ := pair_facts HR1.out.pb
  clear hb1 HR0
  cases h1 : rvalid s1.data.toList t1.data.toList
  · clear h1 H
    go_wp2_with fail
    simp only [Exit.jump]
    go_ret
    exact ⟨rfl, HR1.out.bl⟩
  · have h2 : rvalid s2.data.toList t2.data.toList = false := by
      rcases H.out with h | h
      · rw [h1] at h; cases h
      · exact h
    have H2 := Aside0.mk h2
    clear h1 h2 H
    go_wp2_with fail
    refine (rvalid_calls s2 t2 _ (tabB HT.out HR1.out.bl)).mono ?_
    rintro e W2 ⟨rfl, hb2⟩
    rw [H2.out]
    have HR2 := Aside0.mk (HR1.out.next hb2)
    clear hb2
    go_wp2_with fail
    simp only [Exit.jump]
    go_ret
    exact ⟨rfl, HR2.out.bl⟩
/-- Compare -/
theorem rcompare_calls (s1 t1 s2 t2 : ByteArray) (w : World) (hT : Tab w) :
    Calls Tryz.prog 23 #[.agg #[.string s1, .string t1], .agg #[.string s2, .string t2]] w fun e w' => e = .returned (.int .i64 (rcmpO (rvalB s1 t1) (rvalB s2 t2))) ∧ Below w.heap.size w w' := by
  have hv : ∀ s t : ByteArray, rvalB s t = none → rvalid s.data.toList t.data.toList = false := fun s t h => by rw [rvalid_rval]; unfold rvalB at h; rw [h]; rfl
  cases h1 : rvalB s1 t1 with
  | none => exact rcompare_no w hT s1 t1 s2 t2 (.inl (hv _ _ h1))
  | some a => cases h2 : rvalB s2 t2 with
    | none => exact rcompare_no w hT s1 t1 s2 t2 (.inr (hv _ _ h2))
    | some b => exact rcompare_ok a b w hT s1 t1 s2 t2 h1 h2

end Go.Proofs.YtnhjidbjibehpaaGreatDoor.L4

/- Layer 4, walked: check of one fraction, round, Down, Up. -/
namespace Go.Proofs.YtnhjidbjibehpaaGreatDoor.L4
open Go.Shelf Go.RowKit Go.Proofs.YtnhjidbjibehpaaGreatDoorW.PrintWords Go.Proofs.YtnhjidbjibehpaaGreatDoorW.PrintLast Go.Proofs.YtnhjidbjibehpaaGreatDoorW.PrintMore Yd L3
set_option linter.unusedVariables false
set_option linter.unusedSimpArgs false
attribute [local go_sem ↓] Go.wp_at_zero Go.wp_at_succ

/-- the state of check, one fraction -/
structure CS1 (W0 W : World) (B Bl : Nat) (b : Bool) (s t : ByteArray) : Prop where
  gb : W0.grownBy W (some B)
  wk : Wk W B b
  lb : W.heap[Bl]? = some (.cells #[.string s, .string t] 23)
theorem CS1.next {W0 W W' : World} {B Bl : Nat} {b : Bool} {s t : ByteArray} (h : CS1 W0 W B Bl b s t) (hb : Below W.heap.size W W') : CS1 W0 W' B Bl b s t :=
  ⟨grown_trans h.gb (grown_of_below hb _), (hb.block _ (blk_lt h.wk)).trans h.wk, (hb.block _ (blk_lt h.lb)).trans h.lb⟩
theorem CS1.set {W0 W : World} {B Bl : Nat} {b b' c : Bool} {s t : ByteArray} (h : CS1 W0 W B Bl b s t) (hne : B ≠ Bl) (e : c = b') : CS1 W0 (W.setCell ⟨B, 0, none⟩ (.bool b')) B Bl c s t := by
  subst e
  exact ⟨grown_trans h.gb (grown_setB (Below.refl _ W) B _), blk_set h.wk 0 _, (Below.heap_setCell _ ⟨B, 0, none⟩ _ Bl (fun e => hne e.symm)).trans h.lb⟩
def flag1 (b : Bool) (s t : ByteArray) (k : Nat) : Bool := b || (decide (0 < k) && !rvalid s.data.toList t.data.toList)
theorem flag1_0 (b : Bool) (s t : ByteArray) : flag1 b s t 0 = b := by simp [flag1]
theorem flag1_1 (b : Bool) (s t : ByteArray) : flag1 b s t 1 = (b || !rvalid s.data.toList t.data.toList) := by simp [flag1]

set_option maxRecDepth 100000 in
set_option maxHeartbeats 4000000 in
/-- check, of one fraction -/
theorem check1_calls (w W : World) (B Bl : Nat) (b : Bool) (s t : ByteArray) (hw : Wk W B b) (hl : W.heap[Bl]? = some (.cells #[.string s, .string t] 23)) (hT : Tab w) (hb : Below w.heap.size w W) (hB : w.heap.size ≤ B) (hne : B ≠ Bl) :
    Calls Tryz.prog 59 #[.pointer (some ⟨B, 0, none⟩), .slice (some ⟨Bl, 0, none⟩) 1 1] W fun e W' => e = .returned (.tuple #[]) ∧ Wk W' B (b || !rvalid s.data.toList t.data.toList) ∧ W.grownBy W' (some B) := by
  have HTB : Aside0 (∀ W' : World, W.grownBy W' (some B) → Tab W') := ⟨fun W' hg => Tab.grown hT hb hB hg⟩
  have HNE := Aside0.mk hne
  clear hT hb hB hne
  go_enter Tryz.func59, Tryz.ntmps59
  go_wp2_with fail
  go_loopg [8] 1 (fun kq v8 wr => ∃ k : Nat, v8 = .int .i64 k ∧ k + kq = 1 ∧ Aside0 (CS1 W wr B Bl (flag1 b s t k) s t))
  case atStart => exact ⟨0, rfl, rfl, ⟨⟨⟨rfl, rfl, rfl, Nat.le_refl _, fun _ _ _ => rfl⟩, by rw [flag1_0]; exact hw, hl⟩⟩⟩
  case round =>
    obtain ⟨k, rfl, hk, HC⟩ := hrel
    have hk' : k = 0 ∨ k = 1 := by omega
    rcases hk' with rfl | rfl
    · obtain rfl : gk = 1 := by omega
      have hc7 := HC.out.next (below_alloc (Below.refl _ wr) (.cells #[.string s, .string t] 23))
      have HC7 := Aside0.mk hc7
      have hc := hc7.wk.cell
      have hf := hc7.wk.frozen
      have l0 := blk_cell HC.out.lb 0
      have l1 := blk_cell HC.out.lb 1
      have HFL := Aside0.mk (flag1_1 b s t)
      have HFK := Aside0.mk (flag1_0 b s t)
      obtain ⟨bb, hbb⟩ : ∃ bb, flag1 b s t 0 = bb := ⟨_, rfl⟩
      rw [hbb] at hc
      have HBB := Aside0.mk hbb
      have HTW := Aside0.mk (HTB.out _ hc7.gb)
      clear hbb hc7
      cases bb
      · go_wp2_with fail
        refine (rvalid_calls s t _ HTW.out).mono ?_
        rintro e W4 ⟨rfl, hb4⟩
        have hc8 := HC7.out.next hb4
        have HC8 := Aside0.mk hc8
        have hc := hc8.wk.cell
        rw [HBB.out] at hc
        have hf := hc8.wk.frozen
        obtain ⟨vv, hvv⟩ : ∃ vv, rvalid s.data.toList t.data.toList = vv := ⟨_, rfl⟩
        rw [hvv]
        have HVV := Aside0.mk hvv
        clear hb4 hc8 hvv
        go_wp2_with fail
        all_goals
          go_roundg 0
          case measure => omega
          case rel => exact ⟨1, rfl, rfl, ⟨HC8.out.set HNE.out (by rw [HFL.out, ← HVV.out]; have h := HFK.out; rw [HBB.out] at h; rw [← h]; rfl)⟩⟩
      · go_wp2_with fail
        all_goals
          go_roundg 0
          case measure => omega
          case rel => exact ⟨1, rfl, rfl, ⟨HC7.out.set HNE.out (by rw [HFL.out]; have h := HFK.out; rw [HBB.out] at h; rw [← h]; rfl)⟩⟩
    · obtain rfl : gk = 0 := by omega
      have HFL := Aside0.mk (flag1_1 b s t)
      go_wp2_with fail
      go_end0
      exact ⟨rfl, by rw [← HFL.out]; exact HC.out.wk, HC.out.gb⟩

/-- round's boxes: the fraction, the result, the calculation -/
structure RG (w W : World) (b : Bool) (s t r1 r2 : ByteArray) : Prop where
  bl : Below w.heap.size w W
  pa : W.heap[w.heap.size]? = some (.cells #[.string s, .string t] 23)
  pr : W.heap[w.heap.size + 1]? = some (.cells #[.string r1, .string r2] 23)
  wk : Wk W (w.heap.size + 1 + 1) b
theorem RG.grown {w W W' : World} {b b' : Bool} {s t r1 r2 : ByteArray} (h : RG w W b s t r1 r2) (hw : Wk W' (w.heap.size + 1 + 1) b') (hg : W.grownBy W' (some (w.heap.size + 1 + 1))) : RG w W' b' s t r1 r2 :=
  ⟨h.bl.grown hg h.bl.size (fun k e => by injection e with e; omega), (hg.block _ (blk_lt h.pa) (by intro e; injection e with e; omega)).trans h.pa,
    (hg.block _ (blk_lt h.pr) (by intro e; injection e with e; omega)).trans h.pr, hw⟩
theorem RG.next {w W W' : World} {b : Bool} {s t r1 r2 : ByteArray} (h : RG w W b s t r1 r2) (hb : Below W.heap.size W W') : RG w W' b s t r1 r2 :=
  h.grown ((hb.block _ (blk_lt h.wk)).trans h.wk) (grown_of_below hb _)
theorem RG.start (w : World) (b : Bool) (s t : ByteArray) : RG w (((w.alloc (.cells #[.string s, .string t] 23)).alloc (.cells #[.string ⟨#[]⟩, .string ⟨#[]⟩] 23)).alloc (.cells #[.bool b] 78)) b s t ⟨#[]⟩ ⟨#[]⟩ := by
  have h1 := alloc_here w (.cells #[.string s, .string t] 23)
  have e1 : w.heap.size + 1 = (w.alloc (.cells #[.string s, .string t] 23)).heap.size := by simp only [World.size_alloc]
  have h2 := alloc_here (w.alloc (.cells #[.string s, .string t] 23)) (.cells #[.string ⟨#[]⟩, .string ⟨#[]⟩] 23)
  have e2 : w.heap.size + 1 + 1 = ((w.alloc (.cells #[.string s, .string t] 23)).alloc (.cells #[.string ⟨#[]⟩, .string ⟨#[]⟩] 23)).heap.size := by simp only [World.size_alloc]
  refine ⟨((((Below.refl _ w).alloc (Nat.le_refl _) _).alloc (by simp only [World.size_alloc]; omega) _).alloc (by simp only [World.size_alloc]; omega) _), ?_, ?_, ?_⟩
  · exact (alloc_old _ _ (by rw [← e2]; omega)).trans ((alloc_old _ _ (by rw [← e1]; omega)).trans h1)
  · rw [e1]; exact (alloc_old _ _ (by rw [← e2]; omega)).trans h2
  · rw [e2]; exact alloc_here _ _
theorem RG.set {w W : World} {b : Bool} {s t r1 r2 : ByteArray} (h : RG w W b s t r1 r2) (s' t' : ByteArray) : RG w ((W.setCell ⟨w.heap.size + 1, 0, none⟩ (.string s')).setCell ⟨w.heap.size + 1, 1, none⟩ (.string t')) b s t s' t' := by
  refine ⟨(h.bl.setCell (p := ⟨w.heap.size + 1, 0, none⟩) (by show _ ≤ w.heap.size + 1; omega) _).setCell (p := ⟨w.heap.size + 1, 1, none⟩) (by show _ ≤ w.heap.size + 1; omega) _, ?_, blk_set (blk_set h.pr 0 (.string s')) 1 _, ?_⟩
  · exact ((Below.heap_setCell _ ⟨w.heap.size + 1, 1, none⟩ _ _ (by show w.heap.size ≠ w.heap.size + 1; omega)).trans (Below.heap_setCell _ ⟨w.heap.size + 1, 0, none⟩ _ _ (by show w.heap.size ≠ w.heap.size + 1; omega))).trans h.pa
  · exact ((Below.heap_setCell _ ⟨w.heap.size + 1, 1, none⟩ _ _ (by show w.heap.size + 1 + 1 ≠ w.heap.size + 1; omega)).trans (Below.heap_setCell _ ⟨w.heap.size + 1, 0, none⟩ _ _ (by show w.heap.size + 1 + 1 ≠ w.heap.size + 1; omega))).trans h.wk
theorem RG_size (w : World) (a b c : Obj) : (((w.alloc a).alloc b).alloc c).heap.size = w.heap.size + 1 + 1 + 1 := by simp only [World.size_alloc]
/-- w.bad = false, once more -/
theorem RG.good {w W : World} {b : Bool} {s t r1 r2 : ByteArray} (h : RG w W b s t r1 r2) (b' : Bool) : RG w (W.setCell ⟨w.heap.size + 1 + 1, 0, none⟩ (.bool b')) b' s t r1 r2 :=
  h.grown (blk_set h.wk 0 _) (grown_setB (Below.refl _ W) _ _)

set_option maxRecDepth 100000 in
set_option maxHeartbeats 4000000 in
theorem round_lo (s t : ByteArray) (p : Int) (up : Bool) (w : World) (hT : Tab w) (e1 : decide (p < 0) = true) :
    Calls Tryz.prog 69 #[.agg #[.string s, .string t], .int .i64 p, .bool up] w fun e w' => e = .returned badR ∧ Below w.heap.size w w' := by
  have HT := Aside0.mk hT
  have HV : Aside0 ((true || !rvalid s.data.toList t.data.toList) = true) := ⟨by rfl⟩
  clear hT
  go_enter Tryz.func69, Tryz.ntmps69
  go_wp2_with fail
  have HR0 := Aside0.mk (RG.start w true s t)
  have HZ0 := Aside0.mk (RG_size w (.cells #[.string s, .string t] 23) (.cells #[.string ⟨#[]⟩, .string ⟨#[]⟩] 23) (.cells #[.bool true] 78))
  generalize (((w.alloc (.cells #[.string s, .string t] 23)).alloc (.cells #[.string ⟨#[]⟩, .string ⟨#[]⟩] 23)).alloc (.cells #[.bool true] 78)) = W0 at *
  have hl := alloc_here W0 (.cells #[.string s, .string t] 23)
  rw [HZ0.out] at hl
  have HR1 := Aside0.mk (HR0.out.next (below_alloc (Below.refl _ W0) (.cells #[.string s, .string t] 23)))
  refine (check1_calls w _ _ _ true s t HR1.out.wk hl HT.out HR1.out.bl (by omega) (by omega)).mono ?_
  rintro e W2 ⟨rfl, hw2, hg2⟩
  rw [HV.out] at hw2
  have hr2 := HR1.out.grown hw2 hg2
  have HR2 := Aside0.mk hr2
  have hc := hr2.wk.cell
  have hf := hr2.wk.frozen
  obtain ⟨d0, d1, g0, g1⟩ := pair_facts hr2.pr
  clear hl hw2 hg2 hr2 HR0 HZ0 HR1
  go_wp2_with fail
  have HR5 := Aside0.mk (HR2.out.set ⟨#[]⟩ ⟨#[]⟩)
  refine bodyPost_ret (results_list (rs := [.cell _ _, .tmp _]) rfl (by simp) (.cell (w.heap.size + 1) 23 _ (0, 0) _ rfl HR5.out.pr Tryz.underlying23 rfl (by kernel_rfl) (.tmp .nil))) rfl ?_
  exact ⟨rfl, HR5.out.bl⟩

set_option maxRecDepth 100000 in
set_option maxHeartbeats 4000000 in
theorem round_bad1 (s t : ByteArray) (p : Int) (up : Bool) (w : World) (hT : Tab w) (b2 : Bool) (e1 : decide (p < 0) = false) (e2 : decide (30 < p) = b2) (hv : (b2 || !rvalid s.data.toList t.data.toList) = true) :
    Calls Tryz.prog 69 #[.agg #[.string s, .string t], .int .i64 p, .bool up] w fun e w' => e = .returned badR ∧ Below w.heap.size w w' := by
  have HT := Aside0.mk hT
  have HV : Aside0 ((b2 || !rvalid s.data.toList t.data.toList) = true) := ⟨by exact hv⟩
  clear hT hv
  go_enter Tryz.func69, Tryz.ntmps69
  go_wp2_with fail
  have HR0 := Aside0.mk (RG.start w b2 s t)
  have HZ0 := Aside0.mk (RG_size w (.cells #[.string s, .string t] 23) (.cells #[.string ⟨#[]⟩, .string ⟨#[]⟩] 23) (.cells #[.bool b2] 78))
  generalize (((w.alloc (.cells #[.string s, .string t] 23)).alloc (.cells #[.string ⟨#[]⟩, .string ⟨#[]⟩] 23)).alloc (.cells #[.bool b2] 78)) = W0 at *
  have hl := alloc_here W0 (.cells #[.string s, .string t] 23)
  rw [HZ0.out] at hl
  have HR1 := Aside0.mk (HR0.out.next (below_alloc (Below.refl _ W0) (.cells #[.string s, .string t] 23)))
  refine (check1_calls w _ _ _ b2 s t HR1.out.wk hl HT.out HR1.out.bl (by omega) (by omega)).mono ?_
  rintro e W2 ⟨rfl, hw2, hg2⟩
  rw [HV.out] at hw2
  have hr2 := HR1.out.grown hw2 hg2
  have HR2 := Aside0.mk hr2
  have hc := hr2.wk.cell
  have hf := hr2.wk.frozen
  obtain ⟨d0, d1, g0, g1⟩ := pair_facts hr2.pr
  clear hl hw2 hg2 hr2 HR0 HZ0 HR1
  go_wp2_with fail
  have HR5 := Aside0.mk (HR2.out.set ⟨#[]⟩ ⟨#[]⟩)
  refine bodyPost_ret (results_list (rs := [.cell _ _, .tmp _]) rfl (by simp) (.cell (w.heap.size + 1) 23 _ (0, 0) _ rfl HR5.out.pr Tryz.underlying23 rfl (by kernel_rfl) (.tmp .nil))) rfl ?_
  exact ⟨rfl, HR5.out.bl⟩

theorem repL_succ (k : Nat) : Lib.repeatL [48] (k + 1) = Lib.repeatL [48] k ++ [48] := by
  induction k with
  | zero => rfl
  | succ k ih =>
    conv => lhs; rw [Lib.repeatL, ih, ← List.append_assoc]
    rfl
theorem itoa_pow (k : Nat) : Lib.itoa (10 ^ k) = 49 :: Lib.repeatL [48] k := by
  induction k with
  | zero => rw [show (10 : Int) ^ 0 = 1 from rfl, itoa_1]; rfl
  | succ k ih =>
    have h := Ref.itoa_ten (10 ^ k) (Nat.pow_pos (by omega))
    rw [← Nat.pow_succ] at h
    have c1 : ((10 ^ (k + 1) : Nat) : Int) = (10 : Int) ^ (k + 1) := Int.natCast_pow 10 (k + 1)
    have c2 : ((10 ^ k : Nat) : Int) = (10 : Int) ^ k := Int.natCast_pow 10 k
    rw [c1, c2] at h
    rw [h, ih, repL_succ]; rfl
theorem tx_pow (k : Nat) : (⟨#[49]⟩ : ByteArray) ++ (⟨(Lib.repeatL [48] k).toArray⟩ : ByteArray) = tx (10 ^ k) := by
  apply ba_ext
  rw [tx_data, itoa_pow]; simp

set_option maxRecDepth 100000 in
set_option maxHeartbeats 8000000 in
theorem round_ok (s t : ByteArray) (r : Rat) (k : Nat) (up : Bool) (w : World) (hT : Tab w) (hk : k ≤ 30) (hv : rvalB s t = some r) :
    Calls Tryz.prog 69 #[.agg #[.string s, .string t], .int .i64 (k : Int), .bool up] w fun e w' => e = .returned (ratO (rgrid up r k)) ∧ Below w.heap.size w w' := by
  have HT := Aside0.mk hT
  have f1 : decide ((k : Int) < 0) = false := decide_eq_false (by omega)
  have f2 : decide ((30 : Int) < (k : Int)) = false := decide_eq_false (by omega)
  have HV : Aside0 (rvalid s.data.toList t.data.toList = true) := ⟨by rw [rvalid_rval]; unfold rvalB at hv; rw [hv]; rfl⟩
  obtain ⟨rfl, rfl, hr⟩ := rvalB_eq hv
  have HR := Aside0.mk hr
  have HK := Aside0.mk hk
  have HPD : Aside0 (((10 : Int) ^ k).natAbs < DL) := ⟨sm_iff.1 (Ref.sm_pow (by omega))⟩
  have HP0 : Aside0 ((10 : Int) ^ k ≠ 0) := ⟨by have := pow10_pos k; omega⟩
  have HM : Aside0 (opR (· * ·) (tx r.num) (tx (10 ^ k)) = teI (r.num * 10 ^ k)) := ⟨opR_tx _ hr.1 HPD.out⟩
  clear hT hv hr hk
  go_enter Tryz.func69, Tryz.ntmps69
  go_wp2_with fail
  have HR0 := Aside0.mk (RG.start w false (tx r.num) (tx r.den))
  have HZ0 := Aside0.mk (RG_size w (.cells #[.string (tx r.num), .string (tx r.den)] 23) (.cells #[.string ⟨#[]⟩, .string ⟨#[]⟩] 23) (.cells #[.bool false] 78))
  generalize (((w.alloc (.cells #[.string (tx r.num), .string (tx r.den)] 23)).alloc (.cells #[.string ⟨#[]⟩, .string ⟨#[]⟩] 23)).alloc (.cells #[.bool false] 78)) = W0 at *
  have hl := alloc_here W0 (.cells #[.string (tx r.num), .string (tx r.den)] 23)
  rw [HZ0.out] at hl
  have HR1 := Aside0.mk (HR0.out.next (below_alloc (Below.refl _ W0) (.cells #[.string (tx r.num), .string (tx r.den)] 23)))
  refine (check1_calls w _ _ _ false (tx r.num) (tx r.den) HR1.out.wk hl HT.out HR1.out.bl (by omega) (by omega)).mono ?_
  rintro e W2 ⟨rfl, hw2, hg2⟩
  rw [HV.out] at hw2
  have hr2 := HR1.out.grown hw2 hg2
  have HR2 : Aside0 (RG w W2 false (tx r.num) (tx r.den) ⟨#[]⟩ ⟨#[]⟩) := ⟨hr2⟩
  have hc := HR2.out.wk.cell
  have hf := hr2.wk.frozen
  obtain ⟨c0, c1, e0, e1⟩ := pair_facts hr2.pa
  obtain ⟨d0, d1, g0, g1⟩ := pair_facts hr2.pr
  clear hl hw2 hg2 hr2 HR0 HZ0 HR1
  go_wp2_with fail
  refine (Tryz.strings_Repeat ⟨#[48]⟩ k _ (by have := HK.out; omega) (by show 1 * k ≤ _; have := HK.out; omega)).mono ?_
  rintro e W3 ⟨rfl, hb3⟩
  have hr3 := HR2.out.next hb3
  have HR3 := Aside0.mk hr3
  have hc := hr3.wk.cell
  have hf := hr3.wk.frozen
  obtain ⟨c0, c1, e0, e1⟩ := pair_facts hr3.pa
  obtain ⟨d0, d1, g0, g1⟩ := pair_facts hr3.pr
  have HTP := Aside0.mk (tx_pow k)
  have hl48 : (⟨#[48]⟩ : ByteArray).data.toList = [48] := rfl
  rw [hl48]
  obtain ⟨rp, hrp⟩ : ∃ rp : ByteArray, (⟨(Lib.repeatL [48] k).toArray⟩ : ByteArray) = rp := ⟨_, rfl⟩
  rw [hrp] at HTP ⊢
  have hrs : rp.size ≤ 30 := by
    rw [← hrp, Lib.size_eq]
    have := HK.out
    rw [show (⟨(Lib.repeatL [48] k).toArray⟩ : ByteArray).data.toList = Lib.repeatL [48] k by simp, Lib.repeatL_length]; simp; omega
  clear hb3 hr3 hl48 hrp
  go_wp2_with fail
  rw [HTP.out]
  refine (wmul_calls W3 _ false (tx r.num) (tx (10 ^ k)) HR3.out.wk (tabB HT.out HR3.out.bl)).mono ?_
  rintro e W4 ⟨rfl, hw4, hg4⟩
  rw [HM.out] at hw4 ⊢
  have hr4 := HR3.out.grown hw4 hg4
  rw [doB_te] at hr4
  cases hz : sm (r.num * 10 ^ k)
  · rw [hz] at hr4
    have HR4 : Aside0 (RG w W4 true (tx r.num) (tx r.den) ⟨#[]⟩ ⟨#[]⟩) := ⟨hr4⟩
    have HE : Aside0 (rgrid up r k = none) := ⟨by unfold rgrid; rw [hz]; rfl⟩
    have hc := HR4.out.wk.cell
    have hf := hr4.wk.frozen
    obtain ⟨d0, d1, g0, g1⟩ := pair_facts hr4.pr
    generalize doR false (teI (r.num * 10 ^ k)) = n at *
    generalize tx (10 ^ k) = tp at *
    clear hw4 hg4 hr4 hz
    go_wp2_with fail
    have HR5 := Aside0.mk (HR4.out.set ⟨#[]⟩ ⟨#[]⟩)
    refine bodyPost_ret (results_list (rs := [.cell _ _, .tmp _]) rfl (by simp) (.cell (w.heap.size + 1) 23 _ (0, 0) _ rfl HR5.out.pr Tryz.underlying23 rfl (by kernel_rfl) (.tmp .nil))) rfl ?_
    exact ⟨by rw [HE.out]; rfl, HR5.out.bl⟩
  · rw [hz] at hr4
    rw [doR_te hz]
    have HR4 : Aside0 (RG w W4 false (tx r.num) (tx r.den) ⟨#[]⟩ ⟨#[]⟩) := ⟨hr4⟩
    have HZ := Aside0.mk hz
    have hc := HR4.out.wk.cell
    have hf := hr4.wk.frozen
    obtain ⟨c0, c1, e0, e1⟩ := pair_facts hr4.pa
    obtain ⟨d0, d1, g0, g1⟩ := pair_facts hr4.pr
    have HD := Aside0.mk (divV_tx (sm_iff.1 hz) (den_lt HR.out) (rat_pos r))
    have HQ := Aside0.mk (Ref.sm_ediv (y := r.den) hz)
    have HRE := Aside0.mk (tx_zero (x := r.num * 10 ^ k % r.den))
    have HUP := Aside0.mk (fun h => Ref.sm_up (y := r.den) hz (rat_pos r) h)
    have HG : Aside0 (∀ u, rgrid u r k = some (Rat.divInt (r.num * 10 ^ k / r.den + if u && decide (r.num * 10 ^ k % r.den ≠ 0) then 1 else 0) (10 ^ k))) := ⟨fun u => by unfold rgrid; rw [hz]; rfl⟩
    clear hw4 hg4 hr4 hz
    go_wp2_with fail
    refine (div_calls (tx (r.num * 10 ^ k)) (tx r.den) _ (tabB HT.out HR4.out.bl)).mono ?_
    rintro e W5 ⟨rfl, hb5⟩
    rw [HD.out]
    have hr5 := HR4.out.next hb5
    have HR5 := Aside0.mk hr5
    have hc := hr5.wk.cell
    have hf := hr5.wk.frozen
    clear hb5 hr5
    have HRX := Aside0.mk (HR5.out.good false)
    generalize r.num * 10 ^ k / r.den = q at *
    have HRE := HRE.out
    cases up
    · obtain ⟨rest, hrest⟩ : ∃ x, tx (r.num * 10 ^ k % r.den) = x := ⟨_, rfl⟩
      rw [hrest] at HRE ⊢
      have HRE := Aside0.mk HRE
      clear hrest
      go_wp2_with fail
      refine (red_calls w _ _ q (10 ^ k) HRX.out.wk (sm_iff.1 HQ.out) HPD.out HT.out HRX.out.bl (by omega)).mono ?_
      rintro e W7 ⟨rfl, hg7⟩
      have hbl5 := HRX.out.bl.grown hg7 HRX.out.bl.size (fun k e => by injection e with e; omega)
      have hpr5 := (hg7.block _ (blk_lt HRX.out.pr) (by intro e; injection e with e; omega)).trans HRX.out.pr
      have HBL := Aside0.mk hbl5
      have HPR := Aside0.mk hpr5
      obtain ⟨k0, k1, m0, m1⟩ := pair_facts hpr5
      have HE : Aside0 (mkV q (10 ^ k) = ratO (rgrid false r k)) := ⟨by rw [HG.out, mkV_ratO, mk2, if_neg HP0.out]; simp⟩
      obtain ⟨r1, r2, er, hr⟩ := mkV_rat q (10 ^ k)
      rw [hr] at HE ⊢
      unfold ratV
      clear hg7 hbl5 hpr5 hr
      go_wp2_with fail
      refine bodyPost_ret (results_list (rs := [.cell _ _, .tmp _]) rfl (by simp) (.cell (w.heap.size + 1) 23 _ (0, 0) _ rfl (blk_set (blk_set HPR.out 0 (.string r1)) 1 (.string r2)) Tryz.underlying23 rfl (by kernel_rfl) (.tmp .nil))) rfl ?_
      exact ⟨by rw [← HE.out]; rfl, (HBL.out.setCell (p := ⟨w.heap.size + 1, 0, none⟩) (by show _ ≤ w.heap.size + 1; omega) _).setCell (p := ⟨w.heap.size + 1, 1, none⟩) (by show _ ≤ w.heap.size + 1; omega) _⟩
    · by_cases hr0 : r.num * 10 ^ k % r.den = 0
      · have er := HRE.1 hr0
        have HR0 := Aside0.mk hr0
        generalize tx (r.num * 10 ^ k % r.den) = rest at *
        clear hr0 HRE
        go_wp2_with fail
        refine (red_calls w _ _ q (10 ^ k) HRX.out.wk (sm_iff.1 HQ.out) HPD.out HT.out HRX.out.bl (by omega)).mono ?_
        rintro e W7 ⟨rfl, hg7⟩
        have hbl5 := HRX.out.bl.grown hg7 HRX.out.bl.size (fun k e => by injection e with e; omega)
        have hpr5 := (hg7.block _ (blk_lt HRX.out.pr) (by intro e; injection e with e; omega)).trans HRX.out.pr
        have HBL := Aside0.mk hbl5
        have HPR := Aside0.mk hpr5
        obtain ⟨k0, k1, m0, m1⟩ := pair_facts hpr5
        have HE : Aside0 (mkV q (10 ^ k) = ratO (rgrid true r k)) := ⟨by rw [HG.out, mkV_ratO, mk2, if_neg HP0.out, HR0.out]; simp⟩
        obtain ⟨r1, r2, er, hr⟩ := mkV_rat q (10 ^ k)
        rw [hr] at HE ⊢
        unfold ratV
        clear hg7 hbl5 hpr5 hr
        go_wp2_with fail
        refine bodyPost_ret (results_list (rs := [.cell _ _, .tmp _]) rfl (by simp) (.cell (w.heap.size + 1) 23 _ (0, 0) _ rfl (blk_set (blk_set HPR.out 0 (.string r1)) 1 (.string r2)) Tryz.underlying23 rfl (by kernel_rfl) (.tmp .nil))) rfl ?_
        exact ⟨by rw [← HE.out]; rfl, (HBL.out.setCell (p := ⟨w.heap.size + 1, 0, none⟩) (by show _ ≤ w.heap.size + 1; omega) _).setCell (p := ⟨w.heap.size + 1, 1, none⟩) (by show _ ≤ w.heap.size + 1; omega) _⟩
      · have er := HRE.2 hr0
        have HR0 := Aside0.mk hr0
        generalize tx (r.num * 10 ^ k % r.den) = rest at *
        clear hr0 HRE
        have HO : Aside0 (opR (· + ·) (tx q) ⟨#[49]⟩ = (tx (q + 1), 0)) := ⟨by rw [← tx_1, opR_tx _ (sm_iff.1 HQ.out) (show (1 : Int).natAbs < DL from DL_one), teI_ok (sm_iff.1 (HUP.out HR0.out))]⟩
        go_wp2_with fail
        refine (do_calls _ _ op_add _ _ false (tx q) ⟨#[49]⟩ HRX.out.wk (tabB HT.out HRX.out.bl)).mono ?_
        rintro e W6 ⟨rfl, hw6, hg6⟩
        rw [HO.out] at hw6 ⊢
        have hr6 : RG w W6 false (tx r.num) (tx r.den) ⟨#[]⟩ ⟨#[]⟩ := HRX.out.grown hw6 hg6
        clear HRX
        have HRX := Aside0.mk hr6
        rw [show doR false (tx (q + 1), 0) = tx (q + 1) from rfl]
        clear hw6 hg6 hr6
        go_wp2_with fail
        refine (red_calls w _ _ (q + 1) (10 ^ k) HRX.out.wk (sm_iff.1 (HUP.out HR0.out)) HPD.out HT.out HRX.out.bl (by omega)).mono ?_
        rintro e W7 ⟨rfl, hg7⟩
        have hbl5 := HRX.out.bl.grown hg7 HRX.out.bl.size (fun k e => by injection e with e; omega)
        have hpr5 := (hg7.block _ (blk_lt HRX.out.pr) (by intro e; injection e with e; omega)).trans HRX.out.pr
        have HBL := Aside0.mk hbl5
        have HPR := Aside0.mk hpr5
        obtain ⟨k0, k1, m0, m1⟩ := pair_facts hpr5
        have HE : Aside0 (mkV (q + 1) (10 ^ k) = ratO (rgrid true r k)) := ⟨by rw [HG.out, mkV_ratO, mk2, if_neg HP0.out, show decide (r.num * 10 ^ k % ↑r.den ≠ 0) = true from decide_eq_true HR0.out]; simp⟩
        obtain ⟨r1, r2, er, hr⟩ := mkV_rat (q + 1) (10 ^ k)
        rw [hr] at HE ⊢
        unfold ratV
        clear hg7 hbl5 hpr5 hr
        go_wp2_with fail
        refine bodyPost_ret (results_list (rs := [.cell _ _, .tmp _]) rfl (by simp) (.cell (w.heap.size + 1) 23 _ (0, 0) _ rfl (blk_set (blk_set HPR.out 0 (.string r1)) 1 (.string r2)) Tryz.underlying23 rfl (by kernel_rfl) (.tmp .nil))) rfl ?_
        exact ⟨by rw [← HE.out]; rfl, (HBL.out.setCell (p := ⟨w.heap.size + 1, 0, none⟩) (by show _ ≤ w.heap.size + 1; omega) _).setCell (p := ⟨w.heap.size + 1, 1, none⟩) (by show _ ≤ w.heap.size + 1; omega) _⟩

/-- round -/
theorem round_calls (s t : ByteArray) (p : Int) (up : Bool) (w : World) (hT : Tab w) :
    Calls Tryz.prog 69 #[.agg #[.string s, .string t], .int .i64 p, .bool up] w fun e w' => e = .returned (ratO (Ref.rgridP up (rvalB s t) p)) ∧ Below w.heap.size w w' := by
  by_cases hp : 0 ≤ p ∧ p ≤ 30
  · obtain ⟨k, rfl⟩ : ∃ k : Nat, p = k := ⟨p.toNat, by omega⟩
    cases hv : rvalB s t with
    | none => exact round_bad1 s t k up w hT _ (decide_eq_false (by omega)) rfl (by rw [rvalid_rval]; unfold rvalB at hv; rw [hv]; simp)
    | some r =>
      have := round_ok s t r k up w hT (by omega) hv
      unfold Ref.rgridP
      simp only [if_pos hp, Int.toNat_natCast]
      exact this
  · have e : Ref.rgridP up (rvalB s t) p = none := by
      unfold Ref.rgridP
      cases rvalB s t with
      | none => rfl
      | some r => exact if_neg hp
    rw [e]
    by_cases h0 : p < 0
    · exact round_lo s t p up w hT (decide_eq_true h0)
    · exact round_bad1 s t p up w hT _ (decide_eq_false h0) rfl (by rw [decide_eq_true (show 30 < p by omega)]; rfl)
theorem ratO_rat (o : Option Rat) : ∃ a c e, ratO o = ratV a c e := by cases o <;> exact ⟨_, _, _, rfl⟩
/-- a box, and the result's -/
structure R2b (w W : World) (r1 r2 : ByteArray) : Prop where
  bl : Below w.heap.size w W
  pr : W.heap[w.heap.size + 1]? = some (.cells #[.string r1, .string r2] 23)
theorem R2b.next {w W W' : World} {r1 r2 : ByteArray} (h : R2b w W r1 r2) (hb : Below W.heap.size W W') : R2b w W' r1 r2 :=
  ⟨h.bl.trans (hb.mono h.bl.size), (hb.block _ (blk_lt h.pr)).trans h.pr⟩
theorem R2b.start (w : World) (s t : ByteArray) : R2b w ((w.alloc (.cells #[.string s, .string t] 23)).alloc (.cells #[.string ⟨#[]⟩, .string ⟨#[]⟩] 23)) ⟨#[]⟩ ⟨#[]⟩ := by
  have e : w.heap.size + 1 = (w.alloc (.cells #[.string s, .string t] 23)).heap.size := by simp only [World.size_alloc]
  refine ⟨(((Below.refl _ w).alloc (Nat.le_refl _) _).alloc (by simp only [World.size_alloc]; omega) _), ?_⟩
  rw [e]; exact alloc_here _ _
theorem R2b.set {w W : World} {r1 r2 : ByteArray} (h : R2b w W r1 r2) (s' t' : ByteArray) : R2b w ((W.setCell ⟨w.heap.size + 1, 0, none⟩ (.string s')).setCell ⟨w.heap.size + 1, 1, none⟩ (.string t')) s' t' :=
  ⟨(h.bl.setCell (p := ⟨w.heap.size + 1, 0, none⟩) (by show _ ≤ w.heap.size + 1; omega) _).setCell (p := ⟨w.heap.size + 1, 1, none⟩) (by show _ ≤ w.heap.size + 1; omega) _, blk_set (blk_set h.pr 0 (.string s')) 1 _⟩

set_option maxRecDepth 100000 in
set_option maxHeartbeats 4000000 in
/-- Down -/
theorem rdown_calls (s t : ByteArray) (p : Int) (w : World) (hT : Tab w) :
    Calls Tryz.prog 35 #[.agg #[.string s, .string t], .int .i64 p] w fun e w' => e = .returned (ratO (Ref.rgridP false (rvalB s t) p)) ∧ Below w.heap.size w w' := by
  have HT := Aside0.mk hT
  clear hT
  go_enter Tryz.func35, Tryz.ntmps35
  go_wp2_with fail
  have HR0 := Aside0.mk (R2b.start w s t)
  generalize ((w.alloc (.cells #[.string s, .string t] 23)).alloc (.cells #[.string ⟨#[]⟩, .string ⟨#[]⟩] 23)) = W0 at *
  refine (round_calls s t p false W0 (tabB HT.out HR0.out.bl)).mono ?_
  rintro e w1 ⟨rfl, hb1⟩
  have HR1 := Aside0.mk (HR0.out.next hb1)
  obtain ⟨c0, c1, f0, f1⟩ := pair_facts HR1.out.pr
  obtain ⟨r1, r2, er, hr⟩ := ratO_rat (Ref.rgridP false (rvalB s t) p)
  have HR := Aside0.mk hr
  rw [hr]
  unfold ratV
  clear hb1 hr
  go_wp2_with fail
  have HR5 := Aside0.mk (HR1.out.set r1 r2)
  refine bodyPost_ret (results_list (rs := [.cell _ _, .tmp _]) rfl (by simp) (.cell (w.heap.size + 1) 23 _ (0, 0) _ rfl HR5.out.pr Tryz.underlying23 rfl (by kernel_rfl) (.tmp .nil))) rfl ?_
  exact ⟨by rw [HR.out]; rfl, HR5.out.bl⟩

set_option maxRecDepth 100000 in
set_option maxHeartbeats 4000000 in
/-- Up -/
theorem rup_calls (s t : ByteArray) (p : Int) (w : World) (hT : Tab w) :
    Calls Tryz.prog 37 #[.agg #[.string s, .string t], .int .i64 p] w fun e w' => e = .returned (ratO (Ref.rgridP true (rvalB s t) p)) ∧ Below w.heap.size w w' := by
  have HT := Aside0.mk hT
  clear hT
  go_enter Tryz.func37, Tryz.ntmps37
  go_wp2_with fail
  have HR0 := Aside0.mk (R2b.start w s t)
  generalize ((w.alloc (.cells #[.string s, .string t] 23)).alloc (.cells #[.string ⟨#[]⟩, .string ⟨#[]⟩] 23)) = W0 at *
  refine (round_calls s t p true W0 (tabB HT.out HR0.out.bl)).mono ?_
  rintro e w1 ⟨rfl, hb1⟩
  have HR1 := Aside0.mk (HR0.out.next hb1)
  obtain ⟨c0, c1, f0, f1⟩ := pair_facts HR1.out.pr
  obtain ⟨r1, r2, er, hr⟩ := ratO_rat (Ref.rgridP true (rvalB s t) p)
  have HR := Aside0.mk hr
  rw [hr]
  unfold ratV
  clear hb1 hr
  go_wp2_with fail
  have HR5 := Aside0.mk (HR1.out.set r1 r2)
  refine bodyPost_ret (results_list (rs := [.cell _ _, .tmp _]) rfl (by simp) (.cell (w.heap.size + 1) 23 _ (0, 0) _ rfl HR5.out.pr Tryz.underlying23 rfl (by kernel_rfl) (.tmp .nil))) rfl ?_
  exact ⟨by rw [HR.out]; rfl, HR5.out.bl⟩

end Go.Proofs.YtnhjidbjibehpaaGreatDoor.L4

/- Layer 4, walked: Print, Parse. -/
namespace Go.Proofs.YtnhjidbjibehpaaGreatDoor.L4
open Go.Shelf Go.RowKit Go.Proofs.YtnhjidbjibehpaaGreatDoorW.PrintWords Go.Proofs.YtnhjidbjibehpaaGreatDoorW.PrintLast Go.Proofs.YtnhjidbjibehpaaGreatDoorW.PrintMore Yd L3
set_option linter.unusedVariables false
set_option linter.unusedSimpArgs false
attribute [local go_sem ↓] Go.wp_at_zero Go.wp_at_succ

theorem cut_cutS : ∀ l : List UInt8, Lib.cut l [47] = ((cutS l).1, (cutS l).2.getD [], (cutS l).2.isSome)
  | [] => by unfold Lib.cut Lib.index; rfl
  | b :: l => by
    have ih := cut_cutS l
    by_cases hb : b = 47
    · subst hb
      unfold Lib.cut Lib.index cutS
      rw [if_pos rfl]; simp
    · have hp : ([47] : List UInt8).isPrefixOf (b :: l) = false := by
        simp [List.isPrefixOf]; exact fun h => hb h.symm
      have hi : Lib.index (b :: l) [47] = if Lib.index l [47] == -1 then -1 else Lib.index l [47] + 1 := by
        rw [Lib.index, hp]; rfl
      have hge := Lib.index_ge l [47]
      rw [cutS, if_neg hb]
      unfold Lib.cut at ih ⊢
      rw [hi]
      by_cases h1 : Lib.index l [47] = -1
      · rw [h1] at ih ⊢
        simp only [show ¬ (0 ≤ (-1 : Int)) by omega, if_false, beq_self_eq_true, if_true] at ih ⊢
        simp only [Prod.mk.injEq] at ih ⊢
        exact ⟨by rw [← ih.1], ih.2.1, ih.2.2⟩
      · have h0 : 0 ≤ Lib.index l [47] := by omega
        have hb1 : (Lib.index l [47] == -1) = false := by simpa using h1
        rw [if_pos h0] at ih
        simp only [hb1, Bool.false_eq_true, if_false, if_pos (show 0 ≤ Lib.index l [47] + 1 by omega)]
        simp only [Prod.mk.injEq] at ih ⊢
        rw [show (Lib.index l [47] + 1).toNat = (Lib.index l [47]).toNat + 1 by omega]
        refine ⟨by rw [List.take_succ_cons, ih.1], ?_, ih.2.2⟩
        rw [← ih.2.1, show (Lib.index l [47]).toNat + 1 + ([47] : List UInt8).length = ((Lib.index l [47]).toNat + ([47] : List UInt8).length) + 1 by omega, List.drop_succ_cons]

/-- a box -/
structure R1 (w W : World) (s t : ByteArray) : Prop where
  bl : Below w.heap.size w W
  pa : W.heap[w.heap.size]? = some (.cells #[.string s, .string t] 23)
theorem R1.next {w W W' : World} {s t : ByteArray} (h : R1 w W s t) (hb : Below W.heap.size W W') : R1 w W' s t := ⟨h.bl.trans (hb.mono h.bl.size), (hb.block _ (blk_lt h.pa)).trans h.pa⟩
theorem R1.start (w : World) (s t : ByteArray) : R1 w (w.alloc (.cells #[.string s, .string t] 23)) s t := ⟨below_alloc (Below.refl _ w) _, alloc_here w _⟩
theorem join2 (a b : List UInt8) : Lib.join [a, b] [47] = a ++ 47 :: b := by unfold Lib.join; simp
theorem tx_size {x : Int} (h : x.natAbs < DL) : (tx x).size ≤ 201 := Ref.itx_size h

set_option maxRecDepth 100000 in
set_option maxHeartbeats 4000000 in
/-- Print -/
theorem rprint_calls (s t : ByteArray) (w : World) (hT : Tab w) :
    Calls Tryz.prog 14 #[.agg #[.string s, .string t]] w fun e w' => e = .returned (.string (Ref.strL (rprintO (rvalB s t)))) ∧ Below w.heap.size w w' := by
  obtain ⟨res, hres⟩ : ∃ res, Ref.strL (rprintO (rvalB s t)) = res := ⟨_, rfl⟩
  rw [hres]
  have HRES := Aside0.mk hres
  clear hres
  have HT := Aside0.mk hT
  clear hT
  go_enter Tryz.func14, Tryz.ntmps14
  go_wp2_with fail
  have HR0 := Aside0.mk (R1.start w s t)
  generalize w.alloc (.cells #[.string s, .string t] 23) = W0 at *
  obtain ⟨c0, c1, f0, f1⟩ := pair_facts HR0.out.pa
  refine (rvalid_calls s t _ (tabB HT.out HR0.out.bl)).mono ?_
  rintro e w1 ⟨rfl, hb1⟩
  have HR1 := Aside0.mk (HR0.out.next hb1)
  obtain ⟨c0, c1, f0, f1⟩ := pair_facts HR1.out.pa
  clear hb1 HR0
  rw [rvalid_rval]
  cases hv : rval s.data.toList t.data.toList with
  | none =>
    simp only [Option.isSome_none]
    have HE : Aside0 (res = ⟨#[]⟩) := ⟨by rw [← HRES.out, show rvalB s t = none from hv]; rfl⟩
    clear hv
    go_wp2_with fail
    go_ret
    exact ⟨by rw [HE.out]; rfl, HR1.out.bl⟩
  | some r =>
    simp only [Option.isSome_some]
    have hv' : rvalB s t = some r := hv
    obtain ⟨rfl, rfl, hr⟩ := rvalB_eq hv'
    have HR := Aside0.mk hr
    have HE : Aside0 (res = Ref.strL (rprint r)) := ⟨by rw [← HRES.out, hv']; rfl⟩
    have h1 : ((tx (r.den : Int)).toList == [49]) = decide (r.den = 1) := by
      rw [tx_list, Bool.eq_iff_iff, beq_iff_eq, decide_eq_true_iff, itoa_1_iff]; omega
    have HN := Aside0.mk (show (tx r.num).size ≤ 201 from tx_size hr.1)
    have HD := Aside0.mk (show (tx (r.den : Int)).size ≤ 201 from tx_size (den_lt hr))
    have HJ : Aside0 ((⟨(Lib.join ([tx r.num, tx r.den].map (·.data.toList)) (⟨#[47]⟩ : ByteArray).data.toList).toArray⟩ : ByteArray) = Ref.strL (Lib.itoa r.num ++ 47 :: Lib.itoa r.den)) := ⟨by
      show (⟨(Lib.join [(tx r.num).data.toList, (tx r.den).data.toList] [47]).toArray⟩ : ByteArray) = _
      rw [join2, tx_data, tx_data]; rfl⟩
    clear hv hv' hr HRES
    by_cases hd : r.den = 1
    · rw [decide_eq_true hd] at h1
      have HE2 : Aside0 (res = tx r.num) := ⟨by rw [HE.out]; unfold rprint; rw [if_pos hd]; rfl⟩
      generalize tx (r.den : Int) = td at *
      clear hd
      go_wp2_with fail
      go_ret
      exact ⟨by rw [HE2.out]; rfl, HR1.out.bl⟩
    · rw [decide_eq_false hd] at h1
      have HE2 : Aside0 (res = Ref.strL (Lib.itoa r.num ++ 47 :: Lib.itoa r.den)) := ⟨by rw [HE.out]; unfold rprint; rw [if_neg hd]⟩
      have HJL : Aside0 ((Lib.join ([tx r.num, tx r.den].map (·.data.toList)) (⟨#[47]⟩ : ByteArray).data.toList).length ≤ 1000) := ⟨by
        have e := congrArg (fun b : ByteArray => b.data.toList.length) HJ.out
        simp only [Ref.strL_data] at e
        have e1 := HN.out
        have e2 := HD.out
        rw [Ref.size_len, tx_data] at e1 e2
        have e3 : (Lib.itoa r.num ++ 47 :: Lib.itoa r.den).length = (Lib.itoa r.num).length + ((Lib.itoa r.den).length + 1) := by simp
        show (Lib.join ([tx r.num, tx r.den].map (·.data.toList)) (⟨#[47]⟩ : ByteArray).data.toList).length ≤ 1000
        have e4 : (⟨(Lib.join ([tx r.num, tx r.den].map (·.data.toList)) (⟨#[47]⟩ : ByteArray).data.toList).toArray⟩ : ByteArray).data.toList.length = (Lib.join ([tx r.num, tx r.den].map (·.data.toList)) (⟨#[47]⟩ : ByteArray).data.toList).length := by simp
        rw [← e4, e, e3]; omega⟩
      generalize tx r.num = tn at *
      generalize tx (r.den : Int) = td at *
      clear hd
      go_wp2_with fail
      have hl := alloc_here w1 (.cells #[.string tn, .string td] 9)
      have HB2 := Aside0.mk (HR1.out.next (below_alloc (Below.refl _ w1) (.cells #[.string tn, .string td] 9)))
      refine (Tryz.strings_Join w1.heap.size 0 2 [tn, td] ⟨#[47]⟩ _ (fun j x hx => by
        match j, hx with
        | 0, hx => injection hx with hx; subst hx; exact blk_cell hl 0
        | 1, hx => injection hx with hx; subst hx; exact blk_cell hl 1
        | j + 2, hx => cases hx) (blk_lt hl) (by simp) (by simp) (Nat.le_trans HJL.out (by omega))).mono ?_
      rintro e w2 ⟨rfl, hb2⟩
      have HB3 := Aside0.mk (HB2.out.next hb2)
      rw [HJ.out]
      clear hb2 hl
      rw [← HE2.out]
      go_wp2_with fail
      go_ret
      exact ⟨rfl, HB3.out.bl⟩

/-- the world's first variable (the length from which the runtime searches otherwise) -/
def Mx (w : World) : Prop := 0 < w.heap.size ∧ ∃ m, w.cell? ⟨0, 0, none⟩ = some (.int .i64 m)
theorem Mx.below {w w' : World} (h : Mx w) (hb : Below w.heap.size w w') : Mx w' := by
  obtain ⟨h0, m, hm⟩ := h
  exact ⟨Nat.lt_of_lt_of_le h0 hb.size, m, (hb.cell (p := ⟨0, 0, none⟩) h0).trans hm⟩
/-- what Parse returns -/
theorem rprint_ne (r : Rat) : rprint r ≠ [] := by
  unfold rprint
  split
  · exact itoa_ne _
  · simp
theorem R2.setb0 {w W : World} {s1 t1 s2 t2 : ByteArray} (h : R2 w W s1 t1 s2 t2) (a : ByteArray) : R2 w (W.setCell ⟨w.heap.size + 1, 0, none⟩ (.string a)) s1 t1 a t2 :=
  ⟨h.bl.setCell (p := ⟨w.heap.size + 1, 0, none⟩) (by show _ ≤ w.heap.size + 1; omega) _, (Below.heap_setCell _ ⟨w.heap.size + 1, 0, none⟩ _ _ (by show w.heap.size ≠ w.heap.size + 1; omega)).trans h.pa, blk_set h.pb 0 _⟩
theorem R2.setb1 {w W : World} {s1 t1 s2 t2 : ByteArray} (h : R2 w W s1 t1 s2 t2) (a : ByteArray) : R2 w (W.setCell ⟨w.heap.size + 1, 1, none⟩ (.string a)) s1 t1 s2 a :=
  ⟨h.bl.setCell (p := ⟨w.heap.size + 1, 1, none⟩) (by show _ ≤ w.heap.size + 1; omega) _, (Below.heap_setCell _ ⟨w.heap.size + 1, 1, none⟩ _ _ (by show w.heap.size ≠ w.heap.size + 1; omega)).trans h.pa, blk_set h.pb 1 _⟩
theorem R2.seta {w W : World} {s1 t1 s2 t2 : ByteArray} (h : R2 w W s1 t1 s2 t2) (a b : ByteArray) : R2 w ((W.setCell ⟨w.heap.size, 0, none⟩ (.string a)).setCell ⟨w.heap.size, 1, none⟩ (.string b)) a b s2 t2 :=
  ⟨(h.bl.setCell (p := ⟨w.heap.size, 0, none⟩) (Nat.le_refl _) _).setCell (p := ⟨w.heap.size, 1, none⟩) (Nat.le_refl _) _, blk_set (blk_set h.pa 0 (.string a)) 1 _,
    ((Below.heap_setCell _ ⟨w.heap.size, 1, none⟩ _ _ (by show w.heap.size + 1 ≠ w.heap.size; omega)).trans (Below.heap_setCell _ ⟨w.heap.size, 0, none⟩ _ _ (by show w.heap.size + 1 ≠ w.heap.size; omega))).trans h.pb⟩
theorem rparse_eq (l : List UInt8) : rparse l = match rval (cutS l).1 ((cutS l).2.getD [49]) with
    | some r => if rprint r = l then some r else none
    | none => none := rfl

theorem parse_bad {s a d pr : ByteArray} {res : Value} (h : ratO (rparse s.data.toList) = res) (hc : rvalB a d = rval (cutS s.data.toList).1 ((cutS s.data.toList).2.getD [49])) (hp : Ref.strL (rprintO (rvalB a d)) = pr)
    (hb : pr.toList ≠ s.toList ∨ s.toList = []) : res = badR := by
  rw [← h, rparse_eq, ← hc]
  cases hv : rvalB a d with
  | none => rfl
  | some r =>
    simp only []
    rw [if_neg]
    · rfl
    · intro he
      rw [hv] at hp
      have hp' : pr.toList = rprint r := by rw [← hp, Ref.tl_data, Ref.strL_data]; rfl
      rcases hb with hb | hb
      · exact hb (by rw [hp', he, Ref.tl_data])
      · rw [Ref.tl_data] at hb
        exact rprint_ne r (he.trans hb)
theorem parse_good {s a d pr : ByteArray} {res : Value} (h : ratO (rparse s.data.toList) = res) (hc : rvalB a d = rval (cutS s.data.toList).1 ((cutS s.data.toList).2.getD [49])) (hp : Ref.strL (rprintO (rvalB a d)) = pr)
    (h1 : pr.toList = s.toList) (h2 : s.toList ≠ []) : res = ratV a d 0 := by
  rw [← h, rparse_eq, ← hc]
  cases hv : rvalB a d with
  | none =>
    exfalso
    rw [hv] at hp
    apply h2
    rw [← h1, ← hp, Ref.tl_data, Ref.strL_data]; rfl
  | some r =>
    rw [hv] at hp
    have hp' : pr.toList = rprint r := by rw [← hp, Ref.tl_data, Ref.strL_data]; rfl
    simp only []
    rw [if_pos (by rw [← hp', h1, Ref.tl_data])]
    obtain ⟨rfl, rfl, _⟩ := rvalB_eq hv
    rfl

set_option maxRecDepth 100000 in
set_option maxHeartbeats 4000000 in
/-- Parse -/
theorem rparse_calls (s : ByteArray) (w : World) (hT : Tab w) (hM : Mx w) (hs : s.size < 4294967281) :
    Calls Tryz.prog 15 #[.string s] w fun e w' => e = .returned (ratO (rparse s.data.toList)) ∧ Below w.heap.size w w' := by
  have HT := Aside0.mk hT
  have HM := Aside0.mk hM
  have HS := Aside0.mk hs
  obtain ⟨res, hres⟩ : ∃ res, ratO (rparse s.data.toList) = res := ⟨_, rfl⟩
  rw [hres]
  have HRES := Aside0.mk hres
  clear hT hM hs hres
  go_enter Tryz.func15, Tryz.ntmps15
  go_wp2_with fail
  have HR0 := Aside0.mk (R2.start w ⟨#[]⟩ ⟨#[]⟩ ⟨#[]⟩ ⟨#[49]⟩)
  generalize ((w.alloc (.cells #[.string ⟨#[]⟩, .string ⟨#[]⟩] 23)).alloc (.cells #[.string ⟨#[]⟩, .string ⟨#[49]⟩] 23)) = W0 at *
  obtain ⟨h00, m, hm⟩ := HM.out.below HR0.out.bl
  refine (Tryz.strings_Cut s ⟨#[47]⟩ m _ HS.out hm).mono ?_
  rintro e w1 ⟨rfl, nq, rfl⟩
  have hr1 := HR0.out.next (pw_below_drewN (Below.refl _ W0) nq)
  generalize W0.drewN nq = W1 at *
  have HR1 := Aside0.mk hr1
  obtain ⟨c0, c1, f0, f1⟩ := pair_facts hr1.pa
  obtain ⟨d0, d1, g0, g1⟩ := pair_facts hr1.pb
  rw [show (⟨#[47]⟩ : ByteArray).data.toList = [47] from rfl, cut_cutS]
  obtain ⟨a, ha⟩ : ∃ a : ByteArray, (⟨(cutS s.data.toList).1.toArray⟩ : ByteArray) = a := ⟨_, rfl⟩
  have HA := Aside0.mk ha
  clear hm hr1 h00 HR0
  simp only [] at ha ⊢
  rw [ha]
  clear ha
  cases hc : (cutS s.data.toList).2 with
  | none =>
    have HC : Aside0 (rvalB a ⟨#[49]⟩ = rval (cutS s.data.toList).1 ((cutS s.data.toList).2.getD [49])) := ⟨by rw [hc, ← HA.out]; unfold rvalB; simp⟩
    simp only [Option.isSome_none, Option.getD_none]
    clear hc HA
    go_wp2_with fail
    have HR3 := Aside0.mk (HR1.out.setb0 a)
    refine (rprint_calls a ⟨#[49]⟩ _ (tabB HT.out HR3.out.bl)).mono ?_
    rintro e w4 ⟨rfl, hb4⟩
    have hr4 := HR3.out.next hb4
    have HR4 := Aside0.mk hr4
    obtain ⟨c0, c1, f0, f1⟩ := pair_facts hr4.pa
    obtain ⟨d0, d1, g0, g1⟩ := pair_facts hr4.pb
    obtain ⟨pr, hpr⟩ : ∃ pr, Ref.strL (rprintO (rvalB a ⟨#[49]⟩)) = pr := ⟨_, rfl⟩
    rw [hpr]
    have HPR := Aside0.mk hpr
    clear hb4 hr4 hpr
    by_cases h1 : pr.toList = s.toList
    · have e1 : (pr.toList != s.toList) = false := by rw [h1]; simp
      have e1' : (pr.toList == s.toList) = true := by rw [h1]; simp
      by_cases h2 : s.toList = []
      · have e2 : (s.toList == []) = true := by rw [h2]; rfl
        have e2' : s.toList.isEmpty = true := by rw [h2]; rfl
        have HX := Aside0.mk (parse_bad HRES.out HC.out HPR.out (.inr h2))
        clear h1 h2
        go_wp2_with fail
        have HR5 := Aside0.mk (HR4.out.seta ⟨#[]⟩ ⟨#[]⟩)
        refine bodyPost_ret (results_list (rs := [.cell _ _, .tmp _]) rfl (by simp) (.cell w.heap.size 23 _ (0, 0) _ rfl HR5.out.pa Tryz.underlying23 rfl (by kernel_rfl) (.tmp .nil))) rfl ?_
        exact ⟨by rw [HX.out]; rfl, HR5.out.bl⟩
      · have e2 : (s.toList == []) = false := by simpa using h2
        have e2' : s.toList.isEmpty = false := by simpa using h2
        have HX := Aside0.mk (parse_good HRES.out HC.out HPR.out h1 h2)
        clear h1 h2
        go_wp2_with fail
        have HR5 := Aside0.mk (HR4.out.seta a ⟨#[49]⟩)
        refine bodyPost_ret (results_list (rs := [.cell _ _, .tmp _]) rfl (by simp) (.cell w.heap.size 23 _ (0, 0) _ rfl HR5.out.pa Tryz.underlying23 rfl (by kernel_rfl) (.tmp .nil))) rfl ?_
        exact ⟨by rw [HX.out]; rfl, HR5.out.bl⟩
    · have e1 : (pr.toList != s.toList) = true := by simpa using h1
      have e1' : (pr.toList == s.toList) = false := by simpa using h1
      have HX := Aside0.mk (parse_bad HRES.out HC.out HPR.out (.inl h1))
      clear h1
      go_wp2_with fail
      have HR5 := Aside0.mk (HR4.out.seta ⟨#[]⟩ ⟨#[]⟩)
      refine bodyPost_ret (results_list (rs := [.cell _ _, .tmp _]) rfl (by simp) (.cell w.heap.size 23 _ (0, 0) _ rfl HR5.out.pa Tryz.underlying23 rfl (by kernel_rfl) (.tmp .nil))) rfl ?_
      exact ⟨by rw [HX.out]; rfl, HR5.out.bl⟩
  | some d0' =>
    obtain ⟨d, hd⟩ : ∃ d : ByteArray, (⟨d0'.toArray⟩ : ByteArray) = d := ⟨_, rfl⟩
    have HC : Aside0 (rvalB a d = rval (cutS s.data.toList).1 ((cutS s.data.toList).2.getD [49])) := ⟨by rw [hc, ← HA.out, ← hd]; unfold rvalB; simp⟩
    simp only [Option.isSome_some, Option.getD_some]
    rw [hd]
    clear hc HA hd
    go_wp2_with fail
    have HR3 := Aside0.mk ((HR1.out.setb0 a).setb1 d)
    refine (rprint_calls a d _ (tabB HT.out HR3.out.bl)).mono ?_
    rintro e w4 ⟨rfl, hb4⟩
    have hr4 := HR3.out.next hb4
    have HR4 := Aside0.mk hr4
    obtain ⟨c0, c1, f0, f1⟩ := pair_facts hr4.pa
    obtain ⟨d0, d1, g0, g1⟩ := pair_facts hr4.pb
    obtain ⟨pr, hpr⟩ : ∃ pr, Ref.strL (rprintO (rvalB a d)) = pr := ⟨_, rfl⟩
    rw [hpr]
    have HPR := Aside0.mk hpr
    clear hb4 hr4 hpr
    by_cases h1 : pr.toList = s.toList
    · have e1 : (pr.toList != s.toList) = false := by rw [h1]; simp
      have e1' : (pr.toList == s.toList) = true := by rw [h1]; simp
      by_cases h2 : s.toList = []
      · have e2 : (s.toList == []) = true := by rw [h2]; rfl
        have e2' : s.toList.isEmpty = true := by rw [h2]; rfl
        have HX := Aside0.mk (parse_bad HRES.out HC.out HPR.out (.inr h2))
        clear h1 h2
        go_wp2_with fail
        have HR5 := Aside0.mk (HR4.out.seta ⟨#[]⟩ ⟨#[]⟩)
        refine bodyPost_ret (results_list (rs := [.cell _ _, .tmp _]) rfl (by simp) (.cell w.heap.size 23 _ (0, 0) _ rfl HR5.out.pa Tryz.underlying23 rfl (by kernel_rfl) (.tmp .nil))) rfl ?_
        exact ⟨by rw [HX.out]; rfl, HR5.out.bl⟩
      · have e2 : (s.toList == []) = false := by simpa using h2
        have e2' : s.toList.isEmpty = false := by simpa using h2
        have HX := Aside0.mk (parse_good HRES.out HC.out HPR.out h1 h2)
        clear h1 h2
        go_wp2_with fail
        have HR5 := Aside0.mk (HR4.out.seta a d)
        refine bodyPost_ret (results_list (rs := [.cell _ _, .tmp _]) rfl (by simp) (.cell w.heap.size 23 _ (0, 0) _ rfl HR5.out.pa Tryz.underlying23 rfl (by kernel_rfl) (.tmp .nil))) rfl ?_
        exact ⟨by rw [HX.out]; rfl, HR5.out.bl⟩
    · have e1 : (pr.toList != s.toList) = true := by simpa using h1
      have e1' : (pr.toList == s.toList) = false := by simpa using h1
      have HX := Aside0.mk (parse_bad HRES.out HC.out HPR.out (.inl h1))
      clear h1
      go_wp2_with fail
      have HR5 := Aside0.mk (HR4.out.seta ⟨#[]⟩ ⟨#[]⟩)
      refine bodyPost_ret (results_list (rs := [.cell _ _, .tmp _]) rfl (by simp) (.cell w.heap.size 23 _ (0, 0) _ rfl HR5.out.pa Tryz.underlying23 rfl (by kernel_rfl) (.tmp .nil))) rfl ?_
      exact ⟨by rw [HX.out]; rfl, HR5.out.bl⟩

end Go.Proofs.YtnhjidbjibehpaaGreatDoor.L4

/- Layer 4: the contracts of the program's functions and of the reference's, in rational numbers. -/
namespace Go.Proofs.YtnhjidbjibehpaaGreatDoor.L4
open Go.Shelf Go.RowKit Go.Proofs.YtnhjidbjibehpaaGreatDoorW.PrintWords Go.Proofs.YtnhjidbjibehpaaGreatDoorW.PrintLast Go.Proofs.YtnhjidbjibehpaaGreatDoorW.PrintMore Yd L3
set_option linter.unusedVariables false
set_option linter.unusedSimpArgs false

/-- what the laws need of the world -/
structure Env (w : World) : Prop where
  tab : Tab w
  mx : Mx w
theorem Env.below {w W : World} (h : Env w) (hb : Below w.heap.size w W) : Env W := ⟨tabB h.tab hb, h.mx.below hb⟩
theorem p_add (s1 t1 s2 t2 : ByteArray) (w : World) (hT : Env w) :
    Calls Tryz.prog 27 #[.agg #[.string s1, .string t1], .agg #[.string s2, .string t2]] w fun e w' => e = .returned (ratO (rbin radd (rvalB s1 t1) (rvalB s2 t2))) ∧ Below w.heap.size w w' := by
  rw [← raddV_eq]; exact radd_calls s1 t1 s2 t2 w hT.tab
theorem p_sub (s1 t1 s2 t2 : ByteArray) (w : World) (hT : Env w) :
    Calls Tryz.prog 44 #[.agg #[.string s1, .string t1], .agg #[.string s2, .string t2]] w fun e w' => e = .returned (ratO (rbin rsub (rvalB s1 t1) (rvalB s2 t2))) ∧ Below w.heap.size w w' := by
  rw [← rsubV_eq]; exact rsub_calls s1 t1 s2 t2 w hT.tab
theorem p_mul (s1 t1 s2 t2 : ByteArray) (w : World) (hT : Env w) :
    Calls Tryz.prog 25 #[.agg #[.string s1, .string t1], .agg #[.string s2, .string t2]] w fun e w' => e = .returned (ratO (rbin rmul (rvalB s1 t1) (rvalB s2 t2))) ∧ Below w.heap.size w w' := by
  rw [← rmulV_eq]; exact rmul_calls s1 t1 s2 t2 w hT.tab
theorem p_div (s1 t1 s2 t2 : ByteArray) (w : World) (hT : Env w) :
    Calls Tryz.prog 26 #[.agg #[.string s1, .string t1], .agg #[.string s2, .string t2]] w fun e w' => e = .returned (ratO (rbin rdiv (rvalB s1 t1) (rvalB s2 t2))) ∧ Below w.heap.size w w' := by
  rw [← rdivV_eq]; exact rdiv_calls s1 t1 s2 t2 w hT.tab
theorem p_cmp (s1 t1 s2 t2 : ByteArray) (w : World) (hT : Env w) :
    Calls Tryz.prog 23 #[.agg #[.string s1, .string t1], .agg #[.string s2, .string t2]] w fun e w' => e = .returned (.int .i64 (rcmpO (rvalB s1 t1) (rvalB s2 t2))) ∧ Below w.heap.size w w' := rcompare_calls s1 t1 s2 t2 w hT.tab
theorem p_valid (s t : ByteArray) (w : World) (hT : Env w) :
    Calls Tryz.prog 17 #[.agg #[.string s, .string t]] w fun e w' => e = .returned (.bool (rvalB s t).isSome) ∧ Below w.heap.size w w' := by
  have := rvalid_calls s t w hT.tab
  rw [rvalid_rval] at this; exact this
theorem p_make (s t : ByteArray) (w : World) (hT : Env w) :
    Calls Tryz.prog 22 #[.string s, .string t] w fun e w' => e = .returned (ratO (mkO s.data.toList t.data.toList)) ∧ Below w.heap.size w w' := by
  rw [← mkT_ratO]; exact make_calls s t w hT.tab
theorem p_of (x y : Int) (w : World) (hT : Env w) (hx0 : -9223372036854775808 ≤ x) (hx1 : x ≤ 9223372036854775807) (hy0 : -9223372036854775808 ≤ y) (hy1 : y ≤ 9223372036854775807) :
    Calls Tryz.prog 41 #[.int .i64 x, .int .i64 y] w fun e w' => e = .returned (ratO (mk2 x y)) ∧ Below w.heap.size w w' := by
  rw [← mkV_ratO]; exact of_calls x y w hT.tab hx0 hx1 hy0 hy1
theorem p_down (s t : ByteArray) (p : Int) (w : World) (hT : Env w) :
    Calls Tryz.prog 35 #[.agg #[.string s, .string t], .int .i64 p] w fun e w' => e = .returned (ratO (Ref.rgridP false (rvalB s t) p)) ∧ Below w.heap.size w w' := rdown_calls s t p w hT.tab
theorem p_up (s t : ByteArray) (p : Int) (w : World) (hT : Env w) :
    Calls Tryz.prog 37 #[.agg #[.string s, .string t], .int .i64 p] w fun e w' => e = .returned (ratO (Ref.rgridP true (rvalB s t) p)) ∧ Below w.heap.size w w' := rup_calls s t p w hT.tab
theorem p_print (s t : ByteArray) (w : World) (hT : Env w) :
    Calls Tryz.prog 14 #[.agg #[.string s, .string t]] w fun e w' => e = .returned (.string (Ref.strL (rprintO (rvalB s t)))) ∧ Below w.heap.size w w' := rprint_calls s t w hT.tab
theorem p_parse (s : ByteArray) (w : World) (hT : Env w) (hs : s.size < 4294967281) :
    Calls Tryz.prog 15 #[.string s] w fun e w' => e = .returned (ratO (rparse s.data.toList)) ∧ Below w.heap.size w w' := rparse_calls s w hT.tab hT.mx hs
theorem p_is (s t : ByteArray) (w : World) :
    Calls Tryz.prog 24 #[.string s, .string t] w fun e w' => e = .returned (.agg #[.string s, .string t]) ∧ Below w.heap.size w w' := Ref.yardsticklaw04_is.calls s t s t w rfl
/-- pick -/
def pk (c n : Int) : Int := if c < 0 then (-(c + 1)) % n else c % n
theorem pk_range (c : Int) {n : Int} (h : 0 < n) : 0 ≤ pk c n ∧ pk c n < n := by
  unfold pk
  split
  · exact ⟨Int.emod_nonneg _ (by omega), Int.emod_lt_of_pos _ h⟩
  · exact ⟨Int.emod_nonneg _ (by omega), Int.emod_lt_of_pos _ h⟩
theorem pick_some {c n : Int} (h0 : -9223372036854775808 ≤ c) (h1 : c ≤ 9223372036854775807) (hn : 0 < n) :
    (if c < 0 then (if n = 0 then (none : Option Int) else some (Int.tmod (wrap64 (-(wrap64 (c + 1)))) n)) else if n = 0 then none else some (Int.tmod c n)) = some (pk c n) := by
  unfold pk
  have h0' : ¬ n = 0 := by omega
  by_cases hc : c < 0
  · rw [if_pos hc, if_pos hc, if_neg h0', Ref.w64 (x := c + 1) (by omega) (by omega), Ref.w64 (by omega) (by omega), Int.tmod_eq_emod_of_nonneg (by omega)]
  · rw [if_neg hc, if_neg hc, if_neg h0', Int.tmod_eq_emod_of_nonneg (by omega)]
theorem p_pick (c n : Int) (w : World) (h0 : -9223372036854775808 ≤ c) (h1 : c ≤ 9223372036854775807) (hn : 0 < n) :
    Calls Tryz.prog 18 #[.int .i64 c, .int .i64 n] w fun e w' => e = .returned (.int .i64 (pk c n)) ∧ Below w.heap.size w w' :=
  (Ref.yardsticklaw04_pick.calls c n (pk c n) w (pick_some h0 h1 hn)).mono fun _ _ ⟨a, b⟩ => ⟨a, b.below⟩
theorem q_pick (c n : Int) (w : World) (h0 : -9223372036854775808 ≤ c) (h1 : c ≤ 9223372036854775807) (hn : 0 < n) :
    Calls Tryz.prog 46 #[.int .i64 c, .int .i64 n] w fun e w' => e = .returned (.int .i64 (pk c n)) ∧ Below w.heap.size w w' :=
  (Ref.yardstickref04_pick.calls c n (pk c n) w (pick_some h0 h1 hn)).mono fun _ _ ⟨a, b⟩ => ⟨a, b.below⟩

end Go.Proofs.YtnhjidbjibehpaaGreatDoor.L4

/- Blocks that are known. -/
namespace Go.Proofs.YtnhjidbjibehpaaGreatDoor.L4
open Go.Shelf Go.RowKit Go.Proofs.YtnhjidbjibehpaaGreatDoorW.PrintWords Go.Proofs.YtnhjidbjibehpaaGreatDoorW.PrintLast Go.Proofs.YtnhjidbjibehpaaGreatDoorW.PrintMore Yd L3
set_option linter.unusedVariables false
set_option linter.unusedSimpArgs false
attribute [local go_sem ↓] Go.wp_at_zero Go.wp_at_succ

/-- what lies in the world's blocks -/
structure Hp (l : List (Nat × Obj)) (w W : World) : Prop where
  bl : Below w.heap.size w W
  bx : ∀ x ∈ l, W.heap[x.1]? = some x.2
theorem obj_lt {W : World} {b : Nat} {o : Obj} (h : W.heap[b]? = some o) : b < W.heap.size := by
  rcases Nat.lt_or_ge b W.heap.size with h' | h'
  · exact h'
  · rw [Array.getElem?_eq_none h'] at h; cases h
theorem Hp.nil (w : World) : Hp [] w w := ⟨Below.refl _ w, fun _ h => by cases h⟩
theorem Hp.next {l : List (Nat × Obj)} {w W W' : World} (h : Hp l w W) (hb : Below W.heap.size W W') : Hp l w W' :=
  ⟨h.bl.trans (hb.mono h.bl.size), fun x hx => (hb.block _ (obj_lt (h.bx x hx))).trans (h.bx x hx)⟩
theorem Hp.push {l : List (Nat × Obj)} {w W : World} (h : Hp l w W) (o : Obj) : Hp ((W.heap.size, o) :: l) w (W.alloc o) := by
  refine ⟨(h.next (below_alloc (Below.refl _ W) _)).bl, fun x hx => ?_⟩
  rcases List.mem_cons.1 hx with rfl | hx
  · exact alloc_here W _
  · exact (h.next (below_alloc (Below.refl _ W) _)).bx x hx
theorem Hp.env {l : List (Nat × Obj)} {w W : World} (h : Hp l w W) (he : Env w) : Env W := he.below h.bl
theorem Hp.tail {x : Nat × Obj} {l : List (Nat × Obj)} {w W : World} (h : Hp (x :: l) w W) : Hp l w W := ⟨h.bl, fun y hy => h.bx y (List.mem_cons_of_mem _ hy)⟩
theorem Hp.head {x : Nat × Obj} {l : List (Nat × Obj)} {w W : World} (h : Hp (x :: l) w W) : W.heap[x.1]? = some x.2 := h.bx x (List.mem_cons_self ..)
theorem Hp.sub {l l' : List (Nat × Obj)} {w W : World} (h : Hp l w W) (hs : ∀ x ∈ l', x ∈ l) : Hp l' w W := ⟨h.bl, fun y hy => h.bx y (hs y hy)⟩
theorem Hp.apart {l : List (Nat × Obj)} {w W : World} (h : Hp l w W) : w.heap.size ≤ W.heap.size ∧ ∀ x ∈ l, x.1 ≠ W.heap.size := ⟨h.bl.size, fun x hx => Nat.ne_of_lt (obj_lt (h.bx x hx))⟩
/-- a cell of the first block written -/
theorem Hp.put {a : Nat} {cs : Array Value} {T : TypeId} {l : List (Nat × Obj)} {w W : World} (h : Hp ((a, .cells cs T) :: l) w W) (ha : w.heap.size ≤ a ∧ ∀ x ∈ l, x.1 ≠ a) (i : Nat) (v : Value) : Hp ((a, .cells (cs.setIfInBounds i v) T) :: l) w (W.setCell ⟨a, i, none⟩ v) := by
  refine ⟨h.bl.setCell (p := ⟨a, i, none⟩) ha.1 _, fun x hx => ?_⟩
  rcases List.mem_cons.1 hx with rfl | hx
  · exact blk_set h.head i v
  · exact (Below.heap_setCell _ ⟨a, i, none⟩ _ _ (ha.2 x hx)).trans (h.bx x (List.mem_cons_of_mem _ hx))
theorem sub2 {a b c : Nat × Obj} : ∀ x ∈ [a, b], x ∈ [a, b, c] := fun x hx => by
  simp only [List.mem_cons, List.mem_nil_iff, or_false] at hx ⊢
  rcases hx with h | h <;> simp [h]
/-- a fraction's block -/
abbrev Rb (s t : ByteArray) : Obj := .cells #[.string s, .string t] 23
abbrev Zb : Obj := Rb ⟨#[]⟩ ⟨#[]⟩

end Go.Proofs.YtnhjidbjibehpaaGreatDoor.L4

/- Layer 4: the laws' fixed examples, in numbers. -/
namespace Go.Proofs.YtnhjidbjibehpaaGreatDoor.L4
open Go.Shelf Go.RowKit Go.Proofs.YtnhjidbjibehpaaGreatDoorW.PrintWords Go.Proofs.YtnhjidbjibehpaaGreatDoorW.PrintLast Go.Proofs.YtnhjidbjibehpaaGreatDoorW.PrintMore Yd L3
set_option linter.unusedVariables false
set_option linter.unusedSimpArgs false

theorem ratO_lit {o : Option Rat} {r : Rat} {s t : ByteArray} {p q : Int} (h : o = some r) (hp : r.num = p) (hq : (r.den : Int) = q) (hs : Lib.itoa p = s.data.toList) (ht : Lib.itoa q = t.data.toList) : ratO o = ratV s t 0 := by
  have e1 : tx p = s := ba_ext (by rw [tx_data]; exact hs)
  have e2 : tx q = t := ba_ext (by rw [tx_data]; exact ht)
  rw [h, ratO_some, hp, hq, e1, e2]
theorem itoa_m3 : Lib.itoa (-3) = [45, 51] := by rw [itoa_neg (by omega), show (-3 : Int).natAbs = 3 from rfl, decDigits_small (by omega)]; rfl
theorem itoa_m2 : Lib.itoa (-2) = [45, 50] := by rw [itoa_neg (by omega), show (-2 : Int).natAbs = 2 from rfl, decDigits_small (by omega)]; rfl
theorem itoa_d {n : Nat} (h : n < 10) : Lib.itoa (n : Int) = [UInt8.ofNat (48 + n)] := by rw [itoa_pos (by omega), show ((n : Int)).natAbs = n by omega, decDigits_small h]
theorem itoa_2 : Lib.itoa 2 = [50] := itoa_d (n := 2) (by omega)
theorem itoa_5 : Lib.itoa 5 = [53] := itoa_d (n := 5) (by omega)
theorem itoa_6 : Lib.itoa 6 = [54] := itoa_d (n := 6) (by omega)
theorem itoa_17 : Lib.itoa 17 = [49, 55] := by rw [itoa_pos (by omega), show (17 : Int).natAbs = 17 from rfl, decDigits_big (by omega), show 17 / 10 = 1 from rfl, decDigits_small (by omega)]; rfl
theorem itoa_m17 : Lib.itoa (-17) = [45, 49, 55] := by rw [itoa_neg (by omega), show (-17 : Int).natAbs = 17 from rfl, decDigits_big (by omega), show 17 / 10 = 1 from rfl, decDigits_small (by omega)]; rfl
theorem itoa_50 : Lib.itoa 50 = [53, 48] := by rw [itoa_pos (by omega), show (50 : Int).natAbs = 50 from rfl, decDigits_big (by omega), show 50 / 10 = 5 from rfl, decDigits_small (by omega)]; rfl

theorem s_a : ratO (mk2 6 (-4)) = ratV ⟨#[45, 51]⟩ ⟨#[50]⟩ 0 := ratO_lit (r := Rat.divInt (-3) 2) (p := -3) (q := 2) (by kernel_rfl) (by kernel_rfl) (by kernel_rfl) itoa_m3 itoa_2
theorem s_b : ratO (mk2 0 (-5)) = ratV ⟨#[48]⟩ ⟨#[49]⟩ 0 := ratO_lit (r := 0) (p := 0) (q := 1) (by kernel_rfl) rfl rfl itoa_zero itoa_one
theorem s_g : ratO (mk2 1 0) = badR := rfl
theorem v_a : rvalB ⟨#[45, 51]⟩ ⟨#[50]⟩ = some (Rat.divInt (-3) 2) := by kernel_rfl
theorem v_b : rvalB ⟨#[48]⟩ ⟨#[49]⟩ = some 0 := by kernel_rfl
theorem s_c : ratO (rbin radd (rvalB ⟨#[49]⟩ ⟨#[50]⟩) (rvalB ⟨#[49]⟩ ⟨#[51]⟩)) = ratV ⟨#[53]⟩ ⟨#[54]⟩ 0 := ratO_lit (r := Rat.divInt 5 6) (p := 5) (q := 6) (by kernel_rfl) (by kernel_rfl) (by kernel_rfl) itoa_5 itoa_6
theorem s_d : ratO (rbin rdiv (rvalB ⟨#[49]⟩ ⟨#[50]⟩) (rvalB ⟨#[45, 49]⟩ ⟨#[52]⟩)) = ratV ⟨#[45, 50]⟩ ⟨#[49]⟩ 0 := ratO_lit (r := Rat.divInt (-2) 1) (p := -2) (q := 1) (by kernel_rfl) (by kernel_rfl) (by kernel_rfl) itoa_m2 itoa_one
theorem s_j : ratO (rbin rdiv (rvalB ⟨#[49]⟩ ⟨#[49]⟩) (rvalB ⟨#[48]⟩ ⟨#[49]⟩)) = badR := by
  have : rbin rdiv (rvalB ⟨#[49]⟩ ⟨#[49]⟩) (rvalB ⟨#[48]⟩ ⟨#[49]⟩) = none := by kernel_rfl
  rw [this]; rfl
theorem s_k : ratO (Ref.rgridP false (rvalB ⟨#[45, 49]⟩ ⟨#[51]⟩) 2) = ratV ⟨#[45, 49, 55]⟩ ⟨#[53, 48]⟩ 0 := ratO_lit (r := Rat.divInt (-17) 50) (p := -17) (q := 50) (by kernel_rfl) (by kernel_rfl) (by kernel_rfl) itoa_m17 itoa_50
theorem s_m : ratO (Ref.rgridP true (rvalB ⟨#[49]⟩ ⟨#[51]⟩) 2) = ratV ⟨#[49, 55]⟩ ⟨#[53, 48]⟩ 0 := ratO_lit (r := Rat.divInt 17 50) (p := 17) (q := 50) (by kernel_rfl) (by kernel_rfl) (by kernel_rfl) itoa_17 itoa_50
theorem rprint_a : rprint (Rat.divInt (-3) 2) = [45, 51, 47, 50] := by
  unfold rprint
  rw [show (Rat.divInt (-3) 2).den = 2 by kernel_rfl, show (Rat.divInt (-3) 2).num = -3 by kernel_rfl, if_neg (by omega), itoa_m3, show ((2 : Nat) : Int) = 2 from rfl, itoa_2]; rfl
theorem RL_a : RL (Rat.divInt (-3) 2) := of_decide_eq_true (by kernel_rfl)
theorem s_o : ratO (rparse (⟨#[45, 51, 47, 50]⟩ : ByteArray).data.toList) = ratV ⟨#[45, 51]⟩ ⟨#[50]⟩ 0 := by
  have h := rparse_print RL_a
  rw [rprint_a] at h
  exact ratO_lit (r := Rat.divInt (-3) 2) (p := -3) (q := 2) h (by kernel_rfl) (by kernel_rfl) itoa_m3 itoa_2
theorem s_q : ratO (rparse (⟨#[54, 47, 52]⟩ : ByteArray).data.toList) = badR := by
  have : rparse (⟨#[54, 47, 52]⟩ : ByteArray).data.toList = none := by
    unfold rparse
    have : rval (cutS (⟨#[54, 47, 52]⟩ : ByteArray).data.toList).1 ((cutS (⟨#[54, 47, 52]⟩ : ByteArray).data.toList).2.getD [49]) = none := by kernel_rfl
    rw [this]
  rw [this]; rfl
theorem s_print : Ref.strL (rprintO (rvalB ⟨#[45, 51]⟩ ⟨#[50]⟩)) = ⟨#[45, 51, 47, 50]⟩ := by rw [v_a]; show Ref.strL (rprint (Rat.divInt (-3) 2)) = _; rw [rprint_a]; rfl
theorem s_cmp : rcmpO (rvalB ⟨#[49]⟩ ⟨#[51]⟩) (rvalB ⟨#[51, 51, 51, 51, 51]⟩ ⟨#[49, 48, 48, 48, 48, 48]⟩) = 1 := by kernel_rfl
theorem s_val : (rvalB ⟨#[45, 51]⟩ ⟨#[50]⟩).isSome = true := by rw [v_a]; rfl
theorem s_inv : (rvalB ⟨#[]⟩ ⟨#[]⟩).isSome = false := by kernel_rfl

end Go.Proofs.YtnhjidbjibehpaaGreatDoor.L4

/- Layer 4: sane, walked. -/
namespace Go.Proofs.YtnhjidbjibehpaaGreatDoor.L4
open Go.Shelf Go.RowKit Go.Proofs.YtnhjidbjibehpaaGreatDoorW.PrintWords Go.Proofs.YtnhjidbjibehpaaGreatDoorW.PrintLast Go.Proofs.YtnhjidbjibehpaaGreatDoorW.PrintMore Yd L3
set_option linter.unusedVariables false
set_option linter.unusedSimpArgs false
attribute [local go_sem ↓] Go.wp_at_zero Go.wp_at_succ

/-- boxes of fractions, as they lie in the world -/
structure All (l : List (Nat × ByteArray × ByteArray)) (w W : World) : Prop where
  bl : Below w.heap.size w W
  bx : ∀ x ∈ l, W.heap[x.1]? = some (.cells #[.string x.2.1, .string x.2.2] 23)
theorem All.nil (w : World) : All [] w w := ⟨Below.refl _ w, fun _ h => by cases h⟩
theorem All.next {l : List (Nat × ByteArray × ByteArray)} {w W W' : World} (h : All l w W) (hb : Below W.heap.size W W') : All l w W' :=
  ⟨h.bl.trans (hb.mono h.bl.size), fun x hx => (hb.block _ (blk_lt (h.bx x hx))).trans (h.bx x hx)⟩
theorem All.push {l : List (Nat × ByteArray × ByteArray)} {w W : World} (h : All l w W) (s t : ByteArray) : All ((W.heap.size, s, t) :: l) w (W.alloc (.cells #[.string s, .string t] 23)) := by
  refine ⟨(h.next (below_alloc (Below.refl _ W) _)).bl, fun x hx => ?_⟩
  rcases List.mem_cons.1 hx with rfl | hx
  · exact alloc_here W _
  · exact (h.next (below_alloc (Below.refl _ W) _)).bx x hx
theorem All.env {l : List (Nat × ByteArray × ByteArray)} {w W : World} (h : All l w W) (he : Env w) : Env W := he.below h.bl
theorem All.tail {x : Nat × ByteArray × ByteArray} {l : List (Nat × ByteArray × ByteArray)} {w W : World} (h : All (x :: l) w W) : All l w W := ⟨h.bl, fun y hy => h.bx y (List.mem_cons_of_mem _ hy)⟩
theorem All.apart {l : List (Nat × ByteArray × ByteArray)} {w W : World} (h : All l w W) : w.heap.size ≤ W.heap.size ∧ ∀ x ∈ l, x.1 ≠ W.heap.size := ⟨h.bl.size, fun x hx => Nat.ne_of_lt (blk_lt (h.bx x hx))⟩
theorem All.put {a : Nat} {s t : ByteArray} {l : List (Nat × ByteArray × ByteArray)} {w W : World} (h : All ((a, s, t) :: l) w W) (ha : w.heap.size ≤ a ∧ ∀ x ∈ l, x.1 ≠ a) (s' t' : ByteArray) : All ((a, s', t') :: l) w ((W.setCell ⟨a, 0, none⟩ (.string s')).setCell ⟨a, 1, none⟩ (.string t')) := by
  refine ⟨(h.bl.setCell (p := ⟨a, 0, none⟩) ha.1 _).setCell (p := ⟨a, 1, none⟩) ha.1 _, fun x hx => ?_⟩
  rcases List.mem_cons.1 hx with rfl | hx
  · exact blk_set (blk_set (h.bx _ (List.mem_cons_self ..)) 0 (.string s')) 1 (.string t')
  · exact ((Below.heap_setCell _ ⟨a, 1, none⟩ _ _ (ha.2 x hx)).trans (Below.heap_setCell _ ⟨a, 0, none⟩ _ _ (ha.2 x hx))).trans (h.bx x (List.mem_cons_of_mem _ hx))
/-- the cells -/
def Cells (W : World) : List (Nat × ByteArray × ByteArray) → Prop
  | [] => True
  | [x] => W.cell? ⟨x.1, 0, none⟩ = some (.string x.2.1) ∧ W.cell? ⟨x.1, 1, none⟩ = some (.string x.2.2)
  | x :: y :: l => W.cell? ⟨x.1, 0, none⟩ = some (.string x.2.1) ∧ W.cell? ⟨x.1, 1, none⟩ = some (.string x.2.2) ∧ Cells W (y :: l)
theorem cells_of {W : World} : ∀ l : List (Nat × ByteArray × ByteArray), (∀ x ∈ l, W.heap[x.1]? = some (.cells #[.string x.2.1, .string x.2.2] 23)) → Cells W l
  | [], _ => trivial
  | [x], h => ⟨blk_cell (h x (List.mem_cons_self ..)) 0, blk_cell (h x (List.mem_cons_self ..)) 1⟩
  | x :: y :: l, h => ⟨blk_cell (h x (List.mem_cons_self ..)) 0, blk_cell (h x (List.mem_cons_self ..)) 1, cells_of (y :: l) (fun z hz => h z (List.mem_cons_of_mem _ hz))⟩
theorem All.cells {l : List (Nat × ByteArray × ByteArray)} {w W : World} (h : All l w W) : Cells W l := cells_of l h.bx

set_option maxRecDepth 100000 in
set_option maxHeartbeats 16000000 in
/-- sane -/
theorem sane_calls (w : World) (hE : Env w) :
    Calls Tryz.prog 11 #[] w fun e w' => e = .returned (.bool true) ∧ Below w.heap.size w w' := by
  have HE := Aside0.mk hE
  have HL := Aside0.mk (All.nil w)
  clear hE
  go_enter Tryz.func11, Tryz.ntmps11
  go_wp2_with fail
  refine (p_of 6 (-4) _ (HL.out.env HE.out) (by omega) (by omega) (by omega) (by omega)).mono ?_
  rintro e V ⟨rfl, hb⟩
  have hl := HL.out.next hb
  clear HL
  rw [s_a]
  unfold ratV
  go_wp2_with fail
  have HL := Aside0.mk (hl.push ⟨#[45, 51]⟩ ⟨#[50]⟩)
  clear hb hl
  generalize V.alloc (.cells #[.string ⟨#[45, 51]⟩, .string ⟨#[50]⟩] 23) = W at *
  generalize V.heap.size = a1 at *
  go_wp2_with fail
  refine (p_of 0 (-5) _ (HL.out.env HE.out) (by omega) (by omega) (by omega) (by omega)).mono ?_
  rintro e V ⟨rfl, hb⟩
  have hl := HL.out.next hb
  clear HL
  rw [s_b]
  unfold ratV
  go_wp2_with fail
  have HL := Aside0.mk (hl.push ⟨#[48]⟩ ⟨#[49]⟩)
  clear hb hl
  generalize V.alloc (.cells #[.string ⟨#[48]⟩, .string ⟨#[49]⟩] 23) = W at *
  generalize V.heap.size = a3 at *
  go_wp2_with fail
  refine (p_of 1 0 _ (HL.out.env HE.out) (by omega) (by omega) (by omega) (by omega)).mono ?_
  rintro e V ⟨rfl, hb⟩
  have hl := HL.out.next hb
  clear HL
  rw [s_g]
  unfold badR ratV
  go_wp2_with fail
  have HL := Aside0.mk (hl.push ⟨#[]⟩ ⟨#[]⟩)
  clear hb hl
  generalize V.alloc (.cells #[.string ⟨#[]⟩, .string ⟨#[]⟩] 23) = W at *
  generalize V.heap.size = a5 at *
  go_wp2_with fail
  refine (p_is ⟨#[49]⟩ ⟨#[50]⟩ _).mono ?_
  rintro e V ⟨rfl, hb⟩
  have hl := HL.out.next hb
  clear HL
  have HL := Aside0.mk hl
  clear hb hl
  go_wp2_with fail
  refine (p_is ⟨#[49]⟩ ⟨#[51]⟩ _).mono ?_
  rintro e V ⟨rfl, hb⟩
  have hl := HL.out.next hb
  clear HL
  have HL := Aside0.mk hl
  clear hb hl
  go_wp2_with fail
  refine (p_add ⟨#[49]⟩ ⟨#[50]⟩ ⟨#[49]⟩ ⟨#[51]⟩ _ (HL.out.env HE.out)).mono ?_
  rintro e V ⟨rfl, hb⟩
  have hl := HL.out.next hb
  clear HL
  rw [s_c]
  unfold ratV
  go_wp2_with fail
  have HL := Aside0.mk (hl.push ⟨#[53]⟩ ⟨#[54]⟩)
  clear hb hl
  generalize V.alloc (.cells #[.string ⟨#[53]⟩, .string ⟨#[54]⟩] 23) = W at *
  generalize V.heap.size = a7 at *
  go_wp2_with fail
  refine (p_is ⟨#[49]⟩ ⟨#[50]⟩ _).mono ?_
  rintro e V ⟨rfl, hb⟩
  have hl := HL.out.next hb
  clear HL
  have HL := Aside0.mk hl
  clear hb hl
  go_wp2_with fail
  refine (p_is ⟨#[45, 49]⟩ ⟨#[52]⟩ _).mono ?_
  rintro e V ⟨rfl, hb⟩
  have hl := HL.out.next hb
  clear HL
  have HL := Aside0.mk hl
  clear hb hl
  go_wp2_with fail
  refine (p_div ⟨#[49]⟩ ⟨#[50]⟩ ⟨#[45, 49]⟩ ⟨#[52]⟩ _ (HL.out.env HE.out)).mono ?_
  rintro e V ⟨rfl, hb⟩
  have hl := HL.out.next hb
  clear HL
  rw [s_d]
  unfold ratV
  go_wp2_with fail
  have HL := Aside0.mk (hl.push ⟨#[45, 50]⟩ ⟨#[49]⟩)
  clear hb hl
  generalize V.alloc (.cells #[.string ⟨#[45, 50]⟩, .string ⟨#[49]⟩] 23) = W at *
  generalize V.heap.size = a9 at *
  go_cut [12] (fun v12 wc => v12 = .int .i64 40 ∧ Aside0 (All [(a9, ⟨#[45, 50]⟩, ⟨#[49]⟩), (a7, ⟨#[53]⟩, ⟨#[54]⟩), (a5, ⟨#[]⟩, ⟨#[]⟩), (a3, ⟨#[48]⟩, ⟨#[49]⟩), (a1, ⟨#[45, 51]⟩, ⟨#[50]⟩)] w wc))
  case first =>
    obtain ⟨c0, c1, f0, f1⟩ := pair_facts (HL.out.bx (a3, ⟨#[48]⟩, ⟨#[49]⟩) (by simp))
    have hw := HL.out.next (below_drew (Below.refl _ W))
    clear HL
    have HL := Aside0.mk hw
    clear hw
    go_region_held3 (fun w' => w'.cell? ⟨a3, 0, none⟩ = some (.string ⟨#[48]⟩) ∧ w'.cell? ⟨a3, 1, none⟩ = some (.string ⟨#[49]⟩)) (first | exact ⟨c0, c1⟩ | go_keep) (first
    | (go_at_call 24; refine (p_is ⟨#[49]⟩ ⟨#[49]⟩ _).mono ?_; rintro e V ⟨rfl, hb⟩; have hl := HL.out.next hb; clear HL; have HL := Aside0.mk hl; obtain ⟨c0, c1, f0, f1⟩ := pair_facts (hl.bx (a3, ⟨#[48]⟩, ⟨#[49]⟩) (by simp)); obtain ⟨x0, x1, xf0, xf1⟩ := pair_facts (hl.bx _ (List.mem_cons_self ..)); clear hb hl)
    | (go_at_call 24; have hap := HL.out.apart; (try rw [show W.drew.heap.size = W.heap.size from rfl] at hap); have HAP := Aside0.mk hap; have hne3 := hap.2 (a3, ⟨#[48]⟩, ⟨#[49]⟩) (by simp); dsimp only at hne3; have hne3' := Ne.symm hne3; have hpu := HL.out.push ⟨#[]⟩ ⟨#[]⟩; (try rw [show W.drew.heap.size = W.heap.size from rfl] at hpu); have HPU := Aside0.mk hpu; clear hap hpu; refine (p_is ⟨#[49]⟩ ⟨#[49]⟩ _).mono ?_; rintro e V ⟨rfl, hb⟩; have hl := HPU.out.next hb; clear HL HPU; have HL := Aside0.mk hl; obtain ⟨c0, c1, f0, f1⟩ := pair_facts (hl.bx (a3, ⟨#[48]⟩, ⟨#[49]⟩) (by simp)); obtain ⟨x0, x1, xf0, xf1⟩ := pair_facts (hl.bx _ (List.mem_cons_self ..)); clear hb hl)
    | (go_at_call 26; refine (p_div ⟨#[49]⟩ ⟨#[49]⟩ ⟨#[48]⟩ ⟨#[49]⟩ _ (HL.out.env HE.out)).mono ?_; rintro e V ⟨rfl, hb⟩; have hl := HL.out.next hb; clear HL; have HL := Aside0.mk hl; rw [s_j]; unfold badR ratV; obtain ⟨c0, c1, f0, f1⟩ := pair_facts (hl.bx (a3, ⟨#[48]⟩, ⟨#[49]⟩) (by simp)); obtain ⟨x0, x1, xf0, xf1⟩ := pair_facts (hl.bx _ (List.mem_cons_self ..)); clear hb hl)
    | (go_at_call 26; have hap := HL.out.apart; (try rw [show W.drew.heap.size = W.heap.size from rfl] at hap); have HAP := Aside0.mk hap; have hne3 := hap.2 (a3, ⟨#[48]⟩, ⟨#[49]⟩) (by simp); dsimp only at hne3; have hne3' := Ne.symm hne3; have hpu := HL.out.push ⟨#[]⟩ ⟨#[]⟩; (try rw [show W.drew.heap.size = W.heap.size from rfl] at hpu); have HPU := Aside0.mk hpu; clear hap hpu; refine (p_div ⟨#[49]⟩ ⟨#[49]⟩ ⟨#[48]⟩ ⟨#[49]⟩ _ (HPU.out.env HE.out)).mono ?_; rintro e V ⟨rfl, hb⟩; have hl := HPU.out.next hb; clear HL HPU; have HL := Aside0.mk hl; rw [s_j]; unfold badR ratV; obtain ⟨c0, c1, f0, f1⟩ := pair_facts (hl.bx (a3, ⟨#[48]⟩, ⟨#[49]⟩) (by simp)); obtain ⟨x0, x1, xf0, xf1⟩ := pair_facts (hl.bx _ (List.mem_cons_self ..)); clear hb hl))
    all_goals
      go_wp2_with fail
      go_meet
      case rel => exact ⟨rfl, ⟨by first | exact (HL.out.put HAP.out _ _).tail | exact (HL.out.push _ _).tail⟩⟩
  case rest =>
    obtain ⟨rfl, hl0⟩ := hcut
    clear HL
    have HL := hl0
    clear hl0
    go_wp2_with fail
    refine (p_is ⟨#[45, 49]⟩ ⟨#[51]⟩ _).mono ?_
    rintro e V ⟨rfl, hb⟩
    have hl := HL.out.next hb
    clear HL
    have HL := Aside0.mk hl
    clear hb hl
    go_wp2_with fail
    refine (p_down ⟨#[45, 49]⟩ ⟨#[51]⟩ 2 _ (HL.out.env HE.out)).mono ?_
    rintro e V ⟨rfl, hb⟩
    have hl := HL.out.next hb
    clear HL
    rw [s_k]
    unfold ratV
    go_wp2_with fail
    have HL := Aside0.mk (hl.push ⟨#[45, 49, 55]⟩ ⟨#[53, 48]⟩)
    clear hb hl
    generalize V.alloc (.cells #[.string ⟨#[45, 49, 55]⟩, .string ⟨#[53, 48]⟩] 23) = W at *
    generalize V.heap.size = a13 at *
    go_wp2_with fail
    refine (p_is ⟨#[49]⟩ ⟨#[51]⟩ _).mono ?_
    rintro e V ⟨rfl, hb⟩
    have hl := HL.out.next hb
    clear HL
    have HL := Aside0.mk hl
    clear hb hl
    go_wp2_with fail
    refine (p_up ⟨#[49]⟩ ⟨#[51]⟩ 2 _ (HL.out.env HE.out)).mono ?_
    rintro e V ⟨rfl, hb⟩
    have hl := HL.out.next hb
    clear HL
    rw [s_m]
    unfold ratV
    go_wp2_with fail
    have HL := Aside0.mk (hl.push ⟨#[49, 55]⟩ ⟨#[53, 48]⟩)
    clear hb hl
    generalize V.alloc (.cells #[.string ⟨#[49, 55]⟩, .string ⟨#[53, 48]⟩] 23) = W at *
    generalize V.heap.size = a15 at *
    go_wp2_with fail
    refine (p_parse ⟨#[45, 51, 47, 50]⟩ _ (HL.out.env HE.out) (by decide)).mono ?_
    rintro e V ⟨rfl, hb⟩
    have hl := HL.out.next hb
    clear HL
    rw [s_o]
    unfold ratV
    go_wp2_with fail
    have HL := Aside0.mk (hl.push ⟨#[45, 51]⟩ ⟨#[50]⟩)
    clear hb hl
    generalize V.alloc (.cells #[.string ⟨#[45, 51]⟩, .string ⟨#[50]⟩] 23) = W at *
    generalize V.heap.size = a17 at *
    go_wp2_with fail
    refine (p_parse ⟨#[54, 47, 52]⟩ _ (HL.out.env HE.out) (by decide)).mono ?_
    rintro e V ⟨rfl, hb⟩
    have hl := HL.out.next hb
    clear HL
    rw [s_q]
    unfold badR ratV
    go_upto_region 11 with (fail)
    have HL := Aside0.mk (hl.push ⟨#[]⟩ ⟨#[]⟩)
    clear hb hl
    generalize V.alloc (.cells #[.string ⟨#[]⟩, .string ⟨#[]⟩] 23) = W at *
    generalize V.heap.size = a19 at *
    have hl7 : All [(a17, ⟨#[45, 51]⟩, ⟨#[50]⟩), (a15, ⟨#[49, 55]⟩, ⟨#[53, 48]⟩), (a13, ⟨#[45, 49, 55]⟩, ⟨#[53, 48]⟩), (a9, ⟨#[45, 50]⟩, ⟨#[49]⟩), (a7, ⟨#[53]⟩, ⟨#[54]⟩), (a3, ⟨#[48]⟩, ⟨#[49]⟩), (a1, ⟨#[45, 51]⟩, ⟨#[50]⟩)] w W := ⟨HL.out.bl, fun x hx => HL.out.bx x (by
      simp only [List.mem_cons, List.mem_nil_iff, or_false] at hx ⊢
      rcases hx with h | h | h | h | h | h | h <;> simp [h])⟩
    clear HL
    have HL := Aside0.mk hl7
    clear hl7
    go_cut [21] (fun v21 wc => v21 = .bool true ∧ Aside0 (All [(a17, ⟨#[45, 51]⟩, ⟨#[50]⟩), (a15, ⟨#[49, 55]⟩, ⟨#[53, 48]⟩), (a13, ⟨#[45, 49, 55]⟩, ⟨#[53, 48]⟩), (a9, ⟨#[45, 50]⟩, ⟨#[49]⟩), (a7, ⟨#[53]⟩, ⟨#[54]⟩), (a3, ⟨#[48]⟩, ⟨#[49]⟩), (a1, ⟨#[45, 51]⟩, ⟨#[50]⟩)] w wc))
    case first =>
      go_wp2_with fail
      go_meet
      case rel => exact ⟨rfl, HL⟩
    case rest =>
      obtain ⟨rfl, hl0⟩ := hcut
      clear HL
      have HL := Aside0.mk (hl0.out.next (below_drew (Below.refl _ wc)))
      have hS := HL.out.cells
      clear hl0
      go_wp2_with fail
      go_region_held3 (fun w' => w'.cell? ⟨a17, 0, none⟩ = some (.string ⟨#[45, 51]⟩) ∧ w'.cell? ⟨a17, 1, none⟩ = some (.string ⟨#[50]⟩) ∧ w'.cell? ⟨a15, 0, none⟩ = some (.string ⟨#[49, 55]⟩) ∧ w'.cell? ⟨a15, 1, none⟩ = some (.string ⟨#[53, 48]⟩) ∧ w'.cell? ⟨a13, 0, none⟩ = some (.string ⟨#[45, 49, 55]⟩) ∧ w'.cell? ⟨a13, 1, none⟩ = some (.string ⟨#[53, 48]⟩) ∧ w'.cell? ⟨a9, 0, none⟩ = some (.string ⟨#[45, 50]⟩) ∧ w'.cell? ⟨a9, 1, none⟩ = some (.string ⟨#[49]⟩) ∧ w'.cell? ⟨a7, 0, none⟩ = some (.string ⟨#[53]⟩) ∧ w'.cell? ⟨a7, 1, none⟩ = some (.string ⟨#[54]⟩) ∧ w'.cell? ⟨a3, 0, none⟩ = some (.string ⟨#[48]⟩) ∧ w'.cell? ⟨a3, 1, none⟩ = some (.string ⟨#[49]⟩) ∧ w'.cell? ⟨a1, 0, none⟩ = some (.string ⟨#[45, 51]⟩) ∧ w'.cell? ⟨a1, 1, none⟩ = some (.string ⟨#[50]⟩)) (first | exact hS | go_keep) (first
      | (go_at_call 24; (with_reducible refine (p_is _ _ _).mono ?_); rintro e V ⟨rfl, hb⟩; have hl := HL.out.next hb; clear HL hS; have HL := Aside0.mk hl; have hS := hl.cells; clear hb hl)
      | (go_at_call 14; (with_reducible refine (p_print ⟨#[45, 51]⟩ ⟨#[50]⟩ _ (HL.out.env HE.out)).mono ?_); rintro e V ⟨rfl, hb⟩; have hl := HL.out.next hb; clear HL hS; have HL := Aside0.mk hl; have hS := hl.cells; rw [s_print]; clear hb hl)
      | (go_at_call 23; (with_reducible refine (p_cmp _ _ _ _ _ (HL.out.env HE.out)).mono ?_); rintro e V ⟨rfl, hb⟩; have hl := HL.out.next hb; clear HL hS; have HL := Aside0.mk hl; have hS := hl.cells; rw [s_cmp]; clear hb hl)
      | (go_at_call 17; (with_reducible refine (p_valid ⟨#[45, 51]⟩ ⟨#[50]⟩ _ (HL.out.env HE.out)).mono ?_); rintro e V ⟨rfl, hb⟩; have hl := HL.out.next hb; clear HL hS; have HL := Aside0.mk hl; have hS := hl.cells; rw [s_val]; clear hb hl)
      | (go_at_call 17; (with_reducible refine (p_valid ⟨#[]⟩ ⟨#[]⟩ _ (HL.out.env HE.out)).mono ?_); rintro e V ⟨rfl, hb⟩; have hl := HL.out.next hb; clear HL hS; have HL := Aside0.mk hl; have hS := hl.cells; rw [s_inv]; clear hb hl))
      all_goals
        go_wp2_with fail
        go_ret
        exact ⟨rfl, HL.out.bl⟩
end Go.Proofs.YtnhjidbjibehpaaGreatDoor.L4
