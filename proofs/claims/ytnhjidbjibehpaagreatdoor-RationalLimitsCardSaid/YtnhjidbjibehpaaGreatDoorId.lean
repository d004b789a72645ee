/- Layer 3, walked: plus, minus and by of absolute values. -/
import Derived.Test.YtnhjidbjibehpaaGreatDoorIc
import Derived.Shelf.Abstract
namespace Go.Proofs.YtnhjidbjibehpaaGreatDoor.L3
open Go.Shelf Go.RowKit Go.Proofs.YtnhjidbjibehpaaGreatDoorW.PrintWords Go.Proofs.YtnhjidbjibehpaaGreatDoorW.PrintLast Go.Proofs.YtnhjidbjibehpaaGreatDoorW.PrintMore Yd
attribute [local go_sem] max2_int min2_int max_two min_two max_three min_three max_four min_four
set_option linter.unusedVariables false
set_option linter.unusedSimpArgs false

/-- The slice value is the absolute value n. -/
def Nm (w : World) (v : Value) (n : Nat) : Prop := Ls w v (bd 10000 n)
theorem Nm.below {w w1 : World} {v : Value} {n : Nat} (h : Nm w v n) (hb : Below w.heap.size w w1) : Nm w1 v n := Ls.below h hb

/-- so many groups are enough -/
abbrev GL (n : Nat) : Nat := (bd 10000 n).length

theorem rd_bd (n k : Nat) : rd (bd 10000 n) (k : Int) = ((n / 10000 ^ k % 10000 : Nat) : Int) := by
  unfold rd; rw [Int.toNat_natCast, bd_getD (by omega)]
theorem rd_bd_range (n k : Nat) : 0 ≤ rd (bd 10000 n) (k : Int) ∧ rd (bd 10000 n) (k : Int) < 10000 := by
  rw [rd_bd]
  have := Nat.mod_lt (n / 10000 ^ k) (show 10000 > 0 by omega)
  omega
theorem rd_bd_zero {n k : Nat} (h : GL n ≤ k) : rd (bd 10000 n) (k : Int) = 0 := by
  unfold rd
  rw [Int.toNat_natCast, List.getD_eq_getElem?_getD, List.getElem?_eq_none h]; rfl

theorem sumF_add (f g : Nat → Int) : ∀ k, sumF (fun i => f i + g i) k = sumF f k + sumF g k
  | 0 => rfl
  | k + 1 => by simp only [sumF, sumF_add f g k, Int.add_mul]; omega
theorem sumF_sub (f g : Nat → Int) : ∀ k, sumF (fun i => f i - g i) k = sumF f k - sumF g k
  | 0 => rfl
  | k + 1 => by simp only [sumF, sumF_sub f g k, Int.sub_mul]; omega
theorem sumF_mul (f : Nat → Int) (c : Int) : ∀ k, sumF (fun i => f i * c) k = sumF f k * c
  | 0 => by simp [sumF]
  | k + 1 => by
    simp only [sumF, sumF_mul f c k, Int.add_mul]
    congr 1
    rw [Int.mul_assoc, Int.mul_assoc, Int.mul_comm c]
theorem sumF_digits (n : Nat) : ∀ k, sumF (fun i => rd (bd 10000 n) (i : Int)) k = ((n % 10000 ^ k : Nat) : Int)
  | 0 => by simp [sumF, Nat.mod_one]
  | k + 1 => by
    simp only [sumF, sumF_digits n k, rd_bd]
    have h := sumF_digits n k
    simp only [rd_bd] at h
    have e : n % (10000 ^ k * 10000) = n % 10000 ^ k + 10000 ^ k * (n / 10000 ^ k % 10000) := Nat.mod_mul
    rw [h, Nat.pow_succ, e, Int.natCast_add, Int.natCast_mul, Int.natCast_pow, Int.mul_comm]
    rfl
theorem lt_pow_GL {n k : Nat} (h : GL n ≤ k) : n < 10000 ^ k :=
  Nat.lt_of_lt_of_le (bd_lt_pow (by omega) n) (Nat.pow_le_pow_right (by omega) h)
theorem sumF_all {n k : Nat} (h : GL n ≤ k) : sumF (fun i => rd (bd 10000 n) (i : Int)) k = (n : Int) := by
  rw [sumF_digits, Nat.mod_eq_of_lt (lt_pow_GL h)]

theorem trimL_num {o : List Int} (hd : ∀ d ∈ o, 0 ≤ d ∧ d < 10000) {n : Nat} (h : bv 10000 o = (n : Int)) : trimL o = bd 10000 n := by
  rw [trimL_bd (B := 10000) (by omega) o hd, h, Int.toNat_natCast]
theorem GL_lt {n k : Nat} (h : n < 10000 ^ k) : GL n ≤ k := bd_length_le (by omega) n k h

theorem two_boxes (w : World) (x y : Value) (t u : TypeId) : Below w.heap.size w ((w.alloc (.cells #[x] t)).alloc (.cells #[y] u)) ∧
    ((w.alloc (.cells #[x] t)).alloc (.cells #[y] u)).cell? ⟨w.heap.size, 0, none⟩ = some x ∧ ((w.alloc (.cells #[x] t)).alloc (.cells #[y] u)).cell? ⟨w.heap.size + 1, 0, none⟩ = some y :=
  ⟨below_alloc (below_alloc (Below.refl _ _) _) _, by simp, by rw [World.cell?_alloc_at _ _ _ _ (by simp)]; rfl⟩

/-- what fold comes to, trimmed -/
theorem fold_trim {w w1 : World} {v : Value} {o : List Int} {s : Int} {n : Nat} (ho : w1.ownsRow w.heap.size 3 1 v o.length (nums .i64 o)) (hd : ∀ d ∈ o, 0 ≤ d ∧ d < 10000) (hs : bv 10000 o = s) (hn : s = (n : Int)) (hl : o.length ≤ 1000000000) (hb : Below w.heap.size w w1) :
    Calls Tryz.prog 107 #[v] w1 fun e w' => ∃ v', e = .returned v' ∧ Nm w' v' n ∧ Below w.heap.size w w' :=
  (trimmed_calls v o w1 (Ls.of_own ho) hl).mono (by
    rintro e w' ⟨v', rfl, h1, h2⟩
    exact ⟨v', rfl, by rw [trimL_num hd (hs.trans hn)] at h1; exact h1, hb.trans (h2.mono hb.size)⟩)

theorem own_length_le {w : World} {base : Nat} {v : Value} {o : List Int} (h : w.ownsRow base 3 1 v o.length (nums .i64 o)) (hl : o.length ≤ 200000) : o.length ≤ 1000000000 := by omega

set_option maxHeartbeats 1000000 in
/-- plus -/
theorem nplus_calls (v1 v2 : Value) (a b : Nat) (w : World) (h1 : Nm w v1 a) (h2 : Nm w v2 b) (ha : GL a ≤ 1000) (hb : GL b ≤ 1000) :
    Calls Tryz.prog 86 #[v1, v2] w fun e w' => ∃ v, e = .returned v ∧ Nm w' v (a + b) ∧ Below w.heap.size w w' := by
  obtain ⟨A1, c1, rfl, hc1, hr1⟩ := h1
  obtain ⟨A2, c2, rfl, hc2, hr2⟩ := h2
  have HR1 := Aside0.mk hr1
  have HR2 := Aside0.mk hr2
  have hla : (bd 10000 a).length ≤ 1000 := ha
  have hlb : (bd 10000 b).length ≤ 1000 := hb
  have key : ∀ N : Nat, GL a ≤ N → GL b ≤ N → N ≤ 1000 → Calls Tryz.prog 112 #[.int .i64 N, .int .i64 0, .func (.func 113) #[] #[.pointer (some ⟨w.heap.size, 0, none⟩), .pointer (some ⟨w.heap.size + 1, 0, none⟩)]]
      ((w.alloc (.cells #[.slice A1 (bd 10000 a).length c1] 98)).alloc (.cells #[.slice A2 (bd 10000 b).length c2] 98)) fun e w' => ∃ v o, e = .returned v ∧ (w'.ownsRow w.heap.size 3 1 v o.length (nums .i64 o)) ∧ (∀ d ∈ o, 0 ≤ d ∧ d < 10000) ∧ bv 10000 o = ((a + b : Nat) : Int) ∧ o.length ≤ 1000000000 ∧ Below w.heap.size w w' := by
    intro N hNa hNb hN
    obtain ⟨tb, t1, t2⟩ := two_boxes w (.slice A1 (bd 10000 a).length c1) (.slice A2 (bd 10000 b).length c2) 98 98
    generalize hW0 : (w.alloc (.cells #[.slice A1 (bd 10000 a).length c1] 98)).alloc (.cells #[.slice A2 (bd 10000 b).length c2] 98) = W0 at *
    have hs : sumF (fun i => rd (bd 10000 a) (i : Int) + rd (bd 10000 b) (i : Int)) N = ((a + b : Nat) : Int) := by
      rw [sumF_add, sumF_all hNa, sumF_all hNb]; norm_cast
    refine (fold_calls 113 _ (fun i => rd (bd 10000 a) (i : Int) + rd (bd 10000 b) (i : Int)) N W0 (by omega) (enters_of Tryz.func113 (by kernel_rfl) rfl) ?_ (by rw [hs]; omega) ?_ ?_).mono ?_
    · intro k W hW
      have hbW : Below w.heap.size w W := tb.trans (hW.mono tb.size)
      have ra := rd_bd_range a k
      have rb := rd_bd_range b k
      exact plus1_calls A1 A2 c1 c2 _ _ _ _ k W (HR1.out.below hbW) (HR2.out.below hbW) (by omega) (by omega) (by omega) ((hW.cell (World.block_lt_of_cell? W0 _ t1)).trans t1) ((hW.cell (World.block_lt_of_cell? W0 _ t2)).trans t2)
    · intro j hj
      rw [rd_bd_zero (by omega), rd_bd_zero (by omega)]; rfl
    · intro j
      have ra := rd_bd_range a j
      have rb := rd_bd_range b j
      omega
    · rintro e w' ⟨v, o, rfl, ho, hd, hv, hln, hb'⟩
      exact ⟨v, o, rfl, own_weaken ho tb.size, hd, hv.trans hs, by omega, tb.trans (hb'.mono tb.size)⟩
  have KEY := Aside0.mk key
  clear hr1 hr2 hc1 hc2 ha hb key
  go_enter Tryz.func86, Tryz.ntmps86
  go_wp2_with fail
  all_goals
    (first | (with_reducible refine (KEY.out (bd 10000 a).length (Nat.le_refl _) ?g1 hla).mono ?_) | (with_reducible refine (KEY.out (bd 10000 b).length ?g1 (Nat.le_refl _) hlb).mono ?_))
    case g1 => unfold GL; omega
    rintro e w1 ⟨v, o, rfl, ho, hd, hv, hl, hb⟩
    have FT := Aside0.mk (fold_trim ho hd hv rfl hl hb)
    clear ho hd hv hl hb
    go_wp2_with fail
    refine FT.out.mono ?_
    rintro e w2 ⟨v', rfl, hn, hb⟩
    have HN := Aside0.mk hn
    have HB := Aside0.mk hb
    clear hn hb FT
    go_wp2_with fail
    go_ret
    exact ⟨_, rfl, HN.out, HB.out⟩

set_option maxHeartbeats 1000000 in
/-- minus -/
theorem nminus_calls (v1 v2 : Value) (a b : Nat) (w : World) (h1 : Nm w v1 a) (h2 : Nm w v2 b) (ha : GL a ≤ 1000) (hba : b ≤ a) :
    Calls Tryz.prog 88 #[v1, v2] w fun e w' => ∃ v, e = .returned v ∧ Nm w' v (a - b) ∧ Below w.heap.size w w' := by
  obtain ⟨A1, c1, rfl, hc1, hr1⟩ := h1
  obtain ⟨A2, c2, rfl, hc2, hr2⟩ := h2
  have HR1 := Aside0.mk hr1
  have HR2 := Aside0.mk hr2
  have hla : (bd 10000 a).length ≤ 1000 := ha
  have hgl : GL b ≤ GL a := bd_length_mono (by omega) hba
  have hlb : (bd 10000 b).length ≤ 1000 := Nat.le_trans hgl ha
  have key : ∀ N : Nat, GL a ≤ N → GL b ≤ N → N ≤ 1000 → Calls Tryz.prog 112 #[.int .i64 N, .int .i64 0, .func (.func 115) #[] #[.pointer (some ⟨w.heap.size, 0, none⟩), .pointer (some ⟨w.heap.size + 1, 0, none⟩)]]
      ((w.alloc (.cells #[.slice A1 (bd 10000 a).length c1] 98)).alloc (.cells #[.slice A2 (bd 10000 b).length c2] 98)) fun e w' => ∃ v o, e = .returned v ∧ (w'.ownsRow w.heap.size 3 1 v o.length (nums .i64 o)) ∧ (∀ d ∈ o, 0 ≤ d ∧ d < 10000) ∧ bv 10000 o = ((a - b : Nat) : Int) ∧ o.length ≤ 1000000000 ∧ Below w.heap.size w w' := by
    intro N hNa hNb hN
    obtain ⟨tb, t1, t2⟩ := two_boxes w (.slice A1 (bd 10000 a).length c1) (.slice A2 (bd 10000 b).length c2) 98 98
    generalize hW0 : (w.alloc (.cells #[.slice A1 (bd 10000 a).length c1] 98)).alloc (.cells #[.slice A2 (bd 10000 b).length c2] 98) = W0 at *
    have hs : sumF (fun i => rd (bd 10000 a) (i : Int) - rd (bd 10000 b) (i : Int)) N = ((a - b : Nat) : Int) := by
      rw [sumF_sub, sumF_all hNa, sumF_all hNb]; omega
    refine (fold_calls 115 _ (fun i => rd (bd 10000 a) (i : Int) - rd (bd 10000 b) (i : Int)) N W0 (by omega) (enters_of Tryz.func115 (by kernel_rfl) rfl) ?_ (by rw [hs]; omega) ?_ ?_).mono ?_
    · intro k W hW
      have hbW : Below w.heap.size w W := tb.trans (hW.mono tb.size)
      have ra := rd_bd_range a k
      have rb := rd_bd_range b k
      exact minus1_calls A1 A2 c1 c2 _ _ _ _ k W (HR1.out.below hbW) (HR2.out.below hbW) (by omega) (by omega) (by omega) ((hW.cell (World.block_lt_of_cell? W0 _ t1)).trans t1) ((hW.cell (World.block_lt_of_cell? W0 _ t2)).trans t2)
    · intro j hj
      rw [rd_bd_zero (by omega), rd_bd_zero (by omega)]; rfl
    · intro j
      have ra := rd_bd_range a j
      have rb := rd_bd_range b j
      omega
    · rintro e w' ⟨v, o, rfl, ho, hd, hv, hln, hb'⟩
      exact ⟨v, o, rfl, own_weaken ho tb.size, hd, hv.trans hs, by omega, tb.trans (hb'.mono tb.size)⟩
  have KEY := Aside0.mk key
  have HGL : Aside0 (GL b ≤ (bd 10000 a).length) := ⟨hgl⟩
  clear hr1 hr2 hc1 hc2 ha hba hgl key
  go_enter Tryz.func88, Tryz.ntmps88
  go_wp2_with fail
  all_goals
    (with_reducible refine (KEY.out (bd 10000 a).length (Nat.le_refl _) HGL.out hla).mono ?_)
    rintro e w1 ⟨v, o, rfl, ho, hd, hv, hl, hb⟩
    have FT := Aside0.mk (fold_trim ho hd hv rfl hl hb)
    clear ho hd hv hl hb
    go_wp2_with fail
    refine FT.out.mono ?_
    rintro e w2 ⟨v', rfl, hn, hb⟩
    have HN := Aside0.mk hn
    have HB := Aside0.mk hb
    clear hn hb FT
    go_wp2_with fail
    go_ret
    exact ⟨_, rfl, HN.out, HB.out⟩

set_option maxHeartbeats 1000000 in
/-- by: the product with a single group -/
theorem nby_calls (v1 : Value) (a b : Nat) (w : World) (h1 : Nm w v1 a) (ha : GL a ≤ 1000) (hb : b ≤ 9999) :
    Calls Tryz.prog 108 #[v1, .int .i64 b] w fun e w' => ∃ v, e = .returned v ∧ Nm w' v (a * b) ∧ Below w.heap.size w w' := by
  obtain ⟨A1, c1, rfl, hc1, hr1⟩ := h1
  have HR1 := Aside0.mk hr1
  have hla : (bd 10000 a).length ≤ 1000 := ha
  have key : ∀ N : Nat, GL a ≤ N → N ≤ 1000 → Calls Tryz.prog 112 #[.int .i64 N, .int .i64 0, .func (.func 138) #[] #[.pointer (some ⟨w.heap.size, 0, none⟩), .pointer (some ⟨w.heap.size + 1, 0, none⟩)]]
      ((w.alloc (.cells #[.slice A1 (bd 10000 a).length c1] 98)).alloc (.cells #[.int .i64 b] 3)) fun e w' => ∃ v o, e = .returned v ∧ (w'.ownsRow w.heap.size 3 1 v o.length (nums .i64 o)) ∧ (∀ d ∈ o, 0 ≤ d ∧ d < 10000) ∧ bv 10000 o = ((a * b : Nat) : Int) ∧ o.length ≤ 1000000000 ∧ Below w.heap.size w w' := by
    intro N hNa hN
    obtain ⟨tb, t1, t2⟩ := two_boxes w (.slice A1 (bd 10000 a).length c1) (.int .i64 b) 98 3
    generalize hW0 : (w.alloc (.cells #[.slice A1 (bd 10000 a).length c1] 98)).alloc (.cells #[.int .i64 b] 3) = W0 at *
    have hs : sumF (fun i => rd (bd 10000 a) (i : Int) * (b : Int)) N = ((a * b : Nat) : Int) := by
      rw [sumF_mul, sumF_all hNa]; norm_cast
    refine (fold_calls 138 _ (fun i => rd (bd 10000 a) (i : Int) * (b : Int)) N W0 (by omega) (enters_of Tryz.func138 (by kernel_rfl) rfl) ?_ (by rw [hs]; omega) ?_ ?_).mono ?_
    · intro k W hW
      have hbW : Below w.heap.size w W := tb.trans (hW.mono tb.size)
      have ra := rd_bd_range a k
      exact by1_calls A1 c1 _ _ _ b k W (HR1.out.below hbW) (by omega) (by omega) (by omega) ((hW.cell (World.block_lt_of_cell? W0 _ t1)).trans t1) ((hW.cell (World.block_lt_of_cell? W0 _ t2)).trans t2)
    · intro j hj
      rw [rd_bd_zero (by omega)]; simp
    · intro j
      have ra := rd_bd_range a j
      have h1 : 0 ≤ rd (bd 10000 a) (j : Int) * (b : Int) := Int.mul_nonneg ra.1 (by omega)
      have h2 : rd (bd 10000 a) (j : Int) * (b : Int) ≤ 9999 * 9999 := Int.mul_le_mul (by omega) (by omega) (by omega) (by omega)
      omega
    · rintro e w' ⟨v, o, rfl, ho, hd, hv, hln, hb'⟩
      exact ⟨v, o, rfl, own_weaken ho tb.size, hd, hv.trans hs, by omega, tb.trans (hb'.mono tb.size)⟩
  have KEY := Aside0.mk key
  clear hr1 hc1 ha key
  go_enter Tryz.func108, Tryz.ntmps108
  go_wp2_with fail
  all_goals
    (with_reducible refine (KEY.out (bd 10000 a).length (Nat.le_refl _) hla).mono ?_)
    rintro e w1 ⟨v, o, rfl, ho, hd, hv, hl, hb⟩
    have FT := Aside0.mk (fold_trim ho hd hv rfl hl hb)
    clear ho hd hv hl hb
    go_wp2_with fail
    refine FT.out.mono ?_
    rintro e w2 ⟨v', rfl, hn, hb⟩
    have HN := Aside0.mk hn
    have HB := Aside0.mk hb
    clear hn hb FT
    go_wp2_with fail
    go_ret
    exact ⟨_, rfl, HN.out, HB.out⟩

end Go.Proofs.YtnhjidbjibehpaaGreatDoor.L3
