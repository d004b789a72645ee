/- Layer 3, walked: the closures of plus, minus and by; trimmed; plus, minus, by. -/
import Derived.Test.YtnhjidbjibehpaaGreatDoorZc
import Derived.Shelf.Abstract
import Derived.Lib.ItoaNum
namespace Go.Proofs.YtnhjidbjibehpaaGreatDoor.L3
open Go.RowKit Go.Proofs.YtnhjidbjibehpaaGreatDoorW.PrintWords Go.Proofs.YtnhjidbjibehpaaGreatDoorW.PrintLast Go.Proofs.YtnhjidbjibehpaaGreatDoorW.PrintMore Yd
set_option linter.unusedVariables false
set_option linter.unusedSimpArgs false

theorem ReadsInt.drewN {w : World} {A : Option Addr} {n : Nat} {xs : List Int} (h : ReadsInt w .i64 A n xs) (m : Nat) : ReadsInt (w.drewN m) .i64 A n xs :=
  ReadsInt.below h (pw_below_drewN (Below.refl _ _) m)

theorem at_quiet (A : Option Addr) (c : Nat) (xs : List Int) (i : Int) (w : World) (n : Nat) (hr : ReadsInt w .i64 A xs.length xs) (hi : 0 ≤ i) :
    Calls Tryz.prog 114 #[.slice A xs.length c, .int .i64 i] (w.drewN n) fun e w' => e = .returned (.int .i64 (rd xs i)) ∧ ∃ m, w' = w.drewN m :=
  Calls.quiet_of_same ((at_calls A c xs i _ (ReadsInt.drewN hr n) hi).mono fun _ _ ⟨a, b⟩ => ⟨a, b.symm⟩)

set_option maxHeartbeats 1000000 in
/-- the closure of plus -/
theorem plus1_calls (A B : Option Addr) (c d Ba Bb : Nat) (xs ys : List Int) (i : Int) (w : World) (h1 : ReadsInt w .i64 A xs.length xs) (h2 : ReadsInt w .i64 B ys.length ys) (hi : 0 ≤ i)
    (hx : -100000000 ≤ rd xs i ∧ rd xs i ≤ 100000000) (hy : -100000000 ≤ rd ys i ∧ rd ys i ≤ 100000000)
    (ha : w.cell? ⟨Ba, 0, none⟩ = some (.slice A xs.length c)) (hb : w.cell? ⟨Bb, 0, none⟩ = some (.slice B ys.length d)) :
    Calls Tryz.prog 113 #[.int .i64 i, .pointer (some ⟨Ba, 0, none⟩), .pointer (some ⟨Bb, 0, none⟩)] w fun e w' => e = .returned (.int .i64 (rd xs i + rd ys i)) ∧ ∃ m, w' = w.drewN m := by
  obtain ⟨x, hxx⟩ : ∃ x, rd xs i = x := ⟨_, rfl⟩
  obtain ⟨y, hyy⟩ : ∃ y, rd ys i = y := ⟨_, rfl⟩
  have q1 := fun n => at_quiet A c xs i w n h1 hi
  have q2 := fun n => at_quiet B d ys i w n h2 hi
  rw [hxx] at q1 hx ⊢
  rw [hyy] at q2 hy ⊢
  obtain ⟨hx1, hx2⟩ := hx
  obtain ⟨hy1, hy2⟩ := hy
  have Q1 := Aside0.mk q1
  have Q2 := Aside0.mk q2
  clear q1 q2 h1 h2 hxx hyy
  go_enter Tryz.func113, Tryz.ntmps113
  go_wp2_with fail
  go_quiet ((go_at_call 114; first | (with_reducible exact Q1.out _) | (with_reducible exact Q2.out _)))
  go_wp2_with fail
  go_ret
  exact ⟨rfl, _, rfl⟩

set_option maxHeartbeats 1000000 in
/-- the closure of minus -/
theorem minus1_calls (A B : Option Addr) (c d Ba Bb : Nat) (xs ys : List Int) (i : Int) (w : World) (h1 : ReadsInt w .i64 A xs.length xs) (h2 : ReadsInt w .i64 B ys.length ys) (hi : 0 ≤ i)
    (hx : -100000000 ≤ rd xs i ∧ rd xs i ≤ 100000000) (hy : -100000000 ≤ rd ys i ∧ rd ys i ≤ 100000000)
    (ha : w.cell? ⟨Ba, 0, none⟩ = some (.slice A xs.length c)) (hb : w.cell? ⟨Bb, 0, none⟩ = some (.slice B ys.length d)) :
    Calls Tryz.prog 115 #[.int .i64 i, .pointer (some ⟨Ba, 0, none⟩), .pointer (some ⟨Bb, 0, none⟩)] w fun e w' => e = .returned (.int .i64 (rd xs i - rd ys i)) ∧ ∃ m, w' = w.drewN m := by
  obtain ⟨x, hxx⟩ : ∃ x, rd xs i = x := ⟨_, rfl⟩
  obtain ⟨y, hyy⟩ : ∃ y, rd ys i = y := ⟨_, rfl⟩
  have q1 := fun n => at_quiet A c xs i w n h1 hi
  have q2 := fun n => at_quiet B d ys i w n h2 hi
  rw [hxx] at q1 hx ⊢
  rw [hyy] at q2 hy ⊢
  obtain ⟨hx1, hx2⟩ := hx
  obtain ⟨hy1, hy2⟩ := hy
  have Q1 := Aside0.mk q1
  have Q2 := Aside0.mk q2
  clear q1 q2 h1 h2 hxx hyy
  go_enter Tryz.func115, Tryz.ntmps115
  go_wp2_with fail
  go_quiet ((go_at_call 114; first | (with_reducible exact Q1.out _) | (with_reducible exact Q2.out _)))
  go_wp2_with fail
  go_ret
  exact ⟨rfl, _, rfl⟩

set_option maxHeartbeats 1000000 in
/-- the closure of by -/
theorem by1_calls (A : Option Addr) (c Ba Bb : Nat) (xs : List Int) (n i : Int) (w : World) (h1 : ReadsInt w .i64 A xs.length xs) (hi : 0 ≤ i)
    (hx : 0 ≤ rd xs i ∧ rd xs i ≤ 10000) (hn : 0 ≤ n ∧ n ≤ 10000)
    (ha : w.cell? ⟨Ba, 0, none⟩ = some (.slice A xs.length c)) (hb : w.cell? ⟨Bb, 0, none⟩ = some (.int .i64 n)) :
    Calls Tryz.prog 138 #[.int .i64 i, .pointer (some ⟨Ba, 0, none⟩), .pointer (some ⟨Bb, 0, none⟩)] w fun e w' => e = .returned (.int .i64 (rd xs i * n)) ∧ ∃ m, w' = w.drewN m := by
  obtain ⟨x, hxx⟩ : ∃ x, rd xs i = x := ⟨_, rfl⟩
  have q1 := fun m => at_quiet A c xs i w m h1 hi
  rw [hxx] at q1 hx ⊢
  obtain ⟨hx1, hx2⟩ := hx
  obtain ⟨hn1, hn2⟩ := hn
  have Q1 := Aside0.mk q1
  have hw : IntKind.i64.wrap (x * n) = x * n := by
    have h1 : 0 ≤ x * n := Int.mul_nonneg hx1 hn1
    have h2 : x * n ≤ 10000 * 10000 := Int.mul_le_mul hx2 hn2 hn1 (by omega)
    exact IntWalk.i64_in _ (by omega)
  clear q1 h1 hxx
  go_enter Tryz.func138, Tryz.ntmps138
  go_wp2_with fail
  go_quiet ((go_at_call 114; (with_reducible exact Q1.out _)))
  go_wp2_with fail
  go_ret
  exact ⟨rfl, _, rfl⟩

open Go.Proofs.YtnhjidbjibehpaaGreatDoor.Ref in
theorem trimmed_f : ∀ xs : List Int, xs.length ≤ 1000000000 → integer_number_trimmed.f (xs.length + 1) xs = some (trimL xs) := by
  intro xs
  suffices h : ∀ r : List Int, r.length ≤ 1000000000 → integer_number_trimmed.l0 (r.length + 1) r.reverse = some (trimL r.reverse) by
    intro hl
    have := h xs.reverse (by simpa using hl)
    simpa [integer_number_trimmed.f] using this
  intro r
  induction r with
  | nil => intro _; simp [integer_number_trimmed.l0, trimL]
  | cons a r ih =>
    intro hl
    have hl' : r.length + 1 ≤ 1000000000 := by simpa using hl
    have e0 : (((a :: r).reverse).length : Int) = (r.length : Int) + 1 := by simp
    have e1 : wrap64 ((((a :: r).reverse).length : Int) - 1) = (r.length : Int) := by rw [e0]; unfold wrap64; omega
    have e2 : rd (a :: r).reverse (r.length : Int) = a := by
      unfold rd
      rw [List.reverse_cons, List.getD_eq_getElem?_getD, Int.toNat_natCast, List.getElem?_append_right (by rw [List.length_reverse]; omega), List.length_reverse, Nat.sub_self]
      rfl
    rw [List.length_cons, integer_number_trimmed.l0]
    rw [e1, if_pos (by omega), if_pos (by omega), if_pos (by omega), e2]
    by_cases h : a = 0
    · subst h
      rw [if_pos rfl, if_pos (by omega)]
      have e3 : (0 :: r).reverse.take ((r.length : Int)).toNat = r.reverse := by
        rw [List.reverse_cons, Int.toNat_natCast, List.take_append_of_le_length (by rw [List.length_reverse]; omega)]
        exact List.take_of_length_le (by rw [List.length_reverse]; omega)
      rw [e3, ih (by omega), List.reverse_cons, trimL_snoc_zero]
    · rw [if_neg h, List.reverse_cons, trimL_snoc _ h]

open Go.Proofs.YtnhjidbjibehpaaGreatDoor.Ref in
theorem trimmed_calls (v : Value) (xs : List Int) (w : World) (h : Ls w v xs) (hl : xs.length ≤ 1000000000) :
    Calls Tryz.prog 107 #[v] w fun e w' => ∃ v', e = .returned v' ∧ Ls w' v' (trimL xs) ∧ Below w.heap.size w w' := by
  obtain ⟨A, c, rfl, hc, hr⟩ := h
  have hV : Kd.V (Kd.int .i64) 3 w w.heap.size (fun k_ => k_ < w.heap.size) (.slice A xs.length c) xs :=
    ⟨A, c, rfl, hc, Kd.C_F (Kd.heap_int .i64) (Kd.C_of_reads (enc := Value.int .i64) (d := (0 : Int)) (h1 := fun _ => rfl) hr)⟩
  refine (integer_number_trimmed.calls (xs.length + 1) _ A c xs (trimL xs) w hV (trimmed_f xs hl)).mono ?_
  rintro e w' ⟨v', rfl, hv, hb⟩
  refine ⟨v', rfl, ?_, hb⟩
  obtain ⟨A', c', rfl⟩ := Kd.V_slice hv
  have hq := Kd.V_reads' hv
  exact ⟨A', c', rfl, hq.2.1, Kd.reads_of_C (enc := Value.int .i64) (d := (0 : Int)) (h1 := fun _ => rfl) hq.2.2⟩

end Go.Proofs.YtnhjidbjibehpaaGreatDoor.L3

/- Layer 3, walked: plus, minus and by of absolute values. -/
namespace Go.Proofs.YtnhjidbjibehpaaGreatDoor.L3
open Go.Shelf Go.RowKit Go.Proofs.YtnhjidbjibehpaaGreatDoorW.PrintWords Go.Proofs.YtnhjidbjibehpaaGreatDoorW.PrintLast Go.Proofs.YtnhjidbjibehpaaGreatDoorW.PrintMore Yd
attribute [local go_sem] max2_int max_two

set_option linter.unusedVariables false
set_option linter.unusedSimpArgs false

/-- The slice value is the absolute value n. -/
def Nm (w : World) (v : Value) (n : Nat) : Prop := Ls w v (bd 10000 n)
theorem Nm.below {w w1 : World} {v : Value} {n : Nat} (h : Nm w v n) (hb : Below w.heap.size w w1) : Nm w1 v n := Ls.below h hb

/-- so many groups are enough -/
abbrev GL (n : Nat) : Nat := (bd 10000 n).length

theorem rd_bd (n k : Nat) : rd (bd 10000 n) (k : Int) = ((n / 10000 ^ k % 10000 : Nat) : Int) := by
  unfold rd; rw [Int.toNat_natCast, bd_getD (by omega)]
theorem rd_bd_range (n k : Nat) : 0 ≤ rd (bd 10000 n) (k : Int) ∧ rd (bd 10000 n) (k : Int) < 10000 := by
  rw [rd_bd]
  have := Nat.mod_lt (n / 10000 ^ k) (show 10000 > 0 by omega)
  omega
theorem rd_bd_zero {n k : Nat} (h : GL n ≤ k) : rd (bd 10000 n) (k : Int) = 0 := by
  unfold rd
  rw [Int.toNat_natCast, List.getD_eq_getElem?_getD, List.getElem?_eq_none h]; rfl

theorem sumF_add (f g : Nat → Int) : ∀ k, sumF (fun i => f i + g i) k = sumF f k + sumF g k
  | 0 => rfl
  | k + 1 => by simp only [sumF, sumF_add f g k, Int.add_mul]; omega
theorem sumF_sub (f g : Nat → Int) : ∀ k, sumF (fun i => f i - g i) k = sumF f k - sumF g k
  | 0 => rfl
  | k + 1 => by simp only [sumF, sumF_sub f g k, Int.sub_mul]; omega
theorem sumF_mul (f : Nat → Int) (c : Int) : ∀ k, sumF (fun i => f i * c) k = sumF f k * c
  | 0 => by simp [sumF]
  | k + 1 => by
    simp only [sumF, sumF_mul f c k, Int.add_mul]
    congr 1
    rw [Int.mul_assoc, Int.mul_assoc, Int.mul_comm c]
theorem sumF_digits (n : Nat) : ∀ k, sumF (fun i => rd (bd 10000 n) (i : Int)) k = ((n % 10000 ^ k : Nat) : Int)
  | 0 => by simp [sumF, Nat.mod_one]
  | k + 1 => by
    simp only [sumF, sumF_digits n k, rd_bd]
    have h := sumF_digits n k
    simp only [rd_bd] at h
    have e : n % (10000 ^ k * 10000) = n % 10000 ^ k + 10000 ^ k * (n / 10000 ^ k % 10000) := Nat.mod_mul
    rw [h, Nat.pow_succ, e, Int.natCast_add, Int.natCast_mul, Int.natCast_pow, Int.mul_comm]
    rfl
theorem lt_pow_GL {n k : Nat} (h : GL n ≤ k) : n < 10000 ^ k :=
  Nat.lt_of_lt_of_le (bd_lt_pow (by omega) n) (Nat.pow_le_pow_right (by omega) h)
theorem sumF_all {n k : Nat} (h : GL n ≤ k) : sumF (fun i => rd (bd 10000 n) (i : Int)) k = (n : Int) := by
  rw [sumF_digits, Nat.mod_eq_of_lt (lt_pow_GL h)]

theorem trimL_num {o : List Int} (hd : ∀ d ∈ o, 0 ≤ d ∧ d < 10000) {n : Nat} (h : bv 10000 o = (n : Int)) : trimL o = bd 10000 n := by
  rw [trimL_bd (B := 10000) (by omega) o hd, h, Int.toNat_natCast]
theorem GL_lt {n k : Nat} (h : n < 10000 ^ k) : GL n ≤ k := bd_length_le (by omega) n k h

theorem two_boxes (w : World) (x y : Value) (t u : TypeId) : Below w.heap.size w ((w.alloc (.cells #[x] t)).alloc (.cells #[y] u)) ∧
    ((w.alloc (.cells #[x] t)).alloc (.cells #[y] u)).cell? ⟨w.heap.size, 0, none⟩ = some x ∧ ((w.alloc (.cells #[x] t)).alloc (.cells #[y] u)).cell? ⟨w.heap.size + 1, 0, none⟩ = some y :=
  ⟨below_alloc (below_alloc (Below.refl _ _) _) _, by simp, by rw [World.cell?_alloc_at _ _ _ _ (by simp)]; rfl⟩

/-- what fold comes to, trimmed -/
theorem fold_trim {w w1 : World} {v : Value} {o : List Int} {s : Int} {n : Nat} (ho : w1.ownsRow w.heap.size 3 1 v o.length (nums .i64 o)) (hd : ∀ d ∈ o, 0 ≤ d ∧ d < 10000) (hs : bv 10000 o = s) (hn : s = (n : Int)) (hl : o.length ≤ 1000000000) (hb : Below w.heap.size w w1) :
    Calls Tryz.prog 107 #[v] w1 fun e w' => ∃ v', e = .returned v' ∧ Nm w' v' n ∧ Below w.heap.size w w' :=
  (trimmed_calls v o w1 (Ls.of_own ho) hl).mono (by
    rintro e w' ⟨v', rfl, h1, h2⟩
    exact ⟨v', rfl, by rw [trimL_num hd (hs.trans hn)] at h1; exact h1, hb.trans (h2.mono hb.size)⟩)

set_option maxHeartbeats 1000000 in
/-- plus -/
theorem nplus_calls (v1 v2 : Value) (a b : Nat) (w : World) (h1 : Nm w v1 a) (h2 : Nm w v2 b) (ha : GL a ≤ 1000) (hb : GL b ≤ 1000) :
    Calls Tryz.prog 86 #[v1, v2] w fun e w' => ∃ v, e = .returned v ∧ Nm w' v (a + b) ∧ Below w.heap.size w w' := by
  obtain ⟨A1, c1, rfl, hc1, hr1⟩ := h1
  obtain ⟨A2, c2, rfl, hc2, hr2⟩ := h2
  have HR1 := Aside0.mk hr1
  have HR2 := Aside0.mk hr2
  have hla : (bd 10000 a).length ≤ 1000 := ha
  have hlb : (bd 10000 b).length ≤ 1000 := hb
  have key : ∀ N : Nat, GL a ≤ N → GL b ≤ N → N ≤ 1000 → Calls Tryz.prog 112 #[.int .i64 N, .int .i64 0, .func (.func 113) #[] #[.pointer (some ⟨w.heap.size, 0, none⟩), .pointer (some ⟨w.heap.size + 1, 0, none⟩)]]
      ((w.alloc (.cells #[.slice A1 (bd 10000 a).length c1] 98)).alloc (.cells #[.slice A2 (bd 10000 b).length c2] 98)) fun e w' => ∃ v o, e = .returned v ∧ (w'.ownsRow w.heap.size 3 1 v o.length (nums .i64 o)) ∧ (∀ d ∈ o, 0 ≤ d ∧ d < 10000) ∧ bv 10000 o = ((a + b : Nat) : Int) ∧ o.length ≤ 1000000000 ∧ Below w.heap.size w w' := by
    intro N hNa hNb hN
    obtain ⟨tb, t1, t2⟩ := two_boxes w (.slice A1 (bd 10000 a).length c1) (.slice A2 (bd 10000 b).length c2) 98 98
    generalize hW0 : (w.alloc (.cells #[.slice A1 (bd 10000 a).length c1] 98)).alloc (.cells #[.slice A2 (bd 10000 b).length c2] 98) = W0 at *
    have hs : sumF (fun i => rd (bd 10000 a) (i : Int) + rd (bd 10000 b) (i : Int)) N = ((a + b : Nat) : Int) := by
      rw [sumF_add, sumF_all hNa, sumF_all hNb]; norm_cast
    refine (fold_calls 113 _ (fun i => rd (bd 10000 a) (i : Int) + rd (bd 10000 b) (i : Int)) N W0 (by omega) (enters_of Tryz.func113 (by kernel_rfl) rfl) ?_ (by rw [hs]; omega) ?_ ?_).mono ?_
    · intro k W hW
      have hbW : Below w.heap.size w W := tb.trans (hW.mono tb.size)
      have ra := rd_bd_range a k
      have rb := rd_bd_range b k
      exact plus1_calls A1 A2 c1 c2 _ _ _ _ k W (HR1.out.below hbW) (HR2.out.below hbW) (by omega) (by omega) (by omega) ((hW.cell (World.block_lt_of_cell? W0 _ t1)).trans t1) ((hW.cell (World.block_lt_of_cell? W0 _ t2)).trans t2)
    · intro j hj
      rw [rd_bd_zero (by omega), rd_bd_zero (by omega)]; rfl
    · intro j
      have ra := rd_bd_range a j
      have rb := rd_bd_range b j
      omega
    · rintro e w' ⟨v, o, rfl, ho, hd, hv, hln, hb'⟩
      exact ⟨v, o, rfl, own_weaken ho tb.size, hd, hv.trans hs, by omega, tb.trans (hb'.mono tb.size)⟩
  have KEY := Aside0.mk key
  clear hr1 hr2 hc1 hc2 ha hb key
  go_enter Tryz.func86, Tryz.ntmps86
  go_wp2_with fail
  all_goals
    (first | (with_reducible refine (KEY.out (bd 10000 a).length (Nat.le_refl _) ?g1 hla).mono ?_) | (with_reducible refine (KEY.out (bd 10000 b).length ?g1 (Nat.le_refl _) hlb).mono ?_))
    case g1 => unfold GL; omega
    rintro e w1 ⟨v, o, rfl, ho, hd, hv, hl, hb⟩
    have FT := Aside0.mk (fold_trim ho hd hv rfl hl hb)
    clear ho hd hv hl hb
    go_wp2_with fail
    refine FT.out.mono ?_
    rintro e w2 ⟨v', rfl, hn, hb⟩
    have HN := Aside0.mk hn
    have HB := Aside0.mk hb
    clear hn hb FT
    go_wp2_with fail
    go_ret
    exact ⟨_, rfl, HN.out, HB.out⟩

set_option maxHeartbeats 1000000 in
/-- minus -/
theorem nminus_calls (v1 v2 : Value) (a b : Nat) (w : World) (h1 : Nm w v1 a) (h2 : Nm w v2 b) (ha : GL a ≤ 1000) (hba : b ≤ a) :
    Calls Tryz.prog 88 #[v1, v2] w fun e w' => ∃ v, e = .returned v ∧ Nm w' v (a - b) ∧ Below w.heap.size w w' := by
  obtain ⟨A1, c1, rfl, hc1, hr1⟩ := h1
  obtain ⟨A2, c2, rfl, hc2, hr2⟩ := h2
  have HR1 := Aside0.mk hr1
  have HR2 := Aside0.mk hr2
  have hla : (bd 10000 a).length ≤ 1000 := ha
  have hgl : GL b ≤ GL a := bd_length_mono (by omega) hba
  have hlb : (bd 10000 b).length ≤ 1000 := Nat.le_trans hgl ha
  have key : ∀ N : Nat, GL a ≤ N → GL b ≤ N → N ≤ 1000 → Calls Tryz.prog 112 #[.int .i64 N, .int .i64 0, .func (.func 115) #[] #[.pointer (some ⟨w.heap.size, 0, none⟩), .pointer (some ⟨w.heap.size + 1, 0, none⟩)]]
      ((w.alloc (.cells #[.slice A1 (bd 10000 a).length c1] 98)).alloc (.cells #[.slice A2 (bd 10000 b).length c2] 98)) fun e w' => ∃ v o, e = .returned v ∧ (w'.ownsRow w.heap.size 3 1 v o.length (nums .i64 o)) ∧ (∀ d ∈ o, 0 ≤ d ∧ d < 10000) ∧ bv 10000 o = ((a - b : Nat) : Int) ∧ o.length ≤ 1000000000 ∧ Below w.heap.size w w' := by
    intro N hNa hNb hN
    obtain ⟨tb, t1, t2⟩ := two_boxes w (.slice A1 (bd 10000 a).length c1) (.slice A2 (bd 10000 b).length c2) 98 98
    generalize hW0 : (w.alloc (.cells #[.slice A1 (bd 10000 a).length c1] 98)).alloc (.cells #[.slice A2 (bd 10000 b).length c2] 98) = W0 at *
    have hs : sumF (fun i => rd (bd 10000 a) (i : Int) - rd (bd 10000 b) (i : Int)) N = ((a - b : Nat) : Int) := by
      rw [sumF_sub, sumF_all hNa, sumF_all hNb]; omega
    refine (fold_calls 115 _ (fun i => rd (bd 10000 a) (i : Int) - rd (bd 10000 b) (i : Int)) N W0 (by omega) (enters_of Tryz.func115 (by kernel_rfl) rfl) ?_ (by rw [hs]; omega) ?_ ?_).mono ?_
    · intro k W hW
      have hbW : Below w.heap.size w W := tb.trans (hW.mono tb.size)
      have ra := rd_bd_range a k
      have rb := rd_bd_range b k
      exact minus1_calls A1 A2 c1 c2 _ _ _ _ k W (HR1.out.below hbW) (HR2.out.below hbW) (by omega) (by omega) (by omega) ((hW.cell (World.block_lt_of_cell? W0 _ t1)).trans t1) ((hW.cell (World.block_lt_of_cell? W0 _ t2)).trans t2)
    · intro j hj
      rw [rd_bd_zero (by omega), rd_bd_zero (by omega)]; rfl
    · intro j
      have ra := rd_bd_range a j
      have rb := rd_bd_range b j
      omega
    · rintro e w' ⟨v, o, rfl, ho, hd, hv, hln, hb'⟩
      exact ⟨v, o, rfl, own_weaken ho tb.size, hd, hv.trans hs, by omega, tb.trans (hb'.mono tb.size)⟩
  have KEY := Aside0.mk key
  have HGL : Aside0 (GL b ≤ (bd 10000 a).length) := ⟨hgl⟩
  clear hr1 hr2 hc1 hc2 ha hba hgl key
  go_enter Tryz.func88, Tryz.ntmps88
  go_wp2_with fail
  all_goals
    (with_reducible refine (KEY.out (bd 10000 a).length (Nat.le_refl _) HGL.out hla).mono ?_)
    rintro e w1 ⟨v, o, rfl, ho, hd, hv, hl, hb⟩
    have FT := Aside0.mk (fold_trim ho hd hv rfl hl hb)
    clear ho hd hv hl hb
    go_wp2_with fail
    refine FT.out.mono ?_
    rintro e w2 ⟨v', rfl, hn, hb⟩
    have HN := Aside0.mk hn
    have HB := Aside0.mk hb
    clear hn hb FT
    go_wp2_with fail
    go_ret
    exact ⟨_, rfl, HN.out, HB.out⟩

set_option maxHeartbeats 1000000 in
/-- by: the product with a single group -/
theorem nby_calls (v1 : Value) (a b : Nat) (w : World) (h1 : Nm w v1 a) (ha : GL a ≤ 1000) (hb : b ≤ 9999) :
    Calls Tryz.prog 108 #[v1, .int .i64 b] w fun e w' => ∃ v, e = .returned v ∧ Nm w' v (a * b) ∧ Below w.heap.size w w' := by
  obtain ⟨A1, c1, rfl, hc1, hr1⟩ := h1
  have HR1 := Aside0.mk hr1
  have hla : (bd 10000 a).length ≤ 1000 := ha
  have key : ∀ N : Nat, GL a ≤ N → N ≤ 1000 → Calls Tryz.prog 112 #[.int .i64 N, .int .i64 0, .func (.func 138) #[] #[.pointer (some ⟨w.heap.size, 0, none⟩), .pointer (some ⟨w.heap.size + 1, 0, none⟩)]]
      ((w.alloc (.cells #[.slice A1 (bd 10000 a).length c1] 98)).alloc (.cells #[.int .i64 b] 3)) fun e w' => ∃ v o, e = .returned v ∧ (w'.ownsRow w.heap.size 3 1 v o.length (nums .i64 o)) ∧ (∀ d ∈ o, 0 ≤ d ∧ d < 10000) ∧ bv 10000 o = ((a * b : Nat) : Int) ∧ o.length ≤ 1000000000 ∧ Below w.heap.size w w' := by
    intro N hNa hN
    obtain ⟨tb, t1, t2⟩ := two_boxes w (.slice A1 (bd 10000 a).length c1) (.int .i64 b) 98 3
    generalize hW0 : (w.alloc (.cells #[.slice A1 (bd 10000 a).length c1] 98)).alloc (.cells #[.int .i64 b] 3) = W0 at *
    have hs : sumF (fun i => rd (bd 10000 a) (i : Int) * (b : Int)) N = ((a * b : Nat) : Int) := by
      rw [sumF_mul, sumF_all hNa]; norm_cast
    refine (fold_calls 138 _ (fun i => rd (bd 10000 a) (i : Int) * (b : Int)) N W0 (by omega) (enters_of Tryz.func138 (by kernel_rfl) rfl) ?_ (by rw [hs]; omega) ?_ ?_).mono ?_
    · intro k W hW
      have hbW : Below w.heap.size w W := tb.trans (hW.mono tb.size)
      have ra := rd_bd_range a k
      exact by1_calls A1 c1 _ _ _ b k W (HR1.out.below hbW) (by omega) (by omega) (by omega) ((hW.cell (World.block_lt_of_cell? W0 _ t1)).trans t1) ((hW.cell (World.block_lt_of_cell? W0 _ t2)).trans t2)
    · intro j hj
      rw [rd_bd_zero (by omega)]; simp
    · intro j
      have ra := rd_bd_range a j
      have h1 : 0 ≤ rd (bd 10000 a) (j : Int) * (b : Int) := Int.mul_nonneg ra.1 (by omega)
      have h2 : rd (bd 10000 a) (j : Int) * (b : Int) ≤ 9999 * 9999 := Int.mul_le_mul (by omega) (by omega) (by omega) (by omega)
      omega
    · rintro e w' ⟨v, o, rfl, ho, hd, hv, hln, hb'⟩
      exact ⟨v, o, rfl, own_weaken ho tb.size, hd, hv.trans hs, by omega, tb.trans (hb'.mono tb.size)⟩
  have KEY := Aside0.mk key
  clear hr1 hc1 ha key
  go_enter Tryz.func108, Tryz.ntmps108
  go_wp2_with fail
  all_goals
    (with_reducible refine (KEY.out (bd 10000 a).length (Nat.le_refl _) hla).mono ?_)
    rintro e w1 ⟨v, o, rfl, ho, hd, hv, hl, hb⟩
    have FT := Aside0.mk (fold_trim ho hd hv rfl hl hb)
    clear ho hd hv hl hb
    go_wp2_with fail
    refine FT.out.mono ?_
    rintro e w2 ⟨v', rfl, hn, hb⟩
    have HN := Aside0.mk hn
    have HB := Aside0.mk hb
    clear hn hb FT
    go_wp2_with fail
    go_ret
    exact ⟨_, rfl, HN.out, HB.out⟩

end Go.Proofs.YtnhjidbjibehpaaGreatDoor.L3

/- Plain decimal texts: which texts are integers of at most 200 digits, and of which number. No program in this text. -/
namespace Yd
open Go.Lib

def isDig (b : UInt8) : Bool := decide (48 ≤ b.toNat) && decide (b.toNat ≤ 57)
def dval (l : List UInt8) : Nat := l.foldl (fun a b => a * 10 + (b.toNat - 48)) 0

theorem isDig_iff {b : UInt8} : isDig b = true ↔ 48 ≤ b.toNat ∧ b.toNat ≤ 57 := by simp [isDig]
theorem dig_toNat {d : Nat} (h : d < 10) : (UInt8.ofNat (48 + d)).toNat = 48 + d := by
  rw [UInt8.toNat_ofNat']; exact Nat.mod_eq_of_lt (by omega)
theorem isDig_ofNat {d : Nat} (h : d < 10) : isDig (UInt8.ofNat (48 + d)) = true := by rw [isDig_iff, dig_toNat h]; omega
theorem ofNat_dig {b : UInt8} (h : isDig b = true) : UInt8.ofNat (48 + (b.toNat - 48)) = b := by
  have := isDig_iff.1 h
  rw [show 48 + (b.toNat - 48) = b.toNat by omega]; exact UInt8.ofNat_toNat

theorem dval_nil : dval [] = 0 := rfl
theorem dval_snoc (l : List UInt8) (b : UInt8) : dval (l ++ [b]) = dval l * 10 + (b.toNat - 48) := by simp [dval]
theorem dval_append (l : List UInt8) : ∀ r : List UInt8, dval (l ++ r) = dval l * 10 ^ r.length + dval r := by
  intro r
  suffices h : ∀ q : List UInt8, dval (l ++ q.reverse) = dval l * 10 ^ q.length + dval q.reverse by simpa using h r.reverse
  intro q
  induction q with
  | nil => simp [dval_nil]
  | cons b q ih =>
    rw [List.reverse_cons, ← List.append_assoc, dval_snoc, dval_snoc, ih, List.length_cons, Nat.pow_succ, Nat.add_mul, Nat.mul_assoc]; omega

theorem dval_lt : ∀ l : List UInt8, l.all isDig = true → dval l < 10 ^ l.length := by
  intro l
  suffices h : ∀ q : List UInt8, q.reverse.all isDig = true → dval q.reverse < 10 ^ q.length by
    intro hl; simpa using h l.reverse (by simpa using hl)
  intro q
  induction q with
  | nil => simp [dval_nil]
  | cons b q ih =>
    intro h
    rw [List.reverse_cons, List.all_append, Bool.and_eq_true] at h
    have hb : isDig b = true := by simpa using h.2
    have := isDig_iff.1 hb
    have h1 := ih h.1
    rw [List.reverse_cons, dval_snoc, List.length_cons, Nat.pow_succ]; omega

theorem decDigits_small {u : Nat} (h : u < 10) : decDigits u = [UInt8.ofNat (48 + u)] := by rw [decDigits, dif_pos h]
theorem decDigits_big {u : Nat} (h : ¬ u < 10) : decDigits u = decDigits (u / 10) ++ [UInt8.ofNat (48 + u % 10)] := by rw [decDigits, dif_neg h]

theorem decDigits_ne (u : Nat) : decDigits u ≠ [] := by
  by_cases h : u < 10
  · rw [decDigits_small h]; simp
  · rw [decDigits_big h]; simp

theorem dval_decDigits : ∀ u : Nat, dval (decDigits u) = u := by
  intro u
  induction u using Nat.strongRecOn with
  | _ u ih =>
    by_cases h : u < 10
    · rw [decDigits_small h, show [UInt8.ofNat (48 + u)] = [] ++ [UInt8.ofNat (48 + u)] from rfl, dval_snoc, dig_toNat h, dval_nil]; omega
    · rw [decDigits_big h, dval_snoc, ih _ (by omega), dig_toNat (by omega)]; omega

theorem decDigits_all : ∀ u : Nat, (decDigits u).all isDig = true := by
  intro u
  induction u using Nat.strongRecOn with
  | _ u ih =>
    by_cases h : u < 10
    · rw [decDigits_small h, List.all_cons, isDig_ofNat h]; rfl
    · rw [decDigits_big h, List.all_append, ih _ (by omega), List.all_cons, isDig_ofNat (show u % 10 < 10 by omega)]; rfl

theorem decDigits_head : ∀ u : Nat, 0 < u → (decDigits u).head? ≠ some 48 := by
  intro u
  induction u using Nat.strongRecOn with
  | _ u ih =>
    intro h0
    by_cases h : u < 10
    · rw [decDigits_small h]
      intro hc
      have : UInt8.ofNat (48 + u) = 48 := by simpa using hc
      have := congrArg UInt8.toNat this
      rw [dig_toNat h] at this
      have h48 : (48 : UInt8).toNat = 48 := rfl
      omega
    · rw [decDigits_big h]
      have := ih (u / 10) (by omega) (by omega)
      cases hd : decDigits (u / 10) with
      | nil => exact absurd hd (decDigits_ne _)
      | cons a t => rw [hd] at this; simpa using this

theorem decDigits_zero : decDigits 0 = [48] := by rw [decDigits_small (by omega)]; rfl

theorem dval_pos_of_head {l : List UInt8} (ha : l.all isDig = true) (hn : l ≠ []) (hh : l.head? ≠ some 48) : 0 < dval l := by
  cases l with
  | nil => exact absurd rfl hn
  | cons b r =>
    have hb : isDig b = true := by simp at ha; exact ha.1
    have hb' := isDig_iff.1 hb
    have hne : b.toNat ≠ 48 := by
      intro hc
      apply hh
      have : b = 48 := by
        apply UInt8.toNat_inj.1; rw [hc]; rfl
      simp [this]
    rw [show b :: r = [b] ++ r from rfl, dval_append]
    have h1 : dval [b] = b.toNat - 48 := by simp [dval]
    have h2 : 0 < 10 ^ r.length := Nat.pow_pos (by omega)
    have h3 : 1 * 10 ^ r.length ≤ dval [b] * 10 ^ r.length := Nat.mul_le_mul_right _ (by omega)
    omega

theorem decDigits_dval : ∀ l : List UInt8, l.all isDig = true → l ≠ [] → (l = [48] ∨ l.head? ≠ some 48) → decDigits (dval l) = l := by
  intro l
  suffices h : ∀ q : List UInt8, q.reverse.all isDig = true → q.reverse ≠ [] → (q.reverse = [48] ∨ q.reverse.head? ≠ some 48) → decDigits (dval q.reverse) = q.reverse by
    simpa using h l.reverse
  intro q
  induction q with
  | nil => intro _ h; exact absurd rfl h
  | cons b q ih =>
    intro ha _ hh
    rw [List.reverse_cons] at ha hh ⊢
    rw [List.all_append, Bool.and_eq_true] at ha
    have hb : isDig b = true := by simpa using ha.2
    have hb' := isDig_iff.1 hb
    rw [dval_snoc]
    by_cases hq : q = []
    · subst hq
      rw [List.reverse_nil, dval_nil, decDigits_small (by omega), Nat.zero_mul, Nat.zero_add, ofNat_dig hb]; rfl
    · have hqr : q.reverse ≠ [] := by simpa using hq
      have hh' : q.reverse.head? ≠ some 48 := by
        rcases hh with hh | hh
        · exfalso
          have := congrArg List.length hh
          simp at this
          exact hq this
        · cases hr : q.reverse with
          | nil => exact absurd hr hqr
          | cons a t => rw [hr] at hh; simpa using hh
      have hp := dval_pos_of_head ha.1 hqr hh'
      rw [decDigits_big (by omega), show (dval q.reverse * 10 + (b.toNat - 48)) / 10 = dval q.reverse by omega,
        show (dval q.reverse * 10 + (b.toNat - 48)) % 10 = b.toNat - 48 by omega, ih ha.1 hqr (Or.inr hh'), ofNat_dig hb]

theorem decDigits_inj {a b : Nat} (h : decDigits a = decDigits b) : a = b := by rw [← dval_decDigits a, h, dval_decDigits]

theorem decDigits_length_le {n k : Nat} (hk : 0 < k) : (decDigits n).length ≤ k ↔ n < 10 ^ k := by
  constructor
  · intro h
    have := dval_lt _ (decDigits_all n)
    rw [dval_decDigits] at this
    exact Nat.lt_of_lt_of_le this (Nat.pow_le_pow_right (by omega) h)
  · revert n
    induction k with
    | zero => omega
    | succ k ih =>
      intro n h
      by_cases hs : n < 10
      · rw [decDigits_small hs]; simp
      · rw [decDigits_big hs, List.length_append]
        rcases Nat.eq_zero_or_pos k with rfl | hk'
        · simp at h; omega
        · have := ih hk' (n := n / 10) (by rw [Nat.pow_succ] at h; omega)
          simp; omega

/-- what stands behind a '-' in front -/
def body (l : List UInt8) : List UInt8 := if l.head? = some 45 then l.tail else l
def neg (l : List UInt8) : Bool := l.head? == some 45

def ivalid (l : List UInt8) : Bool :=
  !(body l).isEmpty && decide ((body l).length ≤ 200) && (body l).all isDig && (l == [48] || (body l).head? != some 48)

def ival (l : List UInt8) : Option Int := if ivalid l then some (if neg l then -(dval (body l) : Int) else (dval (body l) : Int)) else none

/-- what 200 digits can write -/
def DL : Nat := 10 ^ 200
theorem DL_eq : DL = 10 ^ 200 := rfl

theorem decDigits_DL {n : Nat} : (decDigits n).length ≤ 200 ↔ n < DL := decDigits_length_le (by omega)

theorem body_neg (l : List UInt8) : body (45 :: l) = l := by simp [body]
theorem decDigits_head45 (n : Nat) : (decDigits n).head? ≠ some 45 := by
  cases h : decDigits n with
  | nil => simp
  | cons a t =>
    have := decDigits_all n
    rw [h] at this
    simp at this
    have ha := isDig_iff.1 this.1
    intro hc
    have : a = 45 := by simpa using hc
    rw [this] at ha
    have h45 : (45 : UInt8).toNat = 45 := rfl
    omega
theorem body_dec (n : Nat) : body (decDigits n) = decDigits n := by rw [body, if_neg (decDigits_head45 n)]
theorem neg_dec (n : Nat) : neg (decDigits n) = false := by simpa [neg] using decDigits_head45 n

theorem itoa_neg {x : Int} (h : x < 0) : itoa x = 45 :: decDigits x.natAbs := by rw [itoa, if_pos h]
theorem itoa_pos {x : Int} (h : 0 ≤ x) : itoa x = decDigits x.natAbs := by rw [itoa, if_neg (by omega), show x.toNat = x.natAbs by omega]
theorem itoa_body (x : Int) : body (itoa x) = decDigits x.natAbs := by
  by_cases h : x < 0
  · rw [itoa_neg h, body_neg]
  · rw [itoa_pos (by omega), body_dec]
theorem itoa_isneg (x : Int) : neg (itoa x) = decide (x < 0) := by
  by_cases h : x < 0
  · rw [itoa_neg h]; simp [neg, h]
  · rw [itoa_pos (by omega), neg_dec]; simp [h]
theorem itoa_inj {x y : Int} (h : itoa x = itoa y) : x = y := by
  have h1 := itoa_body x
  rw [h, itoa_body] at h1
  have h2 := decDigits_inj h1
  have h3 := itoa_isneg x
  rw [h, itoa_isneg] at h3
  by_cases hx : x < 0 <;> by_cases hy : y < 0 <;> simp [hx, hy] at h3 <;> omega
theorem itoa_ne (x : Int) : itoa x ≠ [] := by
  intro h
  have := itoa_body x
  rw [h] at this
  exact decDigits_ne _ this.symm

theorem ivalid_itoa {x : Int} (h : x.natAbs < DL) : ivalid (itoa x) = true := by
  unfold ivalid
  rw [itoa_body]
  have h1 : (decDigits x.natAbs).isEmpty = false := by simpa using decDigits_ne x.natAbs
  have h2 : (decDigits x.natAbs).length ≤ 200 := decDigits_DL.2 h
  have h3 : (itoa x == [48] || (decDigits x.natAbs).head? != some 48) = true := by
    by_cases h0 : x = 0
    · subst h0; rw [itoa_pos (by omega)]; simp [decDigits_zero]
    · have := decDigits_head x.natAbs (by omega)
      simp [this]
  simp only [h1, h2, h3, decDigits_all]; decide

theorem ival_itoa {x : Int} (h : x.natAbs < DL) : ival (itoa x) = some x := by
  rw [ival, if_pos (ivalid_itoa h), itoa_body, dval_decDigits, itoa_isneg]
  by_cases hx : x < 0
  · simp only [hx, decide_true, if_true]; congr 1; omega
  · simp only [hx, decide_false]; congr 1; simp; omega

theorem ivalid_parts {l : List UInt8} (h : ivalid l = true) : body l ≠ [] ∧ (body l).length ≤ 200 ∧ (body l).all isDig = true ∧ (l = [48] ∨ (body l).head? ≠ some 48) := by
  unfold ivalid at h
  simp only [Bool.and_eq_true, Bool.not_eq_true', List.isEmpty_eq_false_iff, decide_eq_true_eq, Bool.or_eq_true, beq_iff_eq, bne_iff_ne] at h
  exact ⟨h.1.1.1, h.1.1.2, h.1.2, h.2⟩

theorem ival_eq {l : List UInt8} {x : Int} (h : ival l = some x) : l = itoa x ∧ x.natAbs < DL := by
  unfold ival at h
  by_cases hv : ivalid l = true
  · rw [if_pos hv] at h
    obtain ⟨h1, h2, h3, h4⟩ := ivalid_parts hv
    have h4' : body l = [48] ∨ (body l).head? ≠ some 48 := by
      rcases h4 with h4 | h4
      · left; rw [h4]; rfl
      · exact Or.inr h4
    have hd := decDigits_dval (body l) h3 h1 h4'
    have hl : dval (body l) < DL := decDigits_DL.1 (by rw [hd]; exact h2)
    by_cases hn : l.head? = some 45
    · have hne : neg l = true := by simp [neg, hn]
      rw [hne, if_pos rfl] at h
      have hx : x = -(dval (body l) : Int) := by simpa using h.symm
      have hb : l = 45 :: body l := by
        cases l with
        | nil => simp at hn
        | cons a t => simp at hn; subst hn; rw [body_neg]
      have hpos : 0 < dval (body l) := by
        apply dval_pos_of_head h3 h1
        rcases h4 with h4 | h4
        · rw [h4] at hn; simp at hn
        · exact h4
      refine ⟨?_, by omega⟩
      rw [itoa_neg (by omega), show x.natAbs = dval (body l) by omega, hd]; exact hb
    · have hne : neg l = false := by simpa [neg] using hn
      rw [hne] at h
      have hx : x = (dval (body l) : Int) := by simpa using h.symm
      have hb : body l = l := by rw [body, if_neg hn]
      refine ⟨?_, by omega⟩
      rw [itoa_pos (by omega), show x.natAbs = dval (body l) by omega, hd, hb]
  · rw [if_neg hv] at h; cases h

theorem ival_iff {l : List UInt8} {x : Int} : ival l = some x ↔ l = itoa x ∧ x.natAbs < DL :=
  ⟨ival_eq, fun ⟨h1, h2⟩ => h1 ▸ ival_itoa h2⟩

theorem ivalid_iff_isSome (l : List UInt8) : ivalid l = (ival l).isSome := by
  unfold ival; cases ivalid l <;> simp

/-- decimal digits are the digits in base ten, turned round -/
theorem decDigits_bd : ∀ n : Nat, 0 < n → decDigits n = (bd 10 n).reverse.map (fun d => UInt8.ofNat (48 + d.toNat)) := by
  intro n
  induction n using Nat.strongRecOn with
  | _ n ih =>
    intro h0
    rw [bd_pos (by omega) h0, List.reverse_cons, List.map_append]
    by_cases h : n < 10
    · rw [decDigits_small h, Nat.div_eq_of_lt h, bd_zero, Nat.mod_eq_of_lt h]; simp
    · rw [decDigits_big h, ih (n / 10) (by omega) (by omega)]
      congr 1

end Yd
