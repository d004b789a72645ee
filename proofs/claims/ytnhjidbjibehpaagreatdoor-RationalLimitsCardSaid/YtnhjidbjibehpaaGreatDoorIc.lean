/- Layer 3, walked: the closures of plus, minus and by; trimmed; plus, minus, by. -/
import Derived.Test.YtnhjidbjibehpaaGreatDoorIb
import Derived.Test.YtnhjidbjibehpaaGreatDoorRef11
namespace Go.Proofs.YtnhjidbjibehpaaGreatDoor.L3
open Go.RowKit Go.Proofs.YtnhjidbjibehpaaGreatDoorW.PrintWords Go.Proofs.YtnhjidbjibehpaaGreatDoorW.PrintLast Go.Proofs.YtnhjidbjibehpaaGreatDoorW.PrintMore Yd
set_option linter.unusedVariables false
set_option linter.unusedSimpArgs false

theorem ReadsInt.drewN {w : World} {A : Option Addr} {n : Nat} {xs : List Int} (h : ReadsInt w .i64 A n xs) (m : Nat) : ReadsInt (w.drewN m) .i64 A n xs :=
  ReadsInt.below h (pw_below_drewN (Below.refl _ _) m)

theorem at_quiet (A : Option Addr) (c : Nat) (xs : List Int) (i : Int) (w : World) (n : Nat) (hr : ReadsInt w .i64 A xs.length xs) (hi : 0 ≤ i) :
    Calls Tryz.prog 114 #[.slice A xs.length c, .int .i64 i] (w.drewN n) fun e w' => e = .returned (.int .i64 (rd xs i)) ∧ ∃ m, w' = w.drewN m :=
  Calls.quiet_of_same ((at_calls A c xs i _ (ReadsInt.drewN hr n) hi).mono fun _ _ ⟨a, b⟩ => ⟨a, b.symm⟩)

set_option maxHeartbeats 1000000 in
/-- the closure of plus -/
theorem plus1_calls (A B : Option Addr) (c d Ba Bb : Nat) (xs ys : List Int) (i : Int) (w : World) (h1 : ReadsInt w .i64 A xs.length xs) (h2 : ReadsInt w .i64 B ys.length ys) (hi : 0 ≤ i)
    (hx : -100000000 ≤ rd xs i ∧ rd xs i ≤ 100000000) (hy : -100000000 ≤ rd ys i ∧ rd ys i ≤ 100000000)
    (ha : w.cell? ⟨Ba, 0, none⟩ = some (.slice A xs.length c)) (hb : w.cell? ⟨Bb, 0, none⟩ = some (.slice B ys.length d)) :
    Calls Tryz.prog 113 #[.int .i64 i, .pointer (some ⟨Ba, 0, none⟩), .pointer (some ⟨Bb, 0, none⟩)] w fun e w' => e = .returned (.int .i64 (rd xs i + rd ys i)) ∧ ∃ m, w' = w.drewN m := by
  obtain ⟨x, hxx⟩ : ∃ x, rd xs i = x := ⟨_, rfl⟩
  obtain ⟨y, hyy⟩ : ∃ y, rd ys i = y := ⟨_, rfl⟩
  have q1 := fun n => at_quiet A c xs i w n h1 hi
  have q2 := fun n => at_quiet B d ys i w n h2 hi
  rw [hxx] at q1 hx ⊢
  rw [hyy] at q2 hy ⊢
  obtain ⟨hx1, hx2⟩ := hx
  obtain ⟨hy1, hy2⟩ := hy
  have Q1 := Aside0.mk q1
  have Q2 := Aside0.mk q2
  clear q1 q2 h1 h2 hxx hyy
  go_enter Tryz.func113, Tryz.ntmps113
  go_wp2_with fail
  go_quiet ((go_at_call 114; first | (with_reducible exact Q1.out _) | (with_reducible exact Q2.out _)))
  go_wp2_with fail
  go_ret
  exact ⟨rfl, _, rfl⟩

set_option maxHeartbeats 1000000 in
/-- the closure of minus -/
theorem minus1_calls (A B : Option Addr) (c d Ba Bb : Nat) (xs ys : List Int) (i : Int) (w : World) (h1 : ReadsInt w .i64 A xs.length xs) (h2 : ReadsInt w .i64 B ys.length ys) (hi : 0 ≤ i)
    (hx : -100000000 ≤ rd xs i ∧ rd xs i ≤ 100000000) (hy : -100000000 ≤ rd ys i ∧ rd ys i ≤ 100000000)
    (ha : w.cell? ⟨Ba, 0, none⟩ = some (.slice A xs.length c)) (hb : w.cell? ⟨Bb, 0, none⟩ = some (.slice B ys.length d)) :
    Calls Tryz.prog 115 #[.int .i64 i, .pointer (some ⟨Ba, 0, none⟩), .pointer (some ⟨Bb, 0, none⟩)] w fun e w' => e = .returned (.int .i64 (rd xs i - rd ys i)) ∧ ∃ m, w' = w.drewN m := by
  obtain ⟨x, hxx⟩ : ∃ x, rd xs i = x := ⟨_, rfl⟩
  obtain ⟨y, hyy⟩ : ∃ y, rd ys i = y := ⟨_, rfl⟩
  have q1 := fun n => at_quiet A c xs i w n h1 hi
  have q2 := fun n => at_quiet B d ys i w n h2 hi
  rw [hxx] at q1 hx ⊢
  rw [hyy] at q2 hy ⊢
  obtain ⟨hx1, hx2⟩ := hx
  obtain ⟨hy1, hy2⟩ := hy
  have Q1 := Aside0.mk q1
  have Q2 := Aside0.mk q2
  clear q1 q2 h1 h2 hxx hyy
  go_enter Tryz.func115, Tryz.ntmps115
  go_wp2_with fail
  go_quiet ((go_at_call 114; first | (with_reducible exact Q1.out _) | (with_reducible exact Q2.out _)))
  go_wp2_with fail
  go_ret
  exact ⟨rfl, _, rfl⟩

set_option maxHeartbeats 1000000 in
/-- the closure of by -/
theorem by1_calls (A : Option Addr) (c Ba Bb : Nat) (xs : List Int) (n i : Int) (w : World) (h1 : ReadsInt w .i64 A xs.length xs) (hi : 0 ≤ i)
    (hx : 0 ≤ rd xs i ∧ rd xs i ≤ 10000) (hn : 0 ≤ n ∧ n ≤ 10000)
    (ha : w.cell? ⟨Ba, 0, none⟩ = some (.slice A xs.length c)) (hb : w.cell? ⟨Bb, 0, none⟩ = some (.int .i64 n)) :
    Calls Tryz.prog 138 #[.int .i64 i, .pointer (some ⟨Ba, 0, none⟩), .pointer (some ⟨Bb, 0, none⟩)] w fun e w' => e = .returned (.int .i64 (rd xs i * n)) ∧ ∃ m, w' = w.drewN m := by
  obtain ⟨x, hxx⟩ : ∃ x, rd xs i = x := ⟨_, rfl⟩
  have q1 := fun m => at_quiet A c xs i w m h1 hi
  rw [hxx] at q1 hx ⊢
  obtain ⟨hx1, hx2⟩ := hx
  obtain ⟨hn1, hn2⟩ := hn
  have Q1 := Aside0.mk q1
  have hw : IntKind.i64.wrap (x * n) = x * n := by
    have h1 : 0 ≤ x * n := Int.mul_nonneg hx1 hn1
    have h2 : x * n ≤ 10000 * 10000 := Int.mul_le_mul hx2 hn2 hn1 (by omega)
    exact IntWalk.i64_in _ (by omega)
  clear q1 h1 hxx
  go_enter Tryz.func138, Tryz.ntmps138
  go_wp2_with fail
  go_quiet ((go_at_call 114; (with_reducible exact Q1.out _)))
  go_wp2_with fail
  go_ret
  exact ⟨rfl, _, rfl⟩

/-! ### trimmed -/
open Go.Proofs.YtnhjidbjibehpaaGreatDoor.Ref in
theorem trimmed_f : ∀ xs : List Int, xs.length ≤ 1000000000 → integer_number_trimmed.f (xs.length + 1) xs = some (trimL xs) := by
  intro xs
  suffices h : ∀ r : List Int, r.length ≤ 1000000000 → integer_number_trimmed.l0 (r.length + 1) r.reverse = some (trimL r.reverse) by
    intro hl
    have := h xs.reverse (by simpa using hl)
    simpa [integer_number_trimmed.f] using this
  intro r
  induction r with
  | nil => intro _; simp [integer_number_trimmed.l0, trimL]
  | cons a r ih =>
    intro hl
    have hl' : r.length + 1 ≤ 1000000000 := by simpa using hl
    have e0 : (((a :: r).reverse).length : Int) = (r.length : Int) + 1 := by simp
    have e1 : wrap64 ((((a :: r).reverse).length : Int) - 1) = (r.length : Int) := by rw [e0]; unfold wrap64; omega
    have e2 : rd (a :: r).reverse (r.length : Int) = a := by
      unfold rd
      rw [List.reverse_cons, List.getD_eq_getElem?_getD, Int.toNat_natCast, List.getElem?_append_right (by rw [List.length_reverse]; omega), List.length_reverse, Nat.sub_self]
      rfl
    rw [List.length_cons, integer_number_trimmed.l0]
    rw [e1, if_pos (by omega), if_pos (by omega), if_pos (by omega), e2]
    by_cases h : a = 0
    · subst h
      rw [if_pos rfl, if_pos (by omega)]
      have e3 : (0 :: r).reverse.take ((r.length : Int)).toNat = r.reverse := by
        rw [List.reverse_cons, Int.toNat_natCast, List.take_append_of_le_length (by rw [List.length_reverse]; omega)]
        exact List.take_of_length_le (by rw [List.length_reverse]; omega)
      rw [e3, ih (by omega), List.reverse_cons, trimL_snoc_zero]
    · rw [if_neg h, List.reverse_cons, trimL_snoc _ h]

open Go.Proofs.YtnhjidbjibehpaaGreatDoor.Ref in
theorem trimmed_calls (v : Value) (xs : List Int) (w : World) (h : Ls w v xs) (hl : xs.length ≤ 1000000000) :
    Calls Tryz.prog 107 #[v] w fun e w' => ∃ v', e = .returned v' ∧ Ls w' v' (trimL xs) ∧ Below w.heap.size w w' := by
  obtain ⟨A, c, rfl, hc, hr⟩ := h
  have hV : Kd.V (Kd.int .i64) 3 w w.heap.size (fun k_ => k_ < w.heap.size) (.slice A xs.length c) xs :=
    ⟨A, c, rfl, hc, Kd.C_F (Kd.heap_int .i64) (Kd.C_of_reads (enc := Value.int .i64) (d := (0 : Int)) (h1 := fun _ => rfl) hr)⟩
  refine (integer_number_trimmed.calls (xs.length + 1) _ A c xs (trimL xs) w hV (trimmed_f xs hl)).mono ?_
  rintro e w' ⟨v', rfl, hv, hb⟩
  refine ⟨v', rfl, ?_, hb⟩
  obtain ⟨A', c', rfl⟩ := Kd.V_slice hv
  have hq := Kd.V_reads' hv
  exact ⟨A', c', rfl, hq.2.1, Kd.reads_of_C (enc := Value.int .i64) (d := (0 : Int)) (h1 := fun _ => rfl) hq.2.2⟩

end Go.Proofs.YtnhjidbjibehpaaGreatDoor.L3
