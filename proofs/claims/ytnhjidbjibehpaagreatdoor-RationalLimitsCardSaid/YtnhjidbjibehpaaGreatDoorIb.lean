/- Layer 3, walked: fold. -/
import Derived.Test.YtnhjidbjibehpaaGreatDoorIa
namespace Go.Proofs.YtnhjidbjibehpaaGreatDoor.L3
open Go.RowKit Go.Proofs.YtnhjidbjibehpaaGreatDoorW.PrintWords Go.Proofs.YtnhjidbjibehpaaGreatDoorW.PrintLast Go.Proofs.YtnhjidbjibehpaaGreatDoorW.PrintMore Yd
set_option linter.unusedVariables false
set_option linter.unusedSimpArgs false

set_option maxHeartbeats 2000000 in
set_option maxRecDepth 100000 in
/-- fold: the digits of the sum, when no carry is left. -/
theorem fold_calls (g : Nat) (lb : Array Value) (f : Nat → Int) (n : Nat) (w : World) (hn : n ≤ 100000)
    (eg : ∀ args W, (callFunc g args).run Tryz.prog W = .ok (.enter g args) W)
    (HC : ∀ (k : Nat) (W : World), Below w.heap.size w W → Calls Tryz.prog g (#[.int .i64 k] ++ lb) W fun e W' => e = .returned (.int .i64 (f k)) ∧ ∃ m, W' = W.drewN m)
    (hs : 0 ≤ sumF f n) (h0 : ∀ j, n ≤ j → f j = 0) (hf : ∀ j, -9999 ≤ f j ∧ f j ≤ 99980001) :
    Calls Tryz.prog 112 #[.int .i64 n, .int .i64 0, .func (.func g) #[] lb] w fun e w' => ∃ v o, e = .returned v ∧ (w'.ownsRow w.heap.size 3 1 v o.length (nums .i64 o)) ∧ (∀ d ∈ o, 0 ≤ d ∧ d < 10000) ∧ bv 10000 o = sumF f n ∧ o.length ≤ n + 1 ∧ Below w.heap.size w w' := by
  have HC' := Aside0.mk HC
  have HS := Aside0.mk hs
  have H0 := Aside0.mk h0
  have HF := Aside0.mk hf
  clear HC hs h0 hf
  obtain ⟨i0, hi, hz0, hz1, hz2⟩ := info_parts info3
  have HI := Aside0.mk hi
  have HZ0 := Aside0.mk hz0
  have HZ1 := Aside0.mk hz1
  have HZ2 := Aside0.mk hz2
  clear hi hz0 hz1 hz2
  go_enter Tryz.func112, Tryz.ntmps112
  go_wp2_with (first | ((with_reducible refine gate_dst (N := 12) rfl ?_); refine wpList_make_own _ rfl _ _ 98 rfl w.heap.size 3 i0 (.int .i64 0) 1 Tryz.underlying98 HI.out HZ0.out HZ1.out .i64 .i64 ((n : Int) + 1) (n + 1) rfl rfl rfl (by rw [HZ2.out]; omega) (by simp [maxLen]; omega) (Nat.le_refl _) ?_; intro w1 ho hg; have HO := Aside0.mk ho; have HB := Aside0.mk (pw_below_grown (Below.refl w.heap.size w) none (Nat.le_refl _) hg (by intro k h; cases h)); clear ho hg))
  go_loopg [1, 7, 8] (n + 1) (fun kq v1 v7 v8 w' => ∃ (o : List Int) (k : Nat) (c : Int), v8 = .int .i64 k ∧ v1 = .int .i64 c ∧ Aside0 (FInv f n k c o) ∧ Aside0 (k + kq = n + 1) ∧ Aside0 (w'.ownsRow w.heap.size 3 1 v7 o.length (nums .i64 o)) ∧ Aside0 (Below w.heap.size w w'))
  case atStart => exact ⟨[], 0, 0, rfl, rfl, ⟨FInv.start f n⟩, ⟨by omega⟩, ⟨HO.out⟩, ⟨HB.out⟩⟩
  case round =>
    clear HO HB HI HZ0 HZ1 HZ2
    obtain ⟨o, k, c, rfl, rfl, HV, HK, HO, HB⟩ := hrel
    have hl := HV.out.lo
    have hh := HV.out.hi
    have hk := HV.out.kn
    by_cases hgo : k < n ∨ c ≠ 0
    · have hstep := HV.out.step HS.out H0.out HF.out hgo
      have HST := Aside0.mk hstep
      have hfk := HF.out k
      obtain ⟨h1, h2⟩ := hfk
      clear hstep
      have hkn : k ≤ n := by
        rcases hgo with h | h
        · omega
        · rcases Nat.lt_or_ge n k with hk' | hk'
          · exact absurd (HV.out.last (by omega)) h
          · exact hk'
      have HKN := Aside0.mk hkn
      obtain ⟨kj, rfl⟩ : ∃ m, gk = m + 1 := ⟨gk - 1, by have := HK.out; omega⟩
      have hb : (decide ((k : Int) < (n : Int)) = true ∧ decide (k < n) = true) ∨ (decide ((k : Int) < (n : Int)) = false ∧ decide (k < n) = false ∧ (c != 0) = true) := by
        rcases Nat.lt_or_ge k n with h | h
        · exact .inl ⟨decide_eq_true (by omega), decide_eq_true h⟩
        · exact .inr ⟨decide_eq_false (by omega), decide_eq_false (by omega), bne_iff_ne.2 (hgo.resolve_left (by omega))⟩
      clear hgo hkn hk
      have hlen : k ≤ 100001 := by have := HKN.out; omega
      obtain ⟨x, hx⟩ : ∃ x, f k = x := ⟨_, rfl⟩
      rw [hx] at HST h1 h2
      have HX := Aside0.mk hx
      clear hx
      have hsx : (x + c < 0) ∨ (0 ≤ x + c ∧ x + c < 10000) ∨ (10000 ≤ x + c) := by omega
      have HOL := Aside0.mk (by have := HV.out.len; omega : o.length ≤ 100001)
      rcases hb with ⟨b1, b1'⟩ | ⟨b1, b1', b2⟩
      all_goals
        go_wp2_with fail
        refine (HC'.out k _ HB.out).mono ?_
        rintro e w2 ⟨rfl, m, hw⟩
        rw [HX.out]
        have HO2 := Aside0.mk (by rw [hw]; exact pw_own_below HO.out (pw_below_drewN (Below.refl _ _) m) : w2.ownsRow w.heap.size 3 1 u7 o.length (nums .i64 o))
        have HB2 := Aside0.mk (by rw [hw]; exact pw_below_drewN HB.out m : Below w.heap.size w w2)
        clear hw HO HB
        rcases hsx with hx1 | ⟨hx1, hx2⟩ | hx1
        · have b3 : decide (x + c < 0) = true := decide_eq_true hx1
          have HD : Aside0 (digS (x + c) = x + c + 10000 ∧ digC (x + c) = -1) := ⟨by unfold digS digC; rw [if_pos hx1, if_pos hx1]; exact ⟨rfl, rfl⟩⟩
          rw [HD.out.1, HD.out.2] at HST
          go_wp2_with (first | ((with_reducible refine gate_builtin (b := .append) (xs := #[.tmp 37, .tmp 39]) rfl ?_); at_builtin; refine print_append_num (w0 := w) w.heap.size rfl (.tmp 37) (.tmp 39) 98 3 .i64 8 rfl Tryz.underlying98 info3 (by decide) u7 o (x + c + 10000) rfl rfl HO2.out HB2.out HB2.out.size (by have := HOL.out; omega) ?_; intro v1 w1 ho hb hg hat; have HO3 := Aside0.mk ho; have HB3 := Aside0.mk hb; clear ho hb hg hat HO2 HB2))
          go_roundg kj
          case measure => have := HK.out; omega
          case rel => exact ⟨_, k + 1, -1, by go_num, rfl, HST, ⟨by have := HK.out; omega⟩, HO3, HB3⟩
        · have b3 : decide (x + c < 0) = false := decide_eq_false (by omega)
          have b4 : decide (10000 ≤ x + c) = false := decide_eq_false (by omega)
          have HD : Aside0 (digS (x + c) = x + c ∧ digC (x + c) = 0) := ⟨by unfold digS digC; rw [if_neg (by omega), if_neg (by omega), if_neg (by omega), if_neg (by omega)]; exact ⟨rfl, rfl⟩⟩
          rw [HD.out.1, HD.out.2] at HST
          go_wp2_with (first | ((with_reducible refine gate_builtin (b := .append) (xs := #[.tmp 37, .tmp 39]) rfl ?_); at_builtin; refine print_append_num (w0 := w) w.heap.size rfl (.tmp 37) (.tmp 39) 98 3 .i64 8 rfl Tryz.underlying98 info3 (by decide) u7 o (x + c) rfl rfl HO2.out HB2.out HB2.out.size (by have := HOL.out; omega) ?_; intro v1 w1 ho hb hg hat; have HO3 := Aside0.mk ho; have HB3 := Aside0.mk hb; clear ho hb hg hat HO2 HB2))
          go_roundg kj
          case measure => have := HK.out; omega
          case rel => exact ⟨_, k + 1, 0, by go_num, rfl, HST, ⟨by have := HK.out; omega⟩, HO3, HB3⟩
        · have b3 : decide (x + c < 0) = false := decide_eq_false (by omega)
          have b4 : decide (10000 ≤ x + c) = true := decide_eq_true hx1
          have HD : Aside0 (digS (x + c) = (x + c) % 10000 ∧ digC (x + c) = (x + c) / 10000) := ⟨by unfold digS digC; rw [if_neg (by omega), if_pos (by omega), if_neg (by omega), if_pos (by omega)]; exact ⟨rfl, rfl⟩⟩
          rw [HD.out.1, HD.out.2] at HST
          go_wp2_with (first | ((with_reducible refine gate_builtin (b := .append) (xs := #[.tmp 37, .tmp 39]) rfl ?_); at_builtin; refine print_append_num (w0 := w) w.heap.size rfl (.tmp 37) (.tmp 39) 98 3 .i64 8 rfl Tryz.underlying98 info3 (by decide) u7 o ((x + c) % 10000) rfl rfl HO2.out HB2.out HB2.out.size (by have := HOL.out; omega) ?_; intro v1 w1 ho hb hg hat; have HO3 := Aside0.mk ho; have HB3 := Aside0.mk hb; clear ho hb hg hat HO2 HB2))
          go_roundg kj
          case measure => have := HK.out; omega
          case rel => exact ⟨_, k + 1, (x + c) / 10000, by go_num, rfl, HST, ⟨by have := HK.out; omega⟩, HO3, HB3⟩
    · have hc0 : c = 0 := by omega
      have hkn : ¬ k < n := by omega
      obtain ⟨hd, hv, hln⟩ := HV.out.done hkn hc0
      have HLN := Aside0.mk hln
      have HD := Aside0.mk hd
      have HVV := Aside0.mk hv
      have b1 : decide ((k : Int) < (n : Int)) = false := decide_eq_false (by omega)
      have b1' : decide (k < n) = false := decide_eq_false (by omega)
      subst hc0
      clear hd hv hgo hkn hln
      go_wp2_with fail
      go_ret
      exact ⟨_, o, rfl, HO.out, HD.out, HVV.out, HLN.out, HB.out⟩

end Go.Proofs.YtnhjidbjibehpaaGreatDoor.L3
