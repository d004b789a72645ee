/- The laws' minus, walked. -/
import Derived.Test.YtnhjidbjibehpaaGreatDoorZy
namespace Go.Proofs.YtnhjidbjibehpaaGreatDoor.L4
open Go.Shelf Go.RowKit Go.Proofs.YtnhjidbjibehpaaGreatDoorW.PrintWords Go.Proofs.YtnhjidbjibehpaaGreatDoorW.PrintLast Go.Proofs.YtnhjidbjibehpaaGreatDoorW.PrintMore Yd L3
set_option linter.unusedVariables false
set_option linter.unusedSimpArgs false
attribute [local go_sem ↓] Go.wp_at_zero Go.wp_at_succ

set_option maxRecDepth 100000 in
set_option maxHeartbeats 16000000 in
/-- minus -/
theorem minus_calls (s t : ByteArray) (w : World) (hE : Env w) :
    Calls Tryz.prog 45 #[.agg #[.string s, .string t]] w fun e w' => e = .returned (.agg #[.string (oS (rbin rsub (rvalB ⟨#[48]⟩ ⟨#[49]⟩) (rvalB s t))), .string (oT (rbin rsub (rvalB ⟨#[48]⟩ ⟨#[49]⟩) (rvalB s t)))]) ∧ Below w.heap.size w w' := by
  have HE := Aside0.mk hE
  clear hE
  obtain ⟨d, hd⟩ : ∃ q, rbin rsub (rvalB ⟨#[48]⟩ ⟨#[49]⟩) (rvalB s t) = q := ⟨_, rfl⟩
  rw [hd]
  have HD := Aside0.mk hd
  clear hd
  go_enter Tryz.func45, Tryz.ntmps45
  go_wp2_with fail
  have hl0 := (((Hq.nil w).push (.cells #[.string s, .string t] 23)).push (.cells #[.string ⟨#[]⟩, .string ⟨#[]⟩] 23))
  try simp only [World.size_alloc] at hl0
  have hl : Hq [(w.heap.size + 1, .cells #[.string ⟨#[]⟩, .string ⟨#[]⟩] 23), (w.heap.size, .cells #[.string s, .string t] 23)] w ((w.alloc (.cells #[.string s, .string t] 23)).alloc (.cells #[.string ⟨#[]⟩, .string ⟨#[]⟩] 23)) := hl0
  clear hl0
  have HL := Aside0.mk hl
  clear hl
  generalize ((w.alloc (.cells #[.string s, .string t] 23)).alloc (.cells #[.string ⟨#[]⟩, .string ⟨#[]⟩] 23)) = W0 at *
  go_cut [3, 4] (fun v3 v4 wc => ∃ ax : Nat, v3 = .pointer (some ⟨ax, 0, none⟩) ∧ v4 = .int .i64 (oK d) ∧ Aside0 (Hq [(ax, .cells #[.string (oS d), .string (oT d)] 23), (w.heap.size + 1, .cells #[.string ⟨#[]⟩, .string ⟨#[]⟩] 23), (w.heap.size, .cells #[.string s, .string t] 23)] w wc))
  case first =>
    have hl := HL.out.drew
    obtain ⟨c_r0, c_r1, -, -⟩ := pair_facts (HL.out.at 1 rfl)
    clear HL
    have HL := Aside0.mk hl
    clear hl
    go_region_held3 (fun w' => w'.cell? ⟨w.heap.size, 0, none⟩ = some (.string s) ∧ w'.cell? ⟨w.heap.size, 1, none⟩ = some (.string t)) (first | exact ⟨c_r0, c_r1⟩ | go_keep) (first
    | (go_at_call 24; (with_reducible refine (p_is ⟨#[48]⟩ ⟨#[49]⟩ _).mono ?_); rintro e V ⟨rfl, hb⟩; have hl := HL.out.next hb; clear HL c_r0 c_r1; obtain ⟨c_r0, c_r1, -, -⟩ := pair_facts (hl.bx (w.heap.size, .cells #[.string s, .string t] 23) (by simp)); obtain ⟨y0, y1, yf0, yf1⟩ := pair_facts (hl.bx _ (List.mem_cons_self ..)); have HL := Aside0.mk hl; clear hb hl)
    | (go_at_call 24; have hpu := HL.out.push (.cells #[.string ⟨#[]⟩, .string ⟨#[]⟩] 23); (try rw [show W0.drew.heap.size = W0.heap.size from rfl] at hpu); have HNE := Aside0.mk (hpu.ne 2 0 (by decide) rfl rfl); have hne := HNE.out; have hne' := Ne.symm hne; have HPU := Aside0.mk hpu; clear hpu; (with_reducible refine (p_is ⟨#[48]⟩ ⟨#[49]⟩ _).mono ?_); rintro e V ⟨rfl, hb⟩; have hl := HPU.out.next hb; clear HL HPU c_r0 c_r1; obtain ⟨c_r0, c_r1, -, -⟩ := pair_facts (hl.at 2 rfl); obtain ⟨y0, y1, yf0, yf1⟩ := pair_facts (hl.at 0 rfl); have HL := Aside0.mk hl; clear hb hl)
    | (go_at_call 44; (with_reducible refine (p_sub ⟨#[48]⟩ ⟨#[49]⟩ s t _ (HL.out.env HE.out)).mono ?_); rintro e V ⟨rfl, hb⟩; have hl := HL.out.next hb; clear HL c_r0 c_r1; rw [HD.out, ratO_parts]; unfold ratV; obtain ⟨c_r0, c_r1, -, -⟩ := pair_facts (hl.bx (w.heap.size, .cells #[.string s, .string t] 23) (by simp)); obtain ⟨y0, y1, yf0, yf1⟩ := pair_facts (hl.bx _ (List.mem_cons_self ..)); have HL := Aside0.mk hl; clear hb hl)
    | (go_at_call 44; have hpu := HL.out.push (.cells #[.string ⟨#[]⟩, .string ⟨#[]⟩] 23); (try rw [show W0.drew.heap.size = W0.heap.size from rfl] at hpu); have HNE := Aside0.mk (hpu.ne 2 0 (by decide) rfl rfl); have hne := HNE.out; have hne' := Ne.symm hne; have HPU := Aside0.mk hpu; clear hpu; (with_reducible refine (p_sub ⟨#[48]⟩ ⟨#[49]⟩ s t _ (HPU.out.env HE.out)).mono ?_); rintro e V ⟨rfl, hb⟩; have hl := HPU.out.next hb; clear HL HPU c_r0 c_r1; rw [HD.out, ratO_parts]; unfold ratV; obtain ⟨c_r0, c_r1, -, -⟩ := pair_facts (hl.at 2 rfl); obtain ⟨y0, y1, yf0, yf1⟩ := pair_facts (hl.at 0 rfl); have HL := Aside0.mk hl; clear hb hl))
    all_goals
      go_wp2_with fail
      go_meet
      case rel => exact ⟨_, rfl, rfl, ⟨by first | exact (HL.out.push _) | exact ((HL.out.set 0 rfl 0 _).set 0 rfl 1 _)⟩⟩
  obtain ⟨ax, rfl, rfl, HL0⟩ := hcut
  clear HL
  have hl := HL0.out
  clear HL0
  obtain ⟨c_x0, c_x1, -, -⟩ := pair_facts (hl.at 0 rfl)
  obtain ⟨c_o0, c_o1, f_o0, f_o1⟩ := pair_facts (hl.at 1 rfl)
  have HL := Aside0.mk hl
  clear hl
  go_wp2_with fail
  have hl := (HL.out.set 1 rfl 0 (.string (oS d))).set 1 rfl 1 (.string (oT d))
  refine bodyPost_ret (results_single rfl (.cell (w.heap.size + 1) 23 _ (0, 0) _ rfl (hl.at 1 rfl) Tryz.underlying23 rfl (by kernel_rfl) .nil)) rfl ?_
  exact ⟨rfl, hl.bl⟩

end Go.Proofs.YtnhjidbjibehpaaGreatDoor.L4

/- RationalGrid: what its calls give. -/
namespace Go.Proofs.YtnhjidbjibehpaaGreatDoor.L4
open Go.Shelf Go.RowKit Go.Proofs.YtnhjidbjibehpaaGreatDoorW.PrintWords Go.Proofs.YtnhjidbjibehpaaGreatDoorW.PrintLast Go.Proofs.YtnhjidbjibehpaaGreatDoorW.PrintMore Yd L3
set_option linter.unusedVariables false
set_option linter.unusedSimpArgs false
attribute [local go_sem ↓] Go.wp_at_zero Go.wp_at_succ

theorem tn_step (i : Nat) : tx (10 ^ i) ++ (⟨#[48]⟩ : ByteArray) = tx (10 ^ (i + 1)) := by
  apply ba_ext
  have h := Ref.itoa_ten (10 ^ i) (Nat.pow_pos (by omega))
  rw [← Nat.pow_succ] at h
  have c1 : ((10 ^ (i + 1) : Nat) : Int) = (10 : Int) ^ (i + 1) := Int.natCast_pow 10 (i + 1)
  have c2 : ((10 ^ i : Nat) : Int) = (10 : Int) ^ i := Int.natCast_pow 10 i
  rw [c1, c2] at h
  rw [tx_data, h, ← tx_data]; simp
theorem tn_size {i : Nat} (h : i < 200) : (tx (10 ^ i)).size ≤ 201 := tx_size (sm_iff.1 (Ref.sm_pow h))
theorem rv_tn {n : Nat} (h : n < 200) : rvalB (tx (10 ^ n)) ⟨#[49]⟩ = some (Tn n) := by
  have := rvalB_tx (Tn_RL h)
  rw [Tn_num, Tn_den, show ((1 : Nat) : Int) = 1 from rfl, tx_1] at this
  exact this
theorem rvz : rvalB ⟨#[48]⟩ ⟨#[49]⟩ = some 0 := by kernel_rfl
theorem pr_zero : Pr 0 0 (0 : Rat) := ⟨Pw.zero 0, Pw.one⟩
theorem RL_pr {i j : Nat} {r : Rat} (h : Pr i j r) (hi : i < 200) (hj : j < 200) : RL r := ⟨sm_iff.1 (h.1.sm hi), by have := sm_iff.1 (h.2.sm hj); simpa using this⟩
theorem C100_pr {r : Rat} (h : r.num.natAbs < C100 ∧ r.den < C100) : Pr 100 100 r := ⟨Pw.of_lt (by rw [← C100_eq]; exact h.1), Pw.of_lt (by rw [← C100_eq]; simpa using h.2)⟩
theorem Tn_div (k : Nat) : Tn k = Rat.divInt (10 ^ k) 1 := by
  rw [← divInt_self_rat (Tn k), Tn_num, Tn_den]; rfl
theorem Pr_Tn (k : Nat) : Pr k 0 (Tn k) := ⟨by rw [Tn_num]; exact Pw.pow k, by rw [Tn_den]; exact Pw.one⟩
theorem int_den (m : Int) : (Rat.divInt m 1).den = 1 := by
  rw [Rat.den_divInt, if_neg (by omega)]
  have : (1 : Int).gcd m = 1 := by rw [Int.gcd_comm]; exact Int.gcd_one_right m
  rw [this]; rfl
theorem rgridP_eq {up : Bool} {r : Rat} {k i j : Nat} (h : Pr i j r) (hik : i + k < 200) (hk : k ≤ 30) : Ref.rgridP up (some r) (k : Int) = some (Rat.divInt (gq up r k) (10 ^ k)) := by
  show (if (0 : Int) ≤ (k : Int) ∧ (k : Int) ≤ 30 then rgrid up r (k : Int).toNat else none) = _
  rw [if_pos ⟨by omega, by omega⟩, Int.toNat_natCast]
  exact rgrid_eq h hik
theorem rneg {r : Rat} {i j : Nat} (h : Pr i j r) (hi : i < 199) (hj : j < 199) : rbin rsub (some 0) (some r) = some (-r) := by
  show rsub 0 r = some (-r)
  rw [rsub_fits pr_zero h (by omega) (by omega) (by omega)]
  congr 1; grind
/-- what the calls of RationalGrid give -/
structure GF (k : Nat) (sr tr sa ta sb tb sm tm sc tc sn sw tw t : ByteArray) : Prop where
  da : ratO (Ref.rgridP false (rvalB sr tr) (k : Int)) = ratV sa ta 0
  ub : ratO (Ref.rgridP true (rvalB sr tr) (k : Int)) = ratV sb tb 0
  m1 : oS (rbin rsub (rvalB ⟨#[48]⟩ ⟨#[49]⟩) (rvalB sr tr)) = sm
  m2 : oT (rbin rsub (rvalB ⟨#[48]⟩ ⟨#[49]⟩) (rvalB sr tr)) = tm
  dc : ratO (Ref.rgridP false (rvalB sm tm) (k : Int)) = ratV sc tc 0
  n1 : oS (rbin rsub (rvalB ⟨#[48]⟩ ⟨#[49]⟩) (rvalB sc tc)) = sb
  n2 : oT (rbin rsub (rvalB ⟨#[48]⟩ ⟨#[49]⟩) (rvalB sc tc)) = tb
  c1 : rcmpO (rvalB sa ta) (rvalB sr tr) ≤ 0
  c2 : 0 ≤ rcmpO (rvalB sb tb) (rvalB sr tr)
  ag : ratO (Ref.rgridP false (rvalB sb tb) (k : Int)) = ratV sb tb 0
  tu : ratO (Ref.rgridP true (rvalB sa ta) (k : Int)) = ratV sa ta 0
  mu : ratO (rbin rmul (rvalB sa ta) (rvalB t ⟨#[49]⟩)) = ratV sn ⟨#[49]⟩ 0
  wi : ratO (rbin rsub (rvalB sb tb) (rvalB sa ta)) = ratV sw tw 0
  ex : (rcmpO (rvalB sa ta) (rvalB sr tr) = 0 ∧ rcmpO (rvalB sb tb) (rvalB sr tr) = 0 ∧ sw = ⟨#[48]⟩ ∧ tw = ⟨#[49]⟩) ∨ (rcmpO (rvalB sa ta) (rvalB sr tr) ≠ 0 ∧ rcmpO (rvalB sb tb) (rvalB sr tr) ≠ 0 ∧ sw = ⟨#[49]⟩ ∧ tw = t)
theorem GF.mk' {r : Rat} (hr : Pr 100 100 r) {k : Nat} (hk : k ≤ 30) : ∃ sa ta sb tb sm tm sc tc sn sw tw, GF k (tx r.num) (tx r.den) sa ta sb tb sm tm sc tc sn sw tw (tx (10 ^ k)) := by
  have hv : rvalB (tx r.num) (tx r.den) = some r := rvalB_tx (RL_pr hr (by omega) (by omega))
  obtain ⟨A, hA⟩ : ∃ A, Rat.divInt (gq false r k) (10 ^ k) = A := ⟨_, rfl⟩
  obtain ⟨B, hB⟩ : ∃ B, Rat.divInt (gq true r k) (10 ^ k) = B := ⟨_, rfl⟩
  have pA : Pr (100 + k + 1) k A := by rw [← hA]; exact gq_pr hr
  have pB : Pr (100 + k + 1) k B := by rw [← hB]; exact gq_pr hr
  have pM : Pr 100 100 (-r) := hr.neg
  have hC : Rat.divInt (gq false (-r) k) (10 ^ k) = -B := by rw [gq_neg, ← hB, Rat.neg_divInt]
  have vA : rvalB (tx A.num) (tx A.den) = some A := rvalB_tx (RL_pr pA (by omega) (by omega))
  have vB : rvalB (tx B.num) (tx B.den) = some B := rvalB_tx (RL_pr pB (by omega) (by omega))
  have vM : rvalB (tx (-r).num) (tx (-r).den) = some (-r) := rvalB_tx (RL_pr pM (by omega) (by omega))
  have vC : rvalB (tx (-B).num) (tx (-B).den) = some (-B) := rvalB_tx (RL_pr pB.neg (by omega) (by omega))
  have eM := rneg hr (by omega) (by omega)
  have eB := rneg pB.neg (by omega) (by omega)
  rw [Rat.neg_neg] at eB
  have hW : rbin rsub (some B) (some A) = some (if gex r k then 0 else Rat.divInt 1 (10 ^ k)) := by
    show rsub B A = _
    rw [rsub_fits pB pA (by omega) (by omega) (by omega), ← hA, ← hB, grid_width]
  have hN : rbin rmul (some A) (some (Tn k)) = some (Rat.divInt (gq false r k) 1) := by
    show rmul A (Tn k) = _
    rw [rmul_fits pA (Pr_Tn k) (by omega) (by omega), ← hA, Tn_div, grid_int]
  have g1 := grid_exact r k
  have g2 := grid_exact_up r k
  rw [hA] at g1
  rw [hB] at g2
  obtain ⟨d, hd⟩ : ∃ d, (if gex r k then (0 : Rat) else Rat.divInt 1 (10 ^ k)) = d := ⟨_, rfl⟩
  rw [hd] at hW
  refine ⟨tx A.num, tx A.den, tx B.num, tx B.den, tx (-r).num, tx (-r).den, tx (-B).num, tx (-B).den, tx (Rat.divInt (gq false r k) 1).num, tx d.num, tx d.den, ?_, ?_, ?_, ?_, ?_, ?_, ?_, ?_, ?_, ?_, ?_, ?_, ?_, ?_⟩
  · rw [hv, rgridP_eq hr (by omega) hk, hA]; rfl
  · rw [hv, rgridP_eq hr (by omega) hk, hB]; rfl
  · rw [hv, rvz, eM]; rfl
  · rw [hv, rvz, eM]; rfl
  · rw [vM, rgridP_eq pM (by omega) hk, hC]; rfl
  · rw [vC, rvz, eB]; rfl
  · rw [vC, rvz, eB]; rfl
  · rw [vA, hv, ← hA]; exact grid_down_le r k
  · rw [vB, hv, ← hB]; exact grid_up_ge r k
  · rw [vB, rgridP_eq pB (by omega) hk, ← hB, gq_on]; rfl
  · rw [vA, rgridP_eq pA (by omega) hk, ← hA, gq_on]; rfl
  · rw [vA, rv_tn (by omega), hN, ratO_some, int_den, show ((1 : Nat) : Int) = 1 from rfl, tx_1]
  · rw [vB, vA, hW]; rfl
  · rw [vA, vB, hv]
    show (rcmp A r = 0 ∧ rcmp B r = 0 ∧ _) ∨ (rcmp A r ≠ 0 ∧ rcmp B r ≠ 0 ∧ _)
    cases he : gex r k
    · right
      rw [he] at hd g1 g2
      have hd' : d = Ti k := by rw [← hd]; rfl
      obtain ⟨h1, h2⟩ := Ti_parts k
      refine ⟨fun h => by simp [h] at g1, fun h => by simp [h] at g2, ?_, ?_⟩
      · rw [hd', h1, tx_1]
      · rw [hd', h2]
    · left
      rw [he] at hd g1 g2
      have hd' : d = 0 := by rw [← hd]; rfl
      refine ⟨g1.2 rfl, g2.2 rfl, ?_, ?_⟩
      · rw [hd']; exact ba_ext (by rw [tx_data]; exact itoa_zero)
      · rw [hd']; exact tx_1

end Go.Proofs.YtnhjidbjibehpaaGreatDoor.L4
