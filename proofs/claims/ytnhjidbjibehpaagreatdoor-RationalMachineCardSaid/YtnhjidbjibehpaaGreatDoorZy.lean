/- The reference's fractions of integers: Small. -/
import Derived.Test.YtnhjidbjibehpaaGreatDoorZn
import Derived.Test.YtnhjidbjibehpaaGreatDoorZx
import Derived.Test.YtnhjidbjibehpaaGreatDoorZl
import Derived.Test.YtnhjidbjibehpaaGreatDoorZo
import Derived.Test.YtnhjidbjibehpaaGreatDoorTie
import Derived.Test.YtnhjidbjibehpaaGreatDoorRows
import Derived.Test.YtnhjidbjibehpaaGreatDoorCards
import Derived.WalkKit
import Derived.ProofKit
import Derived.OpenShut
import Derived.ShutString
import Derived.LaidMore
import Derived.Lay
import Derived.SevenTiedAt
import Derived.Stop.Joined
import Derived.Stop.LaidErr
import Derived.Shelf.Vars
import Derived.SizedLaws
import Derived.Laws.IdiomArrays
namespace Go.Proofs.YtnhjidbjibehpaaGreatDoor.L4
open Go.Shelf Go.RowKit Go.Proofs.YtnhjidbjibehpaaGreatDoorW.PrintWords Go.Proofs.YtnhjidbjibehpaaGreatDoorW.PrintLast Go.Proofs.YtnhjidbjibehpaaGreatDoorW.PrintMore Yd L3
set_option linter.unusedVariables false
set_option linter.unusedSimpArgs false
attribute [local go_sem ↓] Go.wp_at_zero Go.wp_at_succ

/-- what the reference makes of two integers -/
def smallR (x0 x1 : Int) : Rat := Rat.divInt (pk x0 1999 - 999) (1 + pk x1 60)
theorem small_ok (x0 x1 : Int) : ratO (mk2 (pk x0 1999 - 999) (1 + pk x1 60)) = ratV (tx (smallR x0 x1).num) (tx (smallR x0 x1).den) 0 := by
  have := pk_range x1 (n := 60) (by omega)
  unfold mk2 smallR
  rw [if_neg (by omega)]; rfl

set_option maxRecDepth 100000 in
set_option maxHeartbeats 4000000 in
/-- Small -/
theorem small_calls (x0 x1 : Int) (w : World) (h0 : -9223372036854775808 ≤ x0) (h1 : x0 ≤ 9223372036854775807) (h2 : -9223372036854775808 ≤ x1) (h3 : x1 ≤ 9223372036854775807) :
    Calls Tryz.prog 28 #[.agg #[.int .i64 x0, .int .i64 x1]] w fun e w' => e = .returned (.agg #[.string (tx (smallR x0 x1).num), .string (tx (smallR x0 x1).den)]) ∧ Below w.heap.size w w' := by
  have HB := Aside0.mk (And.intro (And.intro h0 h1) (And.intro h2 h3))
  have HP0 := Aside0.mk (pk_range x0 (n := 1999) (by omega))
  have HP1 := Aside0.mk (pk_range x1 (n := 60) (by omega))
  have HO := Aside0.mk (small_ok x0 x1)
  have hp0 := HP0.out
  have hp1 := HP1.out
  obtain ⟨s, hs⟩ : ∃ s, tx (smallR x0 x1).num = s := ⟨_, rfl⟩
  obtain ⟨t, ht⟩ : ∃ t, tx (smallR x0 x1).den = t := ⟨_, rfl⟩
  rw [hs, ht] at HO ⊢
  clear h0 h1 h2 h3 hs ht
  generalize hq0 : pk x0 1999 = q0 at *
  generalize hq1 : pk x1 60 = q1 at *
  have HQ0 := Aside0.mk hq0
  have HQ1 := Aside0.mk hq1
  have ew0 : IntKind.i64.wrap (q0 - 999) = q0 - 999 := IntWalk.i64_in _ (by omega)
  have ew1 : IntKind.i64.wrap (1 + q1) = 1 + q1 := IntWalk.i64_in _ (by omega)
  clear hq0 hq1
  go_enter Tryz.func28, Tryz.ntmps28
  go_wp2_with fail
  have hl0 := (((Hp.nil w).push (.cells #[.int .i64 x0, .int .i64 x1] 47)).push Zb)
  rw [World.size_alloc] at hl0
  have HL := Aside0.mk hl0
  clear hl0
  generalize ((w.alloc (.cells #[.int .i64 x0, .int .i64 x1] 47)).alloc (.cells #[.string ⟨#[]⟩, .string ⟨#[]⟩] 23)) = W at *
  go_cut [3] (fun v3 wc => ∃ ax : Nat, v3 = .pointer (some ⟨ax, 0, none⟩) ∧ Aside0 (Hp [(ax, Rb s t), (w.heap.size + 1, Zb)] w wc))
  case first =>
    obtain ⟨c0, c1, f0, f1⟩ := pair_facts (HL.out.bx (w.heap.size, (.cells #[.int .i64 x0, .int .i64 x1] 47)) (by simp))
    have hw := HL.out.next (below_drew (Below.refl _ W))
    clear HL
    have HL := Aside0.mk hw
    clear hw
    go_region_held3 (fun w' => w'.cell? ⟨w.heap.size, 0, none⟩ = some (.int .i64 x0) ∧ w'.cell? ⟨w.heap.size, 1, none⟩ = some (.int .i64 x1)) (first | exact ⟨c0, c1⟩ | go_keep) (first
      | (go_at_call 46; (with_reducible refine (q_pick x0 1999 _ HB.out.1.1 HB.out.1.2 (by omega)).mono ?_); rintro e V ⟨rfl, hb⟩; have hl := HL.out.next hb; clear HL; have HL := Aside0.mk hl; rw [HQ0.out]; obtain ⟨c0, c1, f0, f1⟩ := pair_facts (hl.bx (w.heap.size, (.cells #[.int .i64 x0, .int .i64 x1] 47)) (by simp)); obtain ⟨y0, y1, yf0, yf1⟩ := pair_facts hl.head; clear hb hl)
      | (go_at_call 46; have hap := HL.out.apart; (try rw [show W.drew.heap.size = W.heap.size from rfl] at hap); have HAP := Aside0.mk hap; have hne := hap.2 (w.heap.size, (.cells #[.int .i64 x0, .int .i64 x1] 47)) (by simp); dsimp only at hne; have hne' := Ne.symm hne; have hpu := HL.out.push Zb; (try rw [show W.drew.heap.size = W.heap.size from rfl] at hpu); have HPU := Aside0.mk hpu; clear hap hpu; (with_reducible refine (q_pick x0 1999 _ HB.out.1.1 HB.out.1.2 (by omega)).mono ?_); rintro e V ⟨rfl, hb⟩; have hl := HPU.out.next hb; clear HL HPU; have HL := Aside0.mk hl; rw [HQ0.out]; obtain ⟨c0, c1, f0, f1⟩ := pair_facts (hl.bx (w.heap.size, (.cells #[.int .i64 x0, .int .i64 x1] 47)) (by simp)); obtain ⟨y0, y1, yf0, yf1⟩ := pair_facts hl.head; clear hb hl)
      | (go_at_call 46; (with_reducible refine (q_pick x1 60 _ HB.out.2.1 HB.out.2.2 (by omega)).mono ?_); rintro e V ⟨rfl, hb⟩; have hl := HL.out.next hb; clear HL; have HL := Aside0.mk hl; rw [HQ1.out]; obtain ⟨c0, c1, f0, f1⟩ := pair_facts (hl.bx (w.heap.size, (.cells #[.int .i64 x0, .int .i64 x1] 47)) (by simp)); obtain ⟨y0, y1, yf0, yf1⟩ := pair_facts hl.head; clear hb hl)
      | (go_at_call 46; have hap := HL.out.apart; (try rw [show W.drew.heap.size = W.heap.size from rfl] at hap); have HAP := Aside0.mk hap; have hne := hap.2 (w.heap.size, (.cells #[.int .i64 x0, .int .i64 x1] 47)) (by simp); dsimp only at hne; have hne' := Ne.symm hne; have hpu := HL.out.push Zb; (try rw [show W.drew.heap.size = W.heap.size from rfl] at hpu); have HPU := Aside0.mk hpu; clear hap hpu; (with_reducible refine (q_pick x1 60 _ HB.out.2.1 HB.out.2.2 (by omega)).mono ?_); rintro e V ⟨rfl, hb⟩; have hl := HPU.out.next hb; clear HL HPU; have HL := Aside0.mk hl; rw [HQ1.out]; obtain ⟨c0, c1, f0, f1⟩ := pair_facts (hl.bx (w.heap.size, (.cells #[.int .i64 x0, .int .i64 x1] 47)) (by simp)); obtain ⟨y0, y1, yf0, yf1⟩ := pair_facts hl.head; clear hb hl)
      | (go_at_call 42; (with_reducible refine (q_of (q0 - 999) (1 + q1) _ (by omega) (by omega) (by omega) (by omega)).mono ?_); rintro e V ⟨rfl, hb⟩; have hl := HL.out.next hb; clear HL; have HL := Aside0.mk hl; rw [HO.out]; unfold ratV; obtain ⟨c0, c1, f0, f1⟩ := pair_facts (hl.bx (w.heap.size, (.cells #[.int .i64 x0, .int .i64 x1] 47)) (by simp)); obtain ⟨y0, y1, yf0, yf1⟩ := pair_facts hl.head; clear hb hl)
      | (go_at_call 42; have hap := HL.out.apart; (try rw [show W.drew.heap.size = W.heap.size from rfl] at hap); have HAP := Aside0.mk hap; have hne := hap.2 (w.heap.size, (.cells #[.int .i64 x0, .int .i64 x1] 47)) (by simp); dsimp only at hne; have hne' := Ne.symm hne; have hpu := HL.out.push Zb; (try rw [show W.drew.heap.size = W.heap.size from rfl] at hpu); have HPU := Aside0.mk hpu; clear hap hpu; (with_reducible refine (q_of (q0 - 999) (1 + q1) _ (by omega) (by omega) (by omega) (by omega)).mono ?_); rintro e V ⟨rfl, hb⟩; have hl := HPU.out.next hb; clear HL HPU; have HL := Aside0.mk hl; rw [HO.out]; unfold ratV; obtain ⟨c0, c1, f0, f1⟩ := pair_facts (hl.bx (w.heap.size, (.cells #[.int .i64 x0, .int .i64 x1] 47)) (by simp)); obtain ⟨y0, y1, yf0, yf1⟩ := pair_facts hl.head; clear hb hl))
    all_goals
      go_wp2_with fail
      go_meet
      case rel => exact ⟨_, rfl, ⟨by first | exact Hp.sub (show Hp ((_, Rb s t) :: _) w _ from (HL.out.put HAP.out 0 (.string s)).put HAP.out 1 (.string t)) sub2 | exact Hp.sub (HL.out.push (Rb s t)) sub2⟩⟩
  case rest =>
    obtain ⟨ax, rfl, hl0⟩ := hcut
    clear HL
    have HL := hl0
    obtain ⟨c0, c1, f0, f1⟩ := pair_facts HL.out.head
    obtain ⟨d0, d1, g0, g1⟩ := pair_facts HL.out.tail.head
    clear hl0
    go_wp2_with fail
    have hq := blk_set (blk_set HL.out.tail.head 0 (.string s)) 1 (.string t)
    refine bodyPost_ret (results_single rfl (.cell (w.heap.size + 1) 23 _ (0, 0) _ rfl hq Tryz.underlying23 rfl (by kernel_rfl) .nil)) rfl ?_
    exact ⟨rfl, (HL.out.bl.setCell (p := ⟨w.heap.size + 1, 0, none⟩) (by show _ ≤ w.heap.size + 1; omega) _).setCell (p := ⟨w.heap.size + 1, 1, none⟩) (by show _ ≤ w.heap.size + 1; omega) _⟩

end Go.Proofs.YtnhjidbjibehpaaGreatDoor.L4

/- The reference's fractions of integers: Long. -/
namespace Go.Proofs.YtnhjidbjibehpaaGreatDoor.L4
open Go.Shelf Go.RowKit Go.Proofs.YtnhjidbjibehpaaGreatDoorW.PrintWords Go.Proofs.YtnhjidbjibehpaaGreatDoorW.PrintLast Go.Proofs.YtnhjidbjibehpaaGreatDoorW.PrintMore Yd L3
set_option linter.unusedVariables false
set_option linter.unusedSimpArgs false
attribute [local go_sem ↓] Go.wp_at_zero Go.wp_at_succ

/-- ten to a hundred -/
def C100 : Nat := 10 ^ 100
theorem C100_eq : C100 = 10 ^ 100 := rfl
theorem C100_DL : C100 ≤ DL := by rw [DL_eq, C100_eq]; exact Nat.pow_le_pow_right (by omega) (by omega)
theorem C100_7 : 7 < C100 := by rw [C100_eq]; exact Nat.lt_of_lt_of_le (show 7 < 10 ^ 1 by omega) (Nat.pow_le_pow_right (by omega) (by omega))
/-- the text of a number of at most a hundred digits -/
def Dg (s : ByteArray) : Prop := ∃ m : Nat, m < C100 ∧ s = tx (m : Int)
/-- the blocks of Long -/
abbrev Lb (w W : World) (x0 x1 x2 x3 : Int) (o0 o1 : ByteArray) : Prop := Hp [(w.heap.size + 1 + 1, .cells #[.string o0, .string o1] 64), (w.heap.size + 1, Zb), (w.heap.size, .cells #[.int .i64 x0, .int .i64 x1, .int .i64 x2, .int .i64 x3] 24)] w W

theorem conv_one (wr : World) (d : Int) : (convert 35 9 (Value.slice (some ⟨wr.heap.size, 0, none⟩) 1 1)).run Tryz.prog (wr.alloc (.cells #[.int .u8 d] 5)) = .ok (.string (strOfNums [d])) (wr.alloc (.cells #[.int .u8 d] 5)) := by
  refine run_convert_bytes_arg (P := Tryz.prog) (wr.alloc (.cells #[.int .u8 d] 5)) 35 5 Tryz.underlying35 Tryz.underlying5 wr.heap.size 0 1 1 [d] rfl (fun i hi => ?_) 9 Tryz.underlying9
  have : i = 0 := by omega
  subst this
  exact blk_cell (alloc_here wr (.cells #[.int .u8 d] 5)) 0
theorem one_digit {d : Int} (h0 : 48 ≤ d) (h1 : d ≤ 57) : (strOfNums [d]).data.toList.all isDig = true ∧ (strOfNums [d]).size = 1 := by
  refine ⟨?_, rfl⟩
  rw [strOfNums_data]
  simp only [List.map_cons, List.map_nil, List.all_cons, List.all_nil, Bool.and_true]
  rw [isDig_iff, UInt8.toNat_ofNat']
  omega
theorem ex_size (s : ByteArray) (h : 0 < s.size) : (s.extract 1 s.size).size = s.size - 1 := by rw [Ref.size_len, Ref.extract_tail, List.length_tail]; rfl
theorem ex_all {s : ByteArray} (h : s.data.toList.all isDig = true) : (s.extract 1 s.size).data.toList.all isDig = true := by
  rw [Ref.extract_tail]
  cases hl : s.data.toList with
  | nil => rfl
  | cons a l => rw [hl, List.all_cons, Bool.and_eq_true] at h; exact h.2
theorem dg_of {s : ByteArray} (h : s.data.toList.all isDig = true) (h1 : 1 ≤ s.size) (h2 : s.size ≤ 100) (hz : s.size = 1 ∨ ∃ h0 : 0 < s.size, ¬ (s[0]'h0).toNat = 48) : Dg s := by
  have hsz := Ref.size_len s
  have hne : s.data.toList ≠ [] := by intro h'; rw [h', List.length_nil] at hsz; omega
  have hl : 0 < s.data.toList.length := by omega
  have hd : s.data.toList = [48] ∨ s.data.toList.head? ≠ some 48 := by
    rcases hz with hz | ⟨h0, hz⟩
    · by_cases hh : s.data.toList.head? = some 48
      · left
        cases hs : s.data.toList with
        | nil => exact absurd hs hne
        | cons a l =>
          rw [hs] at hh hsz
          have : l = [] := List.eq_nil_of_length_eq_zero (by simp at hsz; omega)
          subst this
          simpa using hh
      · exact .inr hh
    · right
      rw [Ref.head_getElem hl]
      intro hc
      apply hz
      have : s.data.toList[0] = 48 := by simpa using hc
      show (s.data.toList[0]).toNat = 48
      rw [this]; rfl
  refine ⟨dval s.data.toList, by rw [C100_eq]; exact Nat.lt_of_lt_of_le (dval_lt _ h) (Nat.pow_le_pow_right (by omega) (by omega)), ba_ext ?_⟩
  rw [tx_data, itoa_pos (by omega), Int.natAbs_natCast, decDigits_dval _ h hne hd]
theorem ba_append (s t : ByteArray) : (s ++ t).data.toList = s.data.toList ++ t.data.toList := by simp
theorem quad_cells {W : World} {b : Nat} {v0 v1 v2 v3 : Value} {T : TypeId} (h : W.heap[b]? = some (.cells #[v0, v1, v2, v3] T)) : W.cell? ⟨b, 0, none⟩ = some v0 ∧ W.cell? ⟨b, 1, none⟩ = some v1 ∧ W.cell? ⟨b, 2, none⟩ = some v2 ∧ W.cell? ⟨b, 3, none⟩ = some v3 :=
  ⟨blk_cell h 0, blk_cell h 1, blk_cell h 2, blk_cell h 3⟩
theorem Lb.ap (w : World) {a b : Obj} : w.heap.size ≤ w.heap.size + 1 + 1 ∧ ∀ x ∈ [(w.heap.size + 1, a), (w.heap.size, b)], x.1 ≠ w.heap.size + 1 + 1 := by
  refine ⟨by omega, fun x hx => ?_⟩
  simp only [List.mem_cons, List.mem_nil_iff, or_false] at hx
  rcases hx with rfl | rfl
  · show w.heap.size + 1 ≠ _; omega
  · show w.heap.size ≠ _; omega
theorem Lb.set0 {w W : World} {x0 x1 x2 x3 : Int} {o0 o1 : ByteArray} (h : Lb w W x0 x1 x2 x3 o0 o1) (s : ByteArray) : Lb w (W.setCell ⟨w.heap.size + 1 + 1, 0, none⟩ (.string s)) x0 x1 x2 x3 s o1 := h.put (Lb.ap w) 0 (.string s)
theorem Lb.set1 {w W : World} {x0 x1 x2 x3 : Int} {o0 o1 : ByteArray} (h : Lb w W x0 x1 x2 x3 o0 o1) (s : ByteArray) : Lb w (W.setCell ⟨w.heap.size + 1 + 1, 1, none⟩ (.string s)) x0 x1 x2 x3 o0 s := h.put (Lb.ap w) 1 (.string s)
theorem mk_fin {x : Int} {y : Nat} (hx : x.natAbs < C100) (hy : y < C100) (h0 : 0 < y) : ∃ r : Rat, (r.num.natAbs < C100 ∧ r.den < C100) ∧ ratO (mkO (tx x).data.toList (tx (y : Int)).data.toList) = ratV (tx r.num) (tx r.den) 0 := by
  have hD := C100_DL
  refine ⟨Rat.divInt x y, ⟨Nat.lt_of_le_of_lt divInt_num_le hx, Nat.lt_of_le_of_lt (divInt_den_le (by omega)) (by simpa using hy)⟩, ?_⟩
  have e : mkO (tx x).data.toList (tx (y : Int)).data.toList = mk2 x y := Ref.mkO_itx (Nat.lt_of_lt_of_le hx hD) (Nat.lt_of_lt_of_le (by simpa using hy) hD)
  rw [e, mk2, if_neg (by omega)]; rfl
theorem Dg.sz {s : ByteArray} (h : Dg s) : s.size ≤ 201 := by
  obtain ⟨m, hm, rfl⟩ := h
  refine tx_size ?_
  have hD := C100_DL
  exact Nat.lt_of_lt_of_le (by simpa using hm) hD
theorem tx_minus {m : Nat} (h : 0 < m) : (⟨#[45]⟩ : ByteArray) ++ tx (m : Int) = tx (-(m : Int)) := by
  apply ba_ext
  rw [ba_append, tx_data, tx_data, itoa_pos (by omega), itoa_neg (by omega), Int.natAbs_neg]; rfl
theorem sz_minus {s : ByteArray} (h : s.size ≤ 201) : Ref.SZ (⟨#[45]⟩ ++ s) := by
  show (⟨#[45]⟩ ++ s : ByteArray).size ≤ _
  rw [ByteArray.size_append]
  have : (⟨#[45]⟩ : ByteArray).size = 1 := rfl
  omega
theorem tx_7 : (⟨#[55]⟩ : ByteArray) = tx ((7 : Nat) : Int) := by
  apply ba_ext
  rw [tx_data]; exact (itoa_d (n := 7) (by omega)).symm
theorem Lb.start (w : World) (x0 x1 x2 x3 : Int) : Lb w (((w.alloc (.cells #[.int .i64 x0, .int .i64 x1, .int .i64 x2, .int .i64 x3] 24)).alloc (.cells #[.string ⟨#[]⟩, .string ⟨#[]⟩] 23)).alloc (.cells #[.string ⟨#[]⟩, .string ⟨#[]⟩] 64)) x0 x1 x2 x3 ⟨#[]⟩ ⟨#[]⟩ := by
  have h := (((Hp.nil w).push (.cells #[.int .i64 x0, .int .i64 x1, .int .i64 x2, .int .i64 x3] 24)).push Zb).push (.cells #[.string ⟨#[]⟩, .string ⟨#[]⟩] 64)
  simp only [World.size_alloc] at h
  exact h

set_option maxRecDepth 100000 in
set_option maxHeartbeats 16000000 in
/-- Long -/
theorem long_calls (x0 x1 x2 x3 : Int) (w : World) (h0 : -9223372036854775808 ≤ x0 ∧ x0 ≤ 9223372036854775807) (h1 : -9223372036854775808 ≤ x1 ∧ x1 ≤ 9223372036854775807) (h2 : -9223372036854775808 ≤ x2 ∧ x2 ≤ 9223372036854775807) (h3 : -9223372036854775808 ≤ x3 ∧ x3 ≤ 9223372036854775807) :
    Calls Tryz.prog 12 #[.agg #[.int .i64 x0, .int .i64 x1, .int .i64 x2, .int .i64 x3]] w fun e w' => (∃ r : Rat, (r.num.natAbs < C100 ∧ r.den < C100) ∧ e = .returned (.agg #[.string (tx r.num), .string (tx r.den)])) ∧ Below w.heap.size w w' := by
  have HB0 := Aside0.mk h0
  have HB1 := Aside0.mk h1
  have HB2 := Aside0.mk h2
  have HB3 := Aside0.mk h3
  clear h0 h1 h2 h3
  go_enter Tryz.func12, Tryz.ntmps12
  go_wp2_with fail
  have hl0 := Lb.start w x0 x1 x2 x3
  go_loopg [4, 5, 6, 7] 2 (fun kq v4 v5 v6 v7 wr => ∃ (k : Nat) (o0 o1 : ByteArray), v4 = .int .i64 k ∧ k + kq = 2 ∧ Aside0 (Lb w wr x0 x1 x2 x3 o0 o1 ∧ (0 < k → Dg o0) ∧ (1 < k → Dg o1)))
  case atStart => exact ⟨0, _, _, rfl, rfl, ⟨hl0, fun h => by omega, fun h => by omega⟩⟩
  case round =>
    clear hl0
    obtain ⟨k, o0, o1, rfl, hk, HX⟩ := hrel
    have HL := Aside0.mk HX.out.1
    obtain ⟨a0, a1, a2, a3⟩ := quad_cells (HL.out.bx _ (List.mem_cons_of_mem _ (List.mem_cons_of_mem _ (List.mem_cons_self ..))))
    have hk' : k = 0 ∨ k = 1 ∨ k = 2 := by omega
    rcases hk' with rfl | rfl | rfl
    · obtain rfl : gk = 2 := by omega
      go_wp2_with fail
      refine (q_pick x1 100 _ HB1.out.1 HB1.out.2 (by omega)).mono ?_
      rintro e V1 ⟨rfl, hb1⟩
      have HP1 := Aside0.mk (pk_range x1 (n := 100) (by omega))
      generalize pk x1 100 = q1 at *
      have hq1 := HP1.out
      have HL1 := Aside0.mk (HL.out.next hb1)
      obtain ⟨a0, a1, a2, a3⟩ := quad_cells (HL1.out.bx _ (List.mem_cons_of_mem _ (List.mem_cons_of_mem _ (List.mem_cons_self ..))))
      clear hb1
      go_wp2_with fail
      refine (q_pick x0 1000000007 _ HB0.out.1 HB0.out.2 (by omega)).mono ?_
      rintro e V2 ⟨rfl, hb2⟩
      have HP2 := Aside0.mk (pk_range x0 (n := 1000000007) (by omega))
      generalize pk x0 1000000007 = q2 at *
      have hq2 := HP2.out
      have HL2 := Aside0.mk (HL1.out.next hb2)
      clear hb2 a0 a1 a2 a3
      go_wp2_with fail
      obtain ⟨nn, hnn⟩ : ∃ nn : Nat, (nn : Int) = 1 + q1 := ⟨(1 + q1).toNat, by omega⟩
      rw [← hnn]
      have HN := Aside0.mk (show 1 ≤ nn ∧ nn ≤ 100 by omega)
      clear hnn HP1 hq1
      obtain ⟨wo, hwo⟩ : ∃ wo : World, wo = V2 := ⟨_, rfl⟩
      go_loopg [6, 7] nn (fun jq v6 v7 wr => ∃ (s : ByteArray) (c : Int), v6 = .string s ∧ v7 = .int .i64 c ∧ 0 ≤ c ∧ c < 2147483647 ∧ s.size + jq = nn ∧ Aside0 (s.data.toList.all isDig = true) ∧ Aside0 (Lb w wr x0 x1 x2 x3 o0 o1))
      case atStart => exact ⟨⟨#[]⟩, q2, rfl, rfl, hq2.1, by omega, by show 0 + nn = nn; omega, ⟨rfl⟩, HL2⟩
      case round =>
        obtain ⟨s, c, rfl, rfl, hc0, hc1, hsz, HD, HL3⟩ := hrel
        by_cases hg : s.size < nn
        · have hn100 := HN.out.2
          have hdd : 48 ≤ 48 + (c * 48271 + 11) % 2147483647 / 65536 % 10 ∧ 48 + (c * 48271 + 11) % 2147483647 / 65536 % 10 ≤ 57 := by omega
          have hcv := conv_one wr (48 + (c * 48271 + 11) % 2147483647 / 65536 % 10)
          obtain ⟨ch, hch⟩ : ∃ ch, strOfNums [48 + (c * 48271 + 11) % 2147483647 / 65536 % 10] = ch := ⟨_, rfl⟩
          rw [hch] at hcv
          have hcs : ch.size ≤ 1 := by rw [← hch]; exact Nat.le_refl _
          have HCH := Aside0.mk (one_digit hdd.1 hdd.2)
          rw [hch] at HCH
          have HL4 := Aside0.mk (HL3.out.next (below_alloc (Below.refl _ wr) (.cells #[.int .u8 (48 + (c * 48271 + 11) % 2147483647 / 65536 % 10)] 5)))
          clear hch
          go_wp2_with fail
          go_roundg (nn - (s.size + 1))
          case measure => omega
          case rel => exact ⟨s ++ ch, (c * 48271 + 11) % 2147483647, rfl, rfl, by omega, by omega, by rw [ByteArray.size_append, HCH.out.2]; omega, ⟨by rw [ba_append, List.all_append, HD.out, HCH.out.1]; rfl⟩, HL4⟩
        · have hsn : s.size = nn := by omega
          have hn1 := HN.out
          go_wp2_with fail
          go_loopg [6] nn (fun jq v6 wr2 => ∃ s : ByteArray, v6 = .string s ∧ 1 ≤ s.size ∧ s.size ≤ 100 ∧ s.size + 0 = jq ∧ Aside0 (s.data.toList.all isDig = true) ∧ Aside0 (Lb w wr2 x0 x1 x2 x3 o0 o1))
          case atStart => exact ⟨s, rfl, by omega, by omega, by omega, HD, HL3⟩
          case round =>
            obtain ⟨s', rfl, hs1, hs2, hs3, HD', HL5⟩ := hrel
            obtain ⟨m0, m1, mf0, mf1⟩ := pair_facts HL5.out.head
            by_cases h1 : 1 < s'.size
            · have hlt0 : 0 < s'.size := by omega
              by_cases hb : (s'[0]'hlt0).toNat = 48
              · have e0 : (((s'[0]'hlt0).toNat : Int) == 48) = true := by rw [hb]; rfl
                have HSZ := Aside0.mk (ex_size s' hlt0)
                have HAL := Aside0.mk (ex_all HD'.out)
                clear hb
                go_wp2_with fail
                go_roundg (gk - 1)
                case measure => omega
                case rel => exact ⟨s'.extract 1 s'.size, rfl, by rw [HSZ.out]; omega, by rw [HSZ.out]; omega, by rw [HSZ.out]; omega, HAL, HL5⟩
              · have e0 : (((s'[0]'hlt0).toNat : Int) == 48) = false := by rw [beq_eq_false_iff_ne]; omega
                have HDG : Aside0 (Dg s') := ⟨dg_of HD'.out hs1 hs2 (.inr ⟨hlt0, hb⟩)⟩
                clear hb
                go_wp2_with fail
                go_roundg 1
                case measure => omega
                case rel => exact ⟨1, s', o1, rfl, rfl, ⟨HL5.out.set0 s', fun _ => HDG.out, fun h => by omega⟩⟩
            · have HDG : Aside0 (Dg s') := ⟨dg_of HD'.out hs1 hs2 (.inl (by omega))⟩
              go_wp2_with fail
              go_roundg 1
              case measure => omega
              case rel => exact ⟨1, s', o1, rfl, rfl, ⟨HL5.out.set0 s', fun _ => HDG.out, fun h => by omega⟩⟩
    · obtain rfl : gk = 1 := by omega
      go_wp2_with fail
      refine (q_pick x3 100 _ HB3.out.1 HB3.out.2 (by omega)).mono ?_
      rintro e V1 ⟨rfl, hb1⟩
      have HP1 := Aside0.mk (pk_range x3 (n := 100) (by omega))
      generalize pk x3 100 = q1 at *
      have hq1 := HP1.out
      have HL1 := Aside0.mk (HL.out.next hb1)
      obtain ⟨a0, a1, a2, a3⟩ := quad_cells (HL1.out.bx _ (List.mem_cons_of_mem _ (List.mem_cons_of_mem _ (List.mem_cons_self ..))))
      clear hb1
      go_wp2_with fail
      refine (q_pick x2 1000000007 _ HB2.out.1 HB2.out.2 (by omega)).mono ?_
      rintro e V2 ⟨rfl, hb2⟩
      have HP2 := Aside0.mk (pk_range x2 (n := 1000000007) (by omega))
      generalize pk x2 1000000007 = q2 at *
      have hq2 := HP2.out
      have HL2 := Aside0.mk (HL1.out.next hb2)
      clear hb2 a0 a1 a2 a3
      go_wp2_with fail
      obtain ⟨nn, hnn⟩ : ∃ nn : Nat, (nn : Int) = 1 + q1 := ⟨(1 + q1).toNat, by omega⟩
      rw [← hnn]
      have HN := Aside0.mk (show 1 ≤ nn ∧ nn ≤ 100 by omega)
      clear hnn HP1 hq1
      obtain ⟨wo, hwo⟩ : ∃ wo : World, wo = V2 := ⟨_, rfl⟩
      go_loopg [6, 7] nn (fun jq v6 v7 wr => ∃ (s : ByteArray) (c : Int), v6 = .string s ∧ v7 = .int .i64 c ∧ 0 ≤ c ∧ c < 2147483647 ∧ s.size + jq = nn ∧ Aside0 (s.data.toList.all isDig = true) ∧ Aside0 (Lb w wr x0 x1 x2 x3 o0 o1))
      case atStart => exact ⟨⟨#[]⟩, q2, rfl, rfl, hq2.1, by omega, by show 0 + nn = nn; omega, ⟨rfl⟩, HL2⟩
      case round =>
        obtain ⟨s, c, rfl, rfl, hc0, hc1, hsz, HD, HL3⟩ := hrel
        by_cases hg : s.size < nn
        · have hn100 := HN.out.2
          have hdd : 48 ≤ 48 + (c * 48271 + 11) % 2147483647 / 65536 % 10 ∧ 48 + (c * 48271 + 11) % 2147483647 / 65536 % 10 ≤ 57 := by omega
          have hcv := conv_one wr (48 + (c * 48271 + 11) % 2147483647 / 65536 % 10)
          obtain ⟨ch, hch⟩ : ∃ ch, strOfNums [48 + (c * 48271 + 11) % 2147483647 / 65536 % 10] = ch := ⟨_, rfl⟩
          rw [hch] at hcv
          have hcs : ch.size ≤ 1 := by rw [← hch]; exact Nat.le_refl _
          have HCH := Aside0.mk (one_digit hdd.1 hdd.2)
          rw [hch] at HCH
          have HL4 := Aside0.mk (HL3.out.next (below_alloc (Below.refl _ wr) (.cells #[.int .u8 (48 + (c * 48271 + 11) % 2147483647 / 65536 % 10)] 5)))
          clear hch
          go_wp2_with fail
          go_roundg (nn - (s.size + 1))
          case measure => omega
          case rel => exact ⟨s ++ ch, (c * 48271 + 11) % 2147483647, rfl, rfl, by omega, by omega, by rw [ByteArray.size_append, HCH.out.2]; omega, ⟨by rw [ba_append, List.all_append, HD.out, HCH.out.1]; rfl⟩, HL4⟩
        · have hsn : s.size = nn := by omega
          have hn1 := HN.out
          go_wp2_with fail
          go_loopg [6] nn (fun jq v6 wr2 => ∃ s : ByteArray, v6 = .string s ∧ 1 ≤ s.size ∧ s.size ≤ 100 ∧ s.size + 0 = jq ∧ Aside0 (s.data.toList.all isDig = true) ∧ Aside0 (Lb w wr2 x0 x1 x2 x3 o0 o1))
          case atStart => exact ⟨s, rfl, by omega, by omega, by omega, HD, HL3⟩
          case round =>
            obtain ⟨s', rfl, hs1, hs2, hs3, HD', HL5⟩ := hrel
            obtain ⟨m0, m1, mf0, mf1⟩ := pair_facts HL5.out.head
            by_cases h1 : 1 < s'.size
            · have hlt0 : 0 < s'.size := by omega
              by_cases hb : (s'[0]'hlt0).toNat = 48
              · have e0 : (((s'[0]'hlt0).toNat : Int) == 48) = true := by rw [hb]; rfl
                have HSZ := Aside0.mk (ex_size s' hlt0)
                have HAL := Aside0.mk (ex_all HD'.out)
                clear hb
                go_wp2_with fail
                go_roundg (gk - 1)
                case measure => omega
                case rel => exact ⟨s'.extract 1 s'.size, rfl, by rw [HSZ.out]; omega, by rw [HSZ.out]; omega, by rw [HSZ.out]; omega, HAL, HL5⟩
              · have e0 : (((s'[0]'hlt0).toNat : Int) == 48) = false := by rw [beq_eq_false_iff_ne]; omega
                have HDG : Aside0 (Dg s') := ⟨dg_of HD'.out hs1 hs2 (.inr ⟨hlt0, hb⟩)⟩
                clear hb
                go_wp2_with fail
                go_roundg 0
                case measure => omega
                case rel => exact ⟨2, o0, s', rfl, rfl, ⟨HL5.out.set1 s', fun _ => HX.out.2.1 (by omega), fun _ => HDG.out⟩⟩
            · have HDG : Aside0 (Dg s') := ⟨dg_of HD'.out hs1 hs2 (.inl (by omega))⟩
              go_wp2_with fail
              go_roundg 0
              case measure => omega
              case rel => exact ⟨2, o0, s', rfl, rfl, ⟨HL5.out.set1 s', fun _ => HX.out.2.1 (by omega), fun _ => HDG.out⟩⟩
    · obtain rfl : gk = 0 := by omega
      have hd0 := HX.out.2.1 (by omega)
      have hd1 := HX.out.2.2 (by omega)
      have HS0 := Aside0.mk hd0.sz
      have HS1 := Aside0.mk hd1.sz
      obtain ⟨m0, hm0, ho0⟩ := hd0
      obtain ⟨m1, hm1, ho1⟩ := hd1
      have HM0 := Aside0.mk hm0
      have HM1 := Aside0.mk hm1
      have HO0 := Aside0.mk ho0
      have HO1 := Aside0.mk ho1
      have t0 : (o0.toList == [48]) = decide (m0 = 0) := by rw [ho0, tx_list, Bool.eq_iff_iff, beq_iff_eq, decide_eq_true_iff, itoa_0_iff]; omega
      have t0' : (o0.toList != [48]) = !decide (m0 = 0) := by rw [bne, t0]
      have t1 : (o1.toList == [48]) = decide (m1 = 0) := by rw [ho1, tx_list, Bool.eq_iff_iff, beq_iff_eq, decide_eq_true_iff, itoa_0_iff]; omega
      obtain ⟨p0, p1, pf0, pf1⟩ := pair_facts HL.out.head
      have HPK := Aside0.mk (pk_range x0 (n := 2) (by omega))
      clear hm0 hm1 ho0 ho1 HX
      by_cases hz1 : m1 = 0
      · have HZ1 := Aside0.mk hz1
        rw [decide_eq_true hz1] at t1
        clear hz1
        go_wp2_with fail
        have HLA := Aside0.mk (HL.out.set1 ⟨#[55]⟩)
        obtain ⟨a0, a1, a2, a3⟩ := quad_cells (HLA.out.bx _ (List.mem_cons_of_mem _ (List.mem_cons_of_mem _ (List.mem_cons_self ..))))
        obtain ⟨p0, p1, pf0, pf1⟩ := pair_facts HLA.out.head
        go_wp2_with fail
        refine (q_pick x0 2 _ HB0.out.1 HB0.out.2 (by omega)).mono ?_
        rintro e V3 ⟨rfl, hb3⟩
        have hlx := HLA.out.next hb3
        obtain ⟨p0, p1, pf0, pf1⟩ := pair_facts hlx.head
        have HLX := Aside0.mk hlx
        have hpk := HPK.out
        generalize pk x0 2 = q at *
        clear hb3 hlx HLA HL
        have hsz := HS0.out
        by_cases hq0 : q = 0
        · have q0 : ((q : Int) == 0) = true := by rw [hq0]; rfl
          by_cases hz0 : m0 = 0
          · rw [decide_eq_true hz0] at t0 t0'
            clear hz0 hq0
            go_wp2_with fail
            refine (q_make o0 ⟨#[55]⟩ _ (Nat.le_trans HS0.out (by omega)) (by decide)).mono ?_
            rintro e V4 ⟨rfl, hb4⟩
            have HL6 := Aside0.mk (HLX.out.next hb4)
            obtain ⟨r, hr, he⟩ := mk_fin (x := (m0 : Int)) (y := 7) (by rw [Int.natAbs_natCast]; exact HM0.out) C100_7 (by omega)
            rw [← HO0.out, ← tx_7] at he
            rw [he]
            unfold ratV
            have HRR := Aside0.mk hr
            clear hb4 he hr
            obtain ⟨rn, hrn⟩ : ∃ s, tx r.num = s := ⟨_, rfl⟩
            obtain ⟨rd', hrd⟩ : ∃ s, tx (r.den : Int) = s := ⟨_, rfl⟩
            have HRN := Aside0.mk hrn
            have HRD := Aside0.mk hrd
            rw [hrn, hrd]
            clear hrn hrd
            have HL7 := Aside0.mk (HL6.out.next (below_alloc (Below.refl _ V4) (Rb rn rd')))
            obtain ⟨z0, z1, zf0, zf1⟩ := pair_facts HL7.out.tail.head
            go_wp2_with fail
            have hq := blk_set (blk_set HL7.out.tail.head 0 (.string rn)) 1 (.string rd')
            refine bodyPost_ret (results_single rfl (.cell (w.heap.size + 1) 23 _ (0, 0) _ rfl hq Tryz.underlying23 rfl (by kernel_rfl) .nil)) rfl ?_
            refine ⟨⟨r, HRR.out, ?_⟩, ?_⟩
            · rw [HRN.out, HRD.out]; rfl
            · exact (HL7.out.bl.setCell (p := ⟨w.heap.size + 1, 0, none⟩) (by show _ ≤ w.heap.size + 1; omega) _).setCell (p := ⟨w.heap.size + 1, 1, none⟩) (by show _ ≤ w.heap.size + 1; omega) _
          · have HZ0 := Aside0.mk hz0
            rw [decide_eq_false hz0] at t0 t0'
            clear hz0 hq0
            go_wp2_with fail
            have hlx := Lb.set0 HLX.out (⟨#[45]⟩ ++ o0)
            clear HLX
            have HLX := Aside0.mk hlx
            obtain ⟨p0, p1, pf0, pf1⟩ := pair_facts hlx.head
            clear hlx
            have HS2 : Aside0 (Ref.SZ (⟨#[45]⟩ ++ o0)) := ⟨sz_minus HS0.out⟩
            have HO2 : Aside0 ((⟨#[45]⟩ : ByteArray) ++ o0 = tx (-(m0 : Int))) := ⟨by rw [HO0.out]; exact tx_minus (show 0 < m0 by have := HZ0.out; omega)⟩
            generalize (⟨#[45]⟩ : ByteArray) ++ o0 = o2 at *
            refine (q_make o2 ⟨#[55]⟩ _ HS2.out (by decide)).mono ?_
            rintro e V4 ⟨rfl, hb4⟩
            have HL6 := Aside0.mk (HLX.out.next hb4)
            obtain ⟨r, hr, he⟩ := mk_fin (x := (-(m0 : Int))) (y := 7) (by rw [Int.natAbs_neg, Int.natAbs_natCast]; exact HM0.out) C100_7 (by omega)
            rw [← HO2.out, ← tx_7] at he
            rw [he]
            unfold ratV
            have HRR := Aside0.mk hr
            clear hb4 he hr
            obtain ⟨rn, hrn⟩ : ∃ s, tx r.num = s := ⟨_, rfl⟩
            obtain ⟨rd', hrd⟩ : ∃ s, tx (r.den : Int) = s := ⟨_, rfl⟩
            have HRN := Aside0.mk hrn
            have HRD := Aside0.mk hrd
            rw [hrn, hrd]
            clear hrn hrd
            have HL7 := Aside0.mk (HL6.out.next (below_alloc (Below.refl _ V4) (Rb rn rd')))
            obtain ⟨z0, z1, zf0, zf1⟩ := pair_facts HL7.out.tail.head
            go_wp2_with fail
            have hq := blk_set (blk_set HL7.out.tail.head 0 (.string rn)) 1 (.string rd')
            refine bodyPost_ret (results_single rfl (.cell (w.heap.size + 1) 23 _ (0, 0) _ rfl hq Tryz.underlying23 rfl (by kernel_rfl) .nil)) rfl ?_
            refine ⟨⟨r, HRR.out, ?_⟩, ?_⟩
            · rw [HRN.out, HRD.out]; rfl
            · exact (HL7.out.bl.setCell (p := ⟨w.heap.size + 1, 0, none⟩) (by show _ ≤ w.heap.size + 1; omega) _).setCell (p := ⟨w.heap.size + 1, 1, none⟩) (by show _ ≤ w.heap.size + 1; omega) _
        · have q0 : ((q : Int) == 0) = false := by rw [beq_eq_false_iff_ne]; exact hq0
          clear hq0
          go_wp2_with fail
          refine (q_make o0 ⟨#[55]⟩ _ (Nat.le_trans HS0.out (by omega)) (by decide)).mono ?_
          rintro e V4 ⟨rfl, hb4⟩
          have HL6 := Aside0.mk (HLX.out.next hb4)
          obtain ⟨r, hr, he⟩ := mk_fin (x := (m0 : Int)) (y := 7) (by rw [Int.natAbs_natCast]; exact HM0.out) C100_7 (by omega)
          rw [← HO0.out, ← tx_7] at he
          rw [he]
          unfold ratV
          have HRR := Aside0.mk hr
          clear hb4 he hr
          obtain ⟨rn, hrn⟩ : ∃ s, tx r.num = s := ⟨_, rfl⟩
          obtain ⟨rd', hrd⟩ : ∃ s, tx (r.den : Int) = s := ⟨_, rfl⟩
          have HRN := Aside0.mk hrn
          have HRD := Aside0.mk hrd
          rw [hrn, hrd]
          clear hrn hrd
          have HL7 := Aside0.mk (HL6.out.next (below_alloc (Below.refl _ V4) (Rb rn rd')))
          obtain ⟨z0, z1, zf0, zf1⟩ := pair_facts HL7.out.tail.head
          go_wp2_with fail
          have hq := blk_set (blk_set HL7.out.tail.head 0 (.string rn)) 1 (.string rd')
          refine bodyPost_ret (results_single rfl (.cell (w.heap.size + 1) 23 _ (0, 0) _ rfl hq Tryz.underlying23 rfl (by kernel_rfl) .nil)) rfl ?_
          refine ⟨⟨r, HRR.out, ?_⟩, ?_⟩
          · rw [HRN.out, HRD.out]; rfl
          · exact (HL7.out.bl.setCell (p := ⟨w.heap.size + 1, 0, none⟩) (by show _ ≤ w.heap.size + 1; omega) _).setCell (p := ⟨w.heap.size + 1, 1, none⟩) (by show _ ≤ w.heap.size + 1; omega) _
      · have HZ1 := Aside0.mk hz1
        rw [decide_eq_false hz1] at t1
        clear hz1
        go_wp2_with fail
        have HLA := Aside0.mk HL.out
        obtain ⟨a0, a1, a2, a3⟩ := quad_cells (HLA.out.bx _ (List.mem_cons_of_mem _ (List.mem_cons_of_mem _ (List.mem_cons_self ..))))
        obtain ⟨p0, p1, pf0, pf1⟩ := pair_facts HLA.out.head
        go_wp2_with fail
        refine (q_pick x0 2 _ HB0.out.1 HB0.out.2 (by omega)).mono ?_
        rintro e V3 ⟨rfl, hb3⟩
        have hlx := HLA.out.next hb3
        obtain ⟨p0, p1, pf0, pf1⟩ := pair_facts hlx.head
        have HLX := Aside0.mk hlx
        have hpk := HPK.out
        generalize pk x0 2 = q at *
        clear hb3 hlx HLA HL
        have hsz := HS0.out
        by_cases hq0 : q = 0
        · have q0 : ((q : Int) == 0) = true := by rw [hq0]; rfl
          by_cases hz0 : m0 = 0
          · rw [decide_eq_true hz0] at t0 t0'
            clear hz0 hq0
            go_wp2_with fail
            refine (q_make o0 o1 _ (Nat.le_trans HS0.out (by omega)) (Nat.le_trans HS1.out (by omega))).mono ?_
            rintro e V4 ⟨rfl, hb4⟩
            have HL6 := Aside0.mk (HLX.out.next hb4)
            obtain ⟨r, hr, he⟩ := mk_fin (x := (m0 : Int)) (y := m1) (by rw [Int.natAbs_natCast]; exact HM0.out) HM1.out (by have := HZ1.out; omega)
            rw [← HO0.out, ← HO1.out] at he
            rw [he]
            unfold ratV
            have HRR := Aside0.mk hr
            clear hb4 he hr
            obtain ⟨rn, hrn⟩ : ∃ s, tx r.num = s := ⟨_, rfl⟩
            obtain ⟨rd', hrd⟩ : ∃ s, tx (r.den : Int) = s := ⟨_, rfl⟩
            have HRN := Aside0.mk hrn
            have HRD := Aside0.mk hrd
            rw [hrn, hrd]
            clear hrn hrd
            have HL7 := Aside0.mk (HL6.out.next (below_alloc (Below.refl _ V4) (Rb rn rd')))
            obtain ⟨z0, z1, zf0, zf1⟩ := pair_facts HL7.out.tail.head
            go_wp2_with fail
            have hq := blk_set (blk_set HL7.out.tail.head 0 (.string rn)) 1 (.string rd')
            refine bodyPost_ret (results_single rfl (.cell (w.heap.size + 1) 23 _ (0, 0) _ rfl hq Tryz.underlying23 rfl (by kernel_rfl) .nil)) rfl ?_
            refine ⟨⟨r, HRR.out, ?_⟩, ?_⟩
            · rw [HRN.out, HRD.out]; rfl
            · exact (HL7.out.bl.setCell (p := ⟨w.heap.size + 1, 0, none⟩) (by show _ ≤ w.heap.size + 1; omega) _).setCell (p := ⟨w.heap.size + 1, 1, none⟩) (by show _ ≤ w.heap.size + 1; omega) _
          · have HZ0 := Aside0.mk hz0
            rw [decide_eq_false hz0] at t0 t0'
            clear hz0 hq0
            go_wp2_with fail
            have hlx := Lb.set0 HLX.out (⟨#[45]⟩ ++ o0)
            clear HLX
            have HLX := Aside0.mk hlx
            obtain ⟨p0, p1, pf0, pf1⟩ := pair_facts hlx.head
            clear hlx
            have HS2 : Aside0 (Ref.SZ (⟨#[45]⟩ ++ o0)) := ⟨sz_minus HS0.out⟩
            have HO2 : Aside0 ((⟨#[45]⟩ : ByteArray) ++ o0 = tx (-(m0 : Int))) := ⟨by rw [HO0.out]; exact tx_minus (show 0 < m0 by have := HZ0.out; omega)⟩
            generalize (⟨#[45]⟩ : ByteArray) ++ o0 = o2 at *
            refine (q_make o2 o1 _ HS2.out (Nat.le_trans HS1.out (by omega))).mono ?_
            rintro e V4 ⟨rfl, hb4⟩
            have HL6 := Aside0.mk (HLX.out.next hb4)
            obtain ⟨r, hr, he⟩ := mk_fin (x := (-(m0 : Int))) (y := m1) (by rw [Int.natAbs_neg, Int.natAbs_natCast]; exact HM0.out) HM1.out (by have := HZ1.out; omega)
            rw [← HO2.out, ← HO1.out] at he
            rw [he]
            unfold ratV
            have HRR := Aside0.mk hr
            clear hb4 he hr
            obtain ⟨rn, hrn⟩ : ∃ s, tx r.num = s := ⟨_, rfl⟩
            obtain ⟨rd', hrd⟩ : ∃ s, tx (r.den : Int) = s := ⟨_, rfl⟩
            have HRN := Aside0.mk hrn
            have HRD := Aside0.mk hrd
            rw [hrn, hrd]
            clear hrn hrd
            have HL7 := Aside0.mk (HL6.out.next (below_alloc (Below.refl _ V4) (Rb rn rd')))
            obtain ⟨z0, z1, zf0, zf1⟩ := pair_facts HL7.out.tail.head
            go_wp2_with fail
            have hq := blk_set (blk_set HL7.out.tail.head 0 (.string rn)) 1 (.string rd')
            refine bodyPost_ret (results_single rfl (.cell (w.heap.size + 1) 23 _ (0, 0) _ rfl hq Tryz.underlying23 rfl (by kernel_rfl) .nil)) rfl ?_
            refine ⟨⟨r, HRR.out, ?_⟩, ?_⟩
            · rw [HRN.out, HRD.out]; rfl
            · exact (HL7.out.bl.setCell (p := ⟨w.heap.size + 1, 0, none⟩) (by show _ ≤ w.heap.size + 1; omega) _).setCell (p := ⟨w.heap.size + 1, 1, none⟩) (by show _ ≤ w.heap.size + 1; omega) _
        · have q0 : ((q : Int) == 0) = false := by rw [beq_eq_false_iff_ne]; exact hq0
          clear hq0
          go_wp2_with fail
          refine (q_make o0 o1 _ (Nat.le_trans HS0.out (by omega)) (Nat.le_trans HS1.out (by omega))).mono ?_
          rintro e V4 ⟨rfl, hb4⟩
          have HL6 := Aside0.mk (HLX.out.next hb4)
          obtain ⟨r, hr, he⟩ := mk_fin (x := (m0 : Int)) (y := m1) (by rw [Int.natAbs_natCast]; exact HM0.out) HM1.out (by have := HZ1.out; omega)
          rw [← HO0.out, ← HO1.out] at he
          rw [he]
          unfold ratV
          have HRR := Aside0.mk hr
          clear hb4 he hr
          obtain ⟨rn, hrn⟩ : ∃ s, tx r.num = s := ⟨_, rfl⟩
          obtain ⟨rd', hrd⟩ : ∃ s, tx (r.den : Int) = s := ⟨_, rfl⟩
          have HRN := Aside0.mk hrn
          have HRD := Aside0.mk hrd
          rw [hrn, hrd]
          clear hrn hrd
          have HL7 := Aside0.mk (HL6.out.next (below_alloc (Below.refl _ V4) (Rb rn rd')))
          obtain ⟨z0, z1, zf0, zf1⟩ := pair_facts HL7.out.tail.head
          go_wp2_with fail
          have hq := blk_set (blk_set HL7.out.tail.head 0 (.string rn)) 1 (.string rd')
          refine bodyPost_ret (results_single rfl (.cell (w.heap.size + 1) 23 _ (0, 0) _ rfl hq Tryz.underlying23 rfl (by kernel_rfl) .nil)) rfl ?_
          refine ⟨⟨r, HRR.out, ?_⟩, ?_⟩
          · rw [HRN.out, HRD.out]; rfl
          · exact (HL7.out.bl.setCell (p := ⟨w.heap.size + 1, 0, none⟩) (by show _ ≤ w.heap.size + 1; omega) _).setCell (p := ⟨w.heap.size + 1, 1, none⟩) (by show _ ≤ w.heap.size + 1; omega) _

end Go.Proofs.YtnhjidbjibehpaaGreatDoor.L4

/- Plain laws of fractions: powers of ten and the limit of 200 digits. No program in this text. -/
namespace Yd
open Go.Lib

/-- a power of ten, and one over it -/
def Tn (n : Nat) : Rat := (((10 : Int) ^ n : Int) : Rat)
def Ti (m : Nat) : Rat := Rat.divInt 1 (10 ^ m)
theorem Tn_num (n : Nat) : (Tn n).num = 10 ^ n := rfl
theorem Tn_den (n : Nat) : (Tn n).den = 1 := rfl
theorem Ti_parts (m : Nat) : (Ti m).num = 1 ∧ ((Ti m).den : Int) = 10 ^ m := by
  unfold Ti
  exact num_divInt_co (pow10_pos m) (by rw [show (1 : Int).natAbs = 1 from rfl, Nat.gcd_one_left])
theorem Tn_RL {n : Nat} (h : n < 200) : RL (Tn n) := by
  refine ⟨?_, DL_gt1⟩
  rw [Tn_num]
  exact sm_iff.1 ((Pw.pow n).sm h)
end Yd

/- What the makers make; what the laws of fractions give of results. -/
namespace Go.Proofs.YtnhjidbjibehpaaGreatDoor.L4
open Go.Shelf Go.RowKit Go.Proofs.YtnhjidbjibehpaaGreatDoorW.PrintWords Go.Proofs.YtnhjidbjibehpaaGreatDoorW.PrintLast Go.Proofs.YtnhjidbjibehpaaGreatDoorW.PrintMore Yd L3
set_option linter.unusedVariables false
set_option linter.unusedSimpArgs false
attribute [local go_sem ↓] Go.wp_at_zero Go.wp_at_succ

/-- a fraction that the reference's maker has made: a small one, or one of up to 100 digits -/
def FA (lg : Bool) (s t : ByteArray) : Prop := ∃ r, rvalB s t = some r ∧ s = tx r.num ∧ t = tx r.den ∧ RL r ∧ (lg = false → Pr 3 2 r)
theorem rbin_some {f : Rat → Rat → Option Rat} {x y : Option Rat} {r : Rat} (h : rbin f x y = some r) : ∃ a b, x = some a ∧ y = some b ∧ f a b = some r := by
  cases x with
  | none => cases h
  | some a => cases y with
    | none => cases h
    | some b => exact ⟨a, b, rfl, rfl, h⟩
theorem rv_o {r : Rat} (h : RL r) : rvalB (oS (some r)) (oT (some r)) = some r := rvalB_tx h
theorem oK_tests (o : Option Rat) : (oK o = 0 ∧ (oK o == 0) = true ∧ (oK o != 0) = false) ∨ (oK o = 40 ∧ (oK o == 0) = false ∧ (oK o != 0) = true) := by
  cases o
  · exact .inr ⟨rfl, rfl, rfl⟩
  · exact .inl ⟨rfl, rfl, rfl⟩
theorem rbin_comm {f : Rat → Rat → Option Rat} (hf : ∀ a b, f a b = f b a) (x y : Option Rat) : rbin f x y = rbin f y x := by
  cases x <;> cases y <;> first | rfl | exact hf _ _
theorem f_small {sa ta sb tb : ByteArray} {lg : Bool} (h1 : FA lg sa ta) (h2 : FA lg sb tb) (hl : lg = false) : oK (rbin radd (rvalB sa ta) (rvalB sb tb)) = 0 ∧ oK (rbin rmul (rvalB sa ta) (rvalB sb tb)) = 0 := by
  obtain ⟨a, ha, _, _, _, pa⟩ := h1
  obtain ⟨b, hb, _, _, _, pb⟩ := h2
  rw [ha, hb]
  refine ⟨?_, ?_⟩
  · rw [show rbin radd (some a) (some b) = radd a b from rfl, radd_fits (pa hl) (pb hl) (by omega) (by omega) (by omega)]; rfl
  · rw [show rbin rmul (some a) (some b) = rmul a b from rfl, rmul_fits (pa hl) (pb hl) (by omega) (by omega)]; rfl
theorem f_sum {va vb vc ab bc x y : Option Rat} (h1 : rbin radd va vb = ab) (h2 : rbin radd vb vc = bc) (h3 : rbin radd (rvalB (oS ab) (oT ab)) vc = x) (h4 : rbin radd va (rvalB (oS bc) (oT bc)) = y) (k1 : oK ab = 0) (k2 : oK bc = 0) (k3 : oK x = 0) (k4 : oK y = 0) : x = y := by
  obtain ⟨r1, e1⟩ := oK_zero k1
  obtain ⟨r2, e2⟩ := oK_zero k2
  obtain ⟨r3, e3⟩ := oK_zero k3
  obtain ⟨r4, e4⟩ := oK_zero k4
  subst e1 e2 e3 e4
  obtain ⟨a, b, rfl, rfl, h1⟩ := rbin_some h1
  obtain ⟨b', c, hb, rfl, h2⟩ := rbin_some h2
  injection hb with hb; subst hb
  rw [rv_o (RL_add h1).1] at h3
  rw [rv_o (RL_add h2).1] at h4
  exact congrArg some (field_sum h1 h2 h3 h4)
theorem f_mul {va vb vc ab bc x y : Option Rat} (h1 : rbin rmul va vb = ab) (h2 : rbin rmul vb vc = bc) (h3 : rbin rmul va (rvalB (oS bc) (oT bc)) = x) (h4 : rbin rmul (rvalB (oS ab) (oT ab)) vc = y) (k1 : oK ab = 0) (k2 : oK bc = 0) (k3 : oK x = 0) (k4 : oK y = 0) : x = y := by
  obtain ⟨r1, e1⟩ := oK_zero k1
  obtain ⟨r2, e2⟩ := oK_zero k2
  obtain ⟨r3, e3⟩ := oK_zero k3
  obtain ⟨r4, e4⟩ := oK_zero k4
  subst e1 e2 e3 e4
  obtain ⟨a, b, rfl, rfl, h1⟩ := rbin_some h1
  obtain ⟨b', c, hb, rfl, h2⟩ := rbin_some h2
  injection hb with hb; subst hb
  rw [rv_o (RL_mul h2).1] at h3
  rw [rv_o (RL_mul h1).1] at h4
  exact congrArg some (field_mul h1 h2 h3 h4)
theorem f_distr {va vb vc ab ac bc x y : Option Rat} (h1 : rbin radd va vb = ab) (h2 : rbin rmul va vc = ac) (h3 : rbin rmul vb vc = bc) (h4 : rbin radd (rvalB (oS ac) (oT ac)) (rvalB (oS bc) (oT bc)) = x) (h5 : rbin rmul (rvalB (oS ab) (oT ab)) vc = y) (k1 : oK ab = 0) (k2 : oK ac = 0) (k3 : oK bc = 0) (k4 : oK x = 0) (k5 : oK y = 0) : x = y := by
  obtain ⟨r1, e1⟩ := oK_zero k1
  obtain ⟨r2, e2⟩ := oK_zero k2
  obtain ⟨r3, e3⟩ := oK_zero k3
  obtain ⟨r4, e4⟩ := oK_zero k4
  obtain ⟨r5, e5⟩ := oK_zero k5
  subst e1 e2 e3 e4 e5
  obtain ⟨a, b, rfl, rfl, h1⟩ := rbin_some h1
  obtain ⟨a', c, ha, rfl, h2⟩ := rbin_some h2
  injection ha with ha; subst ha
  rw [show rbin rmul (some b) (some c) = rmul b c from rfl] at h3
  rw [rv_o (RL_mul h2).1, rv_o (RL_mul h3).1] at h4
  rw [rv_o (RL_add h1).1] at h5
  exact congrArg some (field_distr h1 h2 h3 h4 h5)
theorem f_back {sa ta : ByteArray} {lg : Bool} {vb ab x : Option Rat} (ha : FA lg sa ta) (h1 : rbin radd (rvalB sa ta) vb = ab) (h2 : rbin rsub (rvalB (oS ab) (oT ab)) vb = x) (k1 : oK ab = 0) (k2 : oK x = 0) : oS x = sa ∧ oT x = ta := by
  obtain ⟨r1, e1⟩ := oK_zero k1
  obtain ⟨r2, e2⟩ := oK_zero k2
  subst e1 e2
  obtain ⟨a, hv, hs, ht, _, _⟩ := ha
  rw [hv] at h1
  obtain ⟨a', b, ha', rfl, h1⟩ := rbin_some h1
  injection ha' with ha'; subst ha'
  rw [rv_o (RL_add h1).1] at h2
  have := field_back h1 h2
  subst this
  exact ⟨hs.symm, ht.symm⟩
theorem f_again {sa ta : ByteArray} {lg : Bool} {vb q x : Option Rat} (ha : FA lg sa ta) (h1 : rbin rdiv (rvalB sa ta) vb = q) (h2 : rbin rmul (rvalB (oS q) (oT q)) vb = x) (k1 : oK q = 0) (k2 : oK x = 0) : oS x = sa ∧ oT x = ta := by
  obtain ⟨r1, e1⟩ := oK_zero k1
  obtain ⟨r2, e2⟩ := oK_zero k2
  subst e1 e2
  obtain ⟨a, hv, hs, ht, _, _⟩ := ha
  rw [hv] at h1
  obtain ⟨a', b, ha', rfl, h1⟩ := rbin_some h1
  injection ha' with ha'; subst ha'
  rw [rv_o (RL_div h1).1] at h2
  have := field_again h1 h2
  subst this
  exact ⟨hs.symm, ht.symm⟩

/-- an int -/
abbrev I64 (x : Int) : Prop := -9223372036854775808 ≤ x ∧ x ≤ 9223372036854775807
theorem fa_small (x0 x1 : Int) : FA false (tx (smallR x0 x1).num) (tx (smallR x0 x1).den) := by
  have h0 := pk_range x0 (n := 1999) (by omega)
  have h1 := pk_range x1 (n := 60) (by omega)
  have hp : Pr 3 2 (smallR x0 x1) := Pr.divInt (by unfold Pw; omega) (by unfold Pw; omega)
  have hr : RL (smallR x0 x1) := ⟨sm_iff.1 (hp.1.sm (by omega)), by have := sm_iff.1 (hp.2.sm (by omega)); simpa using this⟩
  exact ⟨_, rvalB_tx hr, rfl, rfl, hr, fun _ => hp⟩
theorem fa_long {r : Rat} (h : r.num.natAbs < C100 ∧ r.den < C100) : FA true (tx r.num) (tx r.den) := by
  have hr : RL r := ⟨Nat.lt_of_lt_of_le h.1 C100_DL, Nat.lt_of_lt_of_le h.2 C100_DL⟩
  exact ⟨_, rvalB_tx hr, rfl, rfl, hr, fun h => by cases h⟩
end Go.Proofs.YtnhjidbjibehpaaGreatDoor.L4

/- What a row's condition gives the walks: strconv's table, and the runtime's variable; the row's frame with both. -/
namespace Go.Proofs.YtnhjidbjibehpaaGreatDoor
open Go.ChangeShapes Go.WideShapes Go.ChangeAt Go.RowKit

theorem own : ownKnob Tryz.prog.godebug = none := by kernel_rfl
/-- the list that all rows of this seat bear -/
def lst : List (String × DataW Unit) := [("math/bits.deBruijn32tab", Rows.laid_math_bits_deBruijn32tab), ("math/bits.deBruijn64tab", Rows.laid_math_bits_deBruijn64tab), ("internal/strconv.uint64pow10", Rows.laid_internal_strconv_uint64pow10), ("unicode/utf8.acceptRanges", Rows.laid_unicode_utf8_acceptRanges), ("strconv.ErrRange", Rows.laid_strconv_ErrRange), ("strconv.ErrSyntax", Rows.laid_strconv_ErrSyntax), ("unicode/utf8.first", Rows.laid_unicode_utf8_first)]
theorem tab_of {W : World} (h : laidMetH Tryz.prog lst W) : L3.Tab W := by
  rw [MakeChecks.laidMetH_plain _ _ _ (by kernel_rfl)] at h
  have h2 : laidMet Tryz.prog (("internal/strconv.uint64pow10", Lib.tabData .u64 Lib.pow10Tab) :: _) W := laidMet.tail (laidMet.tail h)
  exact Lib.tabIs_of_head (g := 1) (by kernel_rfl) (by kernel_rfl) (Tryz.underlying169) (Tryz.underlying146) (by kernel_rfl) (by kernel_rfl) h2
theorem mx_of {W : World} (h : W.ShapedOpen Tryz.prog) : L4.Mx W := by
  obtain ⟨m, hm⟩ := cell_of_shapedOpen_int (g := 0) (t := 3) (zero := #[.int .i64 0]) h (of_decide_eq_true (by kernel_rfl)) (by kernel_rfl) rfl (by kernel_rfl) (by kernel_rfl) Tryz.underlying3
  exact ⟨World.block_lt_of_cell? W _ hm, m, hm⟩
theorem env_of {W : World} (h : laidMetH Tryz.prog lst W) (h2 : W.ShapedOpen Tryz.prog) : L4.Env W := ⟨tab_of h, mx_of h2⟩
theorem i64_bounds {x : Int} (h : (Lit.int .i64 x).wf = true) : -9223372036854775808 ≤ x ∧ x ≤ 9223372036854775807 := by
  simp only [Lit.wf, IntKind.min, IntKind.max, IntKind.signed, IntKind.bits, Bool.and_eq_true, decide_eq_true_eq, if_true] at h
  omega
/-- the row's frame, with the listed variables and the world's shape -/
theorem framed {H : Type} {enc : TypeId × Value → H} {C : Checked} {os : Os} {f : FuncId} {fn : Func} {s : ChangeSpec} {conds : List PathCond} {X : World → Array Value → Prop}
    (hX : ∀ (w w' : World) (args : Array Value), w.heap = w'.heap → X w args → X w' args)
    (own : ownKnob C.prog.godebug = none) (started : os.Started) (noInit : C.prog.inits.idxOf? f = none) (hfn : C.prog.funcs[f]? = some fn)
    (witness : ∃ (w : World) (tape : Tape) (i : Input), w.os = os ∧ (w.forCall tape i).Shaped C.prog ∧ i.vars = [] ∧ Input.okWide C.prog (w.forCall tape i) .any w.heap.size f i ∧
      ((s.pre enc C.prog fn conds false (w.forCall tape i).memory i.args ∧ X (w.forCall tape i).memory i.args) ∧ sizedMet enc C.prog fn (OpenSpec.ofChange s) false (w.forCall tape i).memory i.args) ∧ Assume.holds {} C.prog (lone (Frame.enter C.prog f i.args .normal) [] (w.forCall tape i)))
    (contract : ∀ (W : World) (base : Nat) (args : Array Value) (ds gs : List (DataW H)) (before : List MemPlace),
      (∀ (j : Nat) t v, fn.params[j]? = some t → args[j]? = some v → Value.okWide C.prog W .any base t v) →
      DataW.Whole enc C.prog fn.params.toList s.vars false W args.toList ds gs before →
      (DataW.weightsEach C.prog (fn.params.toList ++ s.plain.varTypes C.prog) (ds ++ gs)).all (· ≤ reachBytes) = true → X W args → W.ShapedOpen C.prog →
      Calls C.prog f args W fun e W' => ∃ v, e = .returned v ∧ s.post enc C.prog fn false true false false W args v W') :
    ReturnsInHanded {} C os f .any (fun w args => (s.pre enc C.prog fn conds false w args ∧ X w args) ∧ sizedMet enc C.prog fn (OpenSpec.ofChange s) false w args) (s.post enc C.prog fn false true false false) := by
  refine returnsInHanded_of_calls own started noInit witness ?_
  intro w tape i _ hsh _ hok hpre hholds
  obtain ⟨_, _, _, fn', hfn', _, _, _, _, hval⟩ := hok
  have e : fn' = fn := Option.some.inj (hfn'.symm.trans hfn)
  subst e
  obtain ⟨⟨⟨ds, gs, before, hw, hc⟩, hx⟩, hz⟩ := hpre
  have hw' := DataW.Whole.of_heap (w' := w.forCall tape i) (by rfl) hw
  refine (contract (w.forCall tape i) w.heap.size i.args ds gs before hval hw' (hz.weights hw) (hX _ _ _ (by rfl) hx) hsh).mono fun e W' ⟨v, he, hp⟩ => ?_
  subst he
  exact ChangeSpec.post_blind hp

end Go.Proofs.YtnhjidbjibehpaaGreatDoor

/- Arrays of two and of four integers as arguments: taken apart, and put together again. -/
namespace Go.Proofs.YtnhjidbjibehpaaGreatDoor
open Go.ChangeShapes Go.WideShapes Go.ChangeAt Go.RowKit
variable {H : Type} {enc : TypeId × Value → H} {P : Program} {w : World} {base : Nat} {spare : Nat → Bool} {held : Bool}

theorem open_arr4 {r : Reach} {b0 : Nat} {t e : TypeId} {k : IntKind} {v : Value} {d : DataW H} {p : List MemPlace} (ht : P.underlying t = some (.array 4 e)) (he : P.underlying e = some (.int k)) (hc : P.cellsOf e = 1) (hC : P.cellsOf t = 4)
    (hv : Value.okWide P w r b0 t v) (h : DataW.Trod enc P w base spare held t v d p) :
    ∃ a b c g, v = .agg #[.int k a, .int k b, .int k c, .int k g] ∧ d = .agg [.lit (.int k a), .lit (.int k b), .lit (.int k c), .lit (.int k g)] ∧ p = [] ∧ ((Lit.int k a).wf = true ∧ (Lit.int k b).wf = true ∧ (Lit.int k c).wf = true ∧ (Lit.int k g).wf = true) := by
  simp only [Value.okWide, ht] at hv
  obtain ⟨⟨cs⟩, rfl, hsz, _⟩ := hv
  rw [hC] at hsz
  match cs, hsz with
  | [c0, c1, c2, c3], _ =>
    obtain ⟨fuel, hf⟩ := h
    obtain ⟨y0, y1, y2, y3, n, hx, h0, h1, h2, h3⟩ := trod_array4 ht hc (c0 := c0) (c1 := c1) (c2 := c2) (c3 := c3) (by simpa [Value.cells] using hf)
    obtain ⟨a, e0, rfl, w0⟩ := DataW.trod_int he h0
    obtain ⟨b, e1, rfl, w1⟩ := DataW.trod_int he h1
    obtain ⟨c, e2, rfl, w2⟩ := DataW.trod_int he h2
    obtain ⟨g, e3, rfl, w3⟩ := DataW.trod_int he h3
    simp only [List.cons.injEq, and_true] at e0 e1 e2 e3
    subst e0 e1 e2 e3
    simp only [Prod.mk.injEq] at hx
    exact ⟨a, b, c, g, rfl, hx.1, hx.2, w0, w1, w2, w3⟩
theorem shut_arr4 {t e : TypeId} {k : IntKind} {a b c g : Int} (ht : P.underlying t = some (.array 4 e)) (he : P.underlying e = some (.int k)) (hc : P.cellsOf e = 1) (hC : P.cellsOf t = 4)
    (hw : (Lit.int k a).wf = true ∧ (Lit.int k b).wf = true ∧ (Lit.int k c).wf = true ∧ (Lit.int k g).wf = true) :
    DataW.Trod enc P w base spare held t (.agg #[.int k a, .int k b, .int k c, .int k g]) (.agg [.lit (.int k a), .lit (.int k b), .lit (.int k c), .lit (.int k g)]) [] := by
  obtain ⟨w0, w1, w2, w3⟩ := hw
  refine ⟨2, ?_⟩
  have r4 : List.range 4 = [0, 1, 2, 3] := rfl
  simp [DataW.trod, Value.cells, ht, he, hc, hC, r4, w0, w1, w2, w3]
theorem open_arr2 {r : Reach} {b0 : Nat} {t e : TypeId} {k : IntKind} {v : Value} {d : DataW H} {p : List MemPlace} (ht : P.underlying t = some (.array 2 e)) (he : P.underlying e = some (.int k)) (hc : P.cellsOf e = 1) (hC : P.cellsOf t = 2)
    (hv : Value.okWide P w r b0 t v) (h : DataW.Trod enc P w base spare held t v d p) :
    ∃ a b, v = .agg #[.int k a, .int k b] ∧ d = .agg [.lit (.int k a), .lit (.int k b)] ∧ p = [] ∧ ((Lit.int k a).wf = true ∧ (Lit.int k b).wf = true) := by
  simp only [Value.okWide, ht] at hv
  obtain ⟨⟨cs⟩, rfl, hsz, _⟩ := hv
  rw [hC] at hsz
  match cs, hsz with
  | [c0, c1], _ =>
    obtain ⟨fuel, hf⟩ := h
    obtain ⟨xs, m, _, hx, _, hl, hi⟩ := DataW.trod_array ht hf
    match xs, hl with
    | [y0, y1], _ =>
      have h0 := hi 0 (by omega)
      have h1 := hi 1 (by omega)
      simp only [Value.cells, hc] at h0 h1
      obtain ⟨a, e0, rfl, w0⟩ := DataW.trod_int he (show DataW.trod enc P w base spare held m e [c0] = some y0 from h0)
      obtain ⟨b, e1, rfl, w1⟩ := DataW.trod_int he (show DataW.trod enc P w base spare held m e [c1] = some y1 from h1)
      simp only [List.cons.injEq, and_true] at e0 e1
      subst e0 e1
      simp only [Prod.mk.injEq] at hx
      exact ⟨a, b, rfl, hx.1, hx.2, w0, w1⟩
theorem shut_arr2 {t e : TypeId} {k : IntKind} {a b : Int} (ht : P.underlying t = some (.array 2 e)) (he : P.underlying e = some (.int k)) (hc : P.cellsOf e = 1) (hC : P.cellsOf t = 2)
    (hw : (Lit.int k a).wf = true ∧ (Lit.int k b).wf = true) :
    DataW.Trod enc P w base spare held t (.agg #[.int k a, .int k b]) (.agg [.lit (.int k a), .lit (.int k b)]) [] := by
  obtain ⟨w0, w1⟩ := hw
  refine ⟨2, ?_⟩
  have r2 : List.range 2 = [0, 1] := rfl
  simp [DataW.trod, Value.cells, ht, he, hc, hC, r2, w0, w1]

end Go.Proofs.YtnhjidbjibehpaaGreatDoor
