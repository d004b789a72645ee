/- Layer 3, walked: signed.plus, one, FromInt. -/
import Derived.Test.YtnhjidbjibehpaaGreatDoorIr
import Derived.Test.YtnhjidbjibehpaaGreatDoorIg
import Derived.Deep.RegionHeld3
import Derived.Deep.DrawnRows
namespace Go.Proofs.YtnhjidbjibehpaaGreatDoor.L3
open Go.Shelf Go.RowKit Go.Proofs.YtnhjidbjibehpaaGreatDoorW.PrintWords Go.Proofs.YtnhjidbjibehpaaGreatDoorW.PrintLast Go.Proofs.YtnhjidbjibehpaaGreatDoorW.PrintMore Yd
set_option linter.unusedVariables false
set_option linter.unusedSimpArgs false
attribute [local go_sem ↓] Go.wp_at_zero Go.wp_at_succ

theorem cell_far2 {W : World} {A B i : Nat} {v x y : Value} (h : W.cell? ⟨A, i, none⟩ = some v) (hne : A ≠ B) : ((W.setCell ⟨B, 0, none⟩ x).setCell ⟨B, 1, none⟩ y).cell? ⟨A, i, none⟩ = some v :=
  (World.cell?_of_block (w := W) (a := ⟨A, i, none⟩) ((Below.heap_setCell _ ⟨B, 1, none⟩ y A hne).trans (Below.heap_setCell _ ⟨B, 0, none⟩ x A hne))).trans h
/-- two numbers' boxes and the result's -/
structure PB3 (w W : World) (a b : Array Value) : Prop where
  bl : Below w.heap.size w W
  p0 : W.heap[w.heap.size]? = some (.cells a 100)
  p1 : W.heap[w.heap.size + 1]? = some (.cells b 100)
  p2 : W.heap[w.heap.size + 1 + 1]? = some (.cells #[.bool false, .slice none 0 0] 100)
theorem PB3.start (w : World) (a b : Array Value) : PB3 w (((w.alloc (.cells a 100)).alloc (.cells b 100)).alloc (.cells #[.bool false, .slice none 0 0] 100)) a b := by
  have h1 := alloc_here w (.cells a 100)
  generalize hW1 : w.alloc (.cells a 100) = W1 at *
  have s1 : W1.heap.size = w.heap.size + 1 := by rw [← hW1, World.size_alloc]
  have b1 : Below w.heap.size w W1 := by rw [← hW1]; exact below_alloc (Below.refl _ w) _
  have h2 := alloc_here W1 (.cells b 100)
  generalize hW2 : W1.alloc (.cells b 100) = W2 at *
  have s2 : W2.heap.size = w.heap.size + 2 := by rw [← hW2, World.size_alloc, s1]
  have b2 : Below W1.heap.size W1 W2 := by rw [← hW2]; exact below_alloc (Below.refl _ W1) _
  have b3 : Below W2.heap.size W2 (W2.alloc (.cells #[.bool false, .slice none 0 0] 100)) := below_alloc (Below.refl _ W2) _
  refine ⟨b1.trans ((b2.trans (b3.mono (by omega))).mono (by omega)), (b3.block _ (by omega)).trans ((b2.block _ (by omega)).trans h1), ?_, ?_⟩
  · refine (b3.block _ (by omega)).trans ?_
    rw [show w.heap.size + 1 = W1.heap.size by omega]; exact h2
  · rw [show w.heap.size + 1 + 1 = W2.heap.size by omega]; exact alloc_here W2 _
theorem PB3.next {w W W' : World} {a b : Array Value} (h : PB3 w W a b) (hb : Below W.heap.size W W') : PB3 w W' a b :=
  ⟨h.bl.trans (hb.mono h.bl.size), (hb.block _ (blk_lt h.p0)).trans h.p0, (hb.block _ (blk_lt h.p1)).trans h.p1, (hb.block _ (blk_lt h.p2)).trans h.p2⟩
theorem PB3.sets {w W : World} {a b : Array Value} (h : PB3 w W a b) (c : Bool) (A : Option Addr) (l k : Nat) (W' : World) (e : W' = (W.setCell ⟨w.heap.size + 1 + 1, 0, none⟩ (.bool c)).setCell ⟨w.heap.size + 1 + 1, 1, none⟩ (.slice A l k)) :
    Below w.heap.size w W' ∧ W'.heap[w.heap.size + 1 + 1]? = some (.cells #[.bool c, .slice A l k] 100) ∧ (∀ v n, Nm W v n → Nm W' v n) := by
  subst e
  refine ⟨(h.bl.setCell (p := ⟨w.heap.size + 1 + 1, 0, none⟩) (by show _ ≤ w.heap.size + 1 + 1; omega) _).setCell (p := ⟨w.heap.size + 1 + 1, 1, none⟩) (by show _ ≤ w.heap.size + 1 + 1; omega) _, blk_set (blk_set h.p2 0 (.bool c)) 1 _, fun v n hn => ?_⟩
  exact Nm.setPair (i := 1) (Nm.setPair (i := 0) hn h.p2 (.bool c)) (blk_set h.p2 0 (.bool c)) _

theorem splus_end {w W W' : World} {a b : Array Value} {c : Bool} {A : Option Addr} {l k n : Nat} {z : Int} (h : PB3 w W a b) (hn : Nm W (.slice A l k) n) (hz : z = if c then -(n : Int) else (n : Int))
    (e : W' = (W.setCell ⟨w.heap.size + 1 + 1, 0, none⟩ (.bool c)).setCell ⟨w.heap.size + 1 + 1, 1, none⟩ (.slice A l k)) :
    (∃ v, Ending.returned (.agg #[.bool c, .slice A l k]) = .returned v ∧ Sg W' v z ∧ Below w.heap.size w W') ∧ W'.heap[w.heap.size + 1 + 1]? = some (.cells #[.bool c, .slice A l k] 100) := by
  obtain ⟨e1, e2, e3⟩ := h.sets c A l k W' e
  exact ⟨⟨_, rfl, ⟨c, _, n, rfl, e3 _ _ hn, hz⟩, e1⟩, e2⟩

set_option maxRecDepth 100000 in
set_option maxHeartbeats 4000000 in
/-- plus of signed numbers -/
theorem splus_calls (v1 v2 : Value) (x y : Int) (w : World) (h1 : Sg w v1 x) (h2 : Sg w v2 y) (ha : GL x.natAbs ≤ 900) (hb : GL y.natAbs ≤ 900) :
    Calls Tryz.prog 90 #[v1, v2] w fun e w' => ∃ v, e = .returned v ∧ Sg w' v (x + y) ∧ Below w.heap.size w w' := by
  obtain ⟨b1, u1, n1, rfl, hn1, hx⟩ := h1
  obtain ⟨b2, u2, n2, rfl, hn2, hy⟩ := h2
  have hg1 : GL n1 ≤ 1000 := by rw [hx] at ha; split at ha <;> simp at ha <;> omega
  have hg2 : GL n2 ≤ 1000 := by rw [hy] at hb; split at hb <;> simp at hb <;> omega
  obtain ⟨A1, c1, rfl, hn1'⟩ := id hn1
  obtain ⟨A2, c2, rfl, hn2'⟩ := id hn2
  have HN1 := Aside0.mk hn1
  have HN2 := Aside0.mk hn2
  have HG1 := Aside0.mk hg1
  have HG2 := Aside0.mk hg2
  clear hn1 hn2 hn1' hn2' hg1 hg2 ha hb
  have hp := PB3.start w #[.bool b1, .slice A1 (bd 10000 n1).length c1] #[.bool b2, .slice A2 (bd 10000 n2).length c2]
  go_enter Tryz.func90, Tryz.ntmps90
  by_cases hbb : b1 = b2
  · subst hbb
    have e1 : (b1 == b1) = true := by simp
    have HZ := Aside0.mk (show x + y = if b1 = true then -((n1 + n2 : Nat) : Int) else ((n1 + n2 : Nat) : Int) by rw [hx, hy]; split <;> omega)
    clear hx hy
    go_wp2_with fail
    generalize (((w.alloc (.cells #[.bool b1, .slice A1 (bd 10000 n1).length c1] 100)).alloc (.cells #[.bool b1, .slice A2 (bd 10000 n2).length c2] 100)).alloc (.cells #[.bool false, .slice none 0 0] 100)) = W0 at *
    have HP0 := Aside0.mk hp
    obtain ⟨c0, c1', f0, f1⟩ := pair_facts hp.p0
    obtain ⟨d0, d1, g0, g1⟩ := pair_facts hp.p1
    obtain ⟨k0, k1, m0, m1⟩ := pair_facts hp.p2
    clear hp
    go_region_held3 (fun w' => w'.cell? ⟨w.heap.size, 0, none⟩ = some (.bool b1) ∧ w'.cell? ⟨w.heap.size, 1, none⟩ = some (.slice A1 (bd 10000 n1).length c1) ∧ w'.cell? ⟨w.heap.size + 1, 0, none⟩ = some (.bool b1) ∧ w'.cell? ⟨w.heap.size + 1, 1, none⟩ = some (.slice A2 (bd 10000 n2).length c2)) (first | exact ⟨c0, c1', d0, d1⟩ | exact ⟨cell_far2 c0 (by omega), cell_far2 c1' (by omega), cell_far2 d0 (by omega), cell_far2 d1 (by omega)⟩ | go_keep) (first | (go_at_call 86; refine (nplus_calls _ _ n1 n2 _ (Nm.below HN1.out (below_drew HP0.out.bl)) (Nm.below HN2.out (below_drew HP0.out.bl)) HG1.out HG2.out).mono ?_; rintro e W3 ⟨v3, rfl, hn3, hb3⟩; obtain ⟨A3, c3, rfl, hn3'⟩ := id hn3; have hp := PB3.next (W := W0.drew) (W' := W3) ⟨below_drew HP0.out.bl, HP0.out.p0, HP0.out.p1, HP0.out.p2⟩ hb3; have HP := Aside0.mk hp; obtain ⟨c0, c1', f0, f1⟩ := pair_facts hp.p0; obtain ⟨d0, d1, g0, g1⟩ := pair_facts hp.p1; obtain ⟨k0, k1, m0, m1⟩ := pair_facts hp.p2; have HN3 := Aside0.mk hn3; clear hn3 hn3' hb3 hp))
    all_goals
      obtain ⟨E1, E2⟩ := splus_end HP.out HN3.out HZ.out rfl
      have HE1 := Aside0.mk E1
      have HE2 := Aside0.mk E2
      clear E1 E2
      go_wp2_with fail
      refine bodyPost_ret (results_single rfl (.cell (w.heap.size + 1 + 1) 100 _ (0, 0) _ rfl HE2.out Tryz.underlying100 rfl (by kernel_rfl) .nil)) rfl ?_
      exact HE1.out
  · have e1 : (b1 == b2) = false := by simpa using hbb
    go_wp2_with fail
    generalize (((w.alloc (.cells #[.bool b1, .slice A1 (bd 10000 n1).length c1] 100)).alloc (.cells #[.bool b2, .slice A2 (bd 10000 n2).length c2] 100)).alloc (.cells #[.bool false, .slice none 0 0] 100)) = Wz at *
    have HPz := Aside0.mk hp
    clear hp
    refine (ncmp_calls _ _ n1 n2 _ (Nm.below HN1.out HPz.out.bl) (Nm.below HN2.out HPz.out.bl) HG1.out HG2.out).mono ?_
    rintro e W0 ⟨rfl, hb0⟩
    have hp := HPz.out.next hb0
    have HP0 := Aside0.mk hp
    obtain ⟨c0, c1', f0, f1⟩ := pair_facts hp.p0
    obtain ⟨d0, d1, g0, g1⟩ := pair_facts hp.p1
    obtain ⟨k0, k1, m0, m1⟩ := pair_facts hp.p2
    clear hp hb0 HPz
    by_cases hle : n2 ≤ n1
    · have e2 : decide (0 ≤ cmpI (n1 : Int) (n2 : Int)) = true := decide_eq_true (by unfold cmpI; split <;> (try split) <;> omega)
      have HLE := Aside0.mk hle
      have HZ := Aside0.mk (show x + y = if b1 = true then -((n1 - n2 : Nat) : Int) else ((n1 - n2 : Nat) : Int) by rw [hx, hy]; cases b1 <;> cases b2 <;> simp at hbb ⊢ <;> omega)
      clear hx hy hle hbb
      generalize cmpI (n1 : Int) (n2 : Int) = cc at *
      go_wp2_with fail
      go_region_held3 (fun w' => w'.cell? ⟨w.heap.size, 0, none⟩ = some (.bool b1) ∧ w'.cell? ⟨w.heap.size, 1, none⟩ = some (.slice A1 (bd 10000 n1).length c1) ∧ w'.cell? ⟨w.heap.size + 1, 0, none⟩ = some (.bool b2) ∧ w'.cell? ⟨w.heap.size + 1, 1, none⟩ = some (.slice A2 (bd 10000 n2).length c2)) (first | exact ⟨c0, c1', d0, d1⟩ | exact ⟨cell_far2 c0 (by omega), cell_far2 c1' (by omega), cell_far2 d0 (by omega), cell_far2 d1 (by omega)⟩ | go_keep) (first | (go_at_call 88; refine (nminus_calls _ _ n1 n2 _ (Nm.below HN1.out (below_drew HP0.out.bl)) (Nm.below HN2.out (below_drew HP0.out.bl)) HG1.out HLE.out).mono ?_; rintro e W3 ⟨v3, rfl, hn3, hb3⟩; obtain ⟨A3, c3, rfl, hn3'⟩ := id hn3; have hp := PB3.next (W := W0.drew) (W' := W3) ⟨below_drew HP0.out.bl, HP0.out.p0, HP0.out.p1, HP0.out.p2⟩ hb3; have HP := Aside0.mk hp; obtain ⟨c0, c1', f0, f1⟩ := pair_facts hp.p0; obtain ⟨d0, d1, g0, g1⟩ := pair_facts hp.p1; obtain ⟨k0, k1, m0, m1⟩ := pair_facts hp.p2; have HN3 := Aside0.mk hn3; clear hn3 hn3' hb3 hp))
      all_goals
        obtain ⟨E1, E2⟩ := splus_end HP.out HN3.out HZ.out rfl
        have HE1 := Aside0.mk E1
        have HE2 := Aside0.mk E2
        clear E1 E2
        go_wp2_with fail
        refine bodyPost_ret (results_single rfl (.cell (w.heap.size + 1 + 1) 100 _ (0, 0) _ rfl HE2.out Tryz.underlying100 rfl (by kernel_rfl) .nil)) rfl ?_
        exact HE1.out
    · have e2 : decide (0 ≤ cmpI (n1 : Int) (n2 : Int)) = false := decide_eq_false (by unfold cmpI; split <;> (try split) <;> omega)
      have HLE : Aside0 (n1 ≤ n2) := ⟨by omega⟩
      have HZ := Aside0.mk (show x + y = if b2 = true then -((n2 - n1 : Nat) : Int) else ((n2 - n1 : Nat) : Int) by rw [hx, hy]; cases b1 <;> cases b2 <;> simp at hbb ⊢ <;> omega)
      clear hx hy hle hbb
      generalize cmpI (n1 : Int) (n2 : Int) = cc at *
      go_wp2_with fail
      go_region_held3 (fun w' => w'.cell? ⟨w.heap.size, 0, none⟩ = some (.bool b1) ∧ w'.cell? ⟨w.heap.size, 1, none⟩ = some (.slice A1 (bd 10000 n1).length c1) ∧ w'.cell? ⟨w.heap.size + 1, 0, none⟩ = some (.bool b2) ∧ w'.cell? ⟨w.heap.size + 1, 1, none⟩ = some (.slice A2 (bd 10000 n2).length c2)) (first | exact ⟨c0, c1', d0, d1⟩ | exact ⟨cell_far2 c0 (by omega), cell_far2 c1' (by omega), cell_far2 d0 (by omega), cell_far2 d1 (by omega)⟩ | go_keep) (first | (go_at_call 88; refine (nminus_calls _ _ n2 n1 _ (Nm.below HN2.out (below_drew HP0.out.bl)) (Nm.below HN1.out (below_drew HP0.out.bl)) HG2.out HLE.out).mono ?_; rintro e W3 ⟨v3, rfl, hn3, hb3⟩; obtain ⟨A3, c3, rfl, hn3'⟩ := id hn3; have hp := PB3.next (W := W0.drew) (W' := W3) ⟨below_drew HP0.out.bl, HP0.out.p0, HP0.out.p1, HP0.out.p2⟩ hb3; have HP := Aside0.mk hp; obtain ⟨c0, c1', f0, f1⟩ := pair_facts hp.p0; obtain ⟨d0, d1, g0, g1⟩ := pair_facts hp.p1; obtain ⟨k0, k1, m0, m1⟩ := pair_facts hp.p2; have HN3 := Aside0.mk hn3; clear hn3 hn3' hb3 hp))
      all_goals
        obtain ⟨E1, E2⟩ := splus_end HP.out HN3.out HZ.out rfl
        have HE1 := Aside0.mk E1
        have HE2 := Aside0.mk E2
        clear E1 E2
        go_wp2_with fail
        refine bodyPost_ret (results_single rfl (.cell (w.heap.size + 1 + 1) 100 _ (0, 0) _ rfl HE2.out Tryz.underlying100 rfl (by kernel_rfl) .nil)) rfl ?_
        exact HE1.out

set_option maxRecDepth 100000 in
set_option maxHeartbeats 4000000 in
theorem one_nm {w w' : World} {v : Value} (h : (Kd.int IntKind.i64).R 3 w' w.heap.size (fun x => True) v [1]) : Nm w' v 1 := by
  obtain ⟨A, c, rfl, hc, hC⟩ := Kd.R_reads h
  exact ⟨A, c, by rw [show bd 10000 1 = [1] by simp [bd]], by rw [show bd 10000 1 = [1] by simp [bd]]; exact hc, by rw [show bd 10000 1 = [1] by simp [bd]]; exact Kd.reads_of_C (enc := Value.int .i64) (d := (0 : Int)) (h1 := fun _ => rfl) hC⟩
/-- one -/
theorem one_calls (w : World) : Calls Tryz.prog 87 #[] w fun e w' => ∃ v, e = .returned v ∧ Nm w' v 1 ∧ Below w.heap.size w w' :=
  (Ref.integer_one.calls _ w rfl).mono (by
    rintro e w' ⟨v, rfl, h⟩
    exact ⟨v, rfl, one_nm h.1, h.2⟩)

set_option maxRecDepth 100000 in
set_option maxHeartbeats 4000000 in
/-- FromInt -/
theorem fromInt_calls (n : Int) (w : World) (h0 : -9223372036854775808 ≤ n) (h1 : n ≤ 9223372036854775807) (hT : Tab w) : Calls Tryz.prog 72 #[.int .i64 n] w fun e w' => e = .returned (.string ⟨(Lib.itoa n).toArray⟩) ∧ Below w.heap.size w w' := by
  go_enter Tryz.func72, Tryz.ntmps72
  go_wp2_with fail
  refine (Tryz.strconv_Itoa n h0 h1 w hT).mono ?_
  rintro e w' ⟨rfl, k, os, rfl⟩
  have HB := Aside0.mk (bgrow w k os)
  generalize Go.Sort.grow (w.drewN k) os = w1 at *
  go_wp2_with fail
  go_ret
  exact ⟨rfl, HB.out⟩

end Go.Proofs.YtnhjidbjibehpaaGreatDoor.L3
