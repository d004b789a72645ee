/- Layer 4, walked: Make, Of. -/
import Derived.Test.YtnhjidbjibehpaaGreatDoorZj
import Derived.Test.YtnhjidbjibehpaaGreatDoorZd
namespace Go.Proofs.YtnhjidbjibehpaaGreatDoor.L4
open Go.Shelf Go.RowKit Go.Proofs.YtnhjidbjibehpaaGreatDoorW.PrintWords Go.Proofs.YtnhjidbjibehpaaGreatDoorW.PrintLast Go.Proofs.YtnhjidbjibehpaaGreatDoorW.PrintMore Yd L3
set_option linter.unusedVariables false
set_option linter.unusedSimpArgs false
attribute [local go_sem ↓] Go.wp_at_zero Go.wp_at_succ

/-- what Make returns -/
def mkT (s t : List UInt8) : Value := match ival s, ival t with
  | some x, some y => mkV x y
  | _, _ => badR
theorem mkV_rat (x y : Int) : ∃ s t e, mkV x y = ratV s t e := by
  unfold mkV badR; split <;> exact ⟨_, _, _, rfl⟩
theorem RB.set {w W : World} {s t : ByteArray} (h : RB w W s t) (s' t' : ByteArray) : RB w ((W.setCell ⟨w.heap.size, 0, none⟩ (.string s')).setCell ⟨w.heap.size, 1, none⟩ (.string t')) s' t' :=
  ⟨(h.bl.setCell (p := ⟨w.heap.size, 0, none⟩) (Nat.le_refl _) _).setCell (p := ⟨w.heap.size, 1, none⟩) (Nat.le_refl _) _, blk_set (blk_set h.p0 0 (.string s')) 1 _⟩
theorem RB.grown {w W W' : World} {B : Nat} {s t : ByteArray} (h : RB w W s t) (hg : W.grownBy W' (some B)) (hB : w.heap.size < B) : RB w W' s t :=
  ⟨h.bl.grown hg h.bl.size (fun k e => by injection e with e; omega), (hg.block _ (blk_lt h.p0) (by intro e; injection e with e; omega)).trans h.p0⟩

set_option maxRecDepth 100000 in
set_option maxHeartbeats 4000000 in
/-- Make -/
theorem make_calls (s t : ByteArray) (w : World) (hT : Tab w) :
    Calls Tryz.prog 22 #[.string s, .string t] w fun e w' => e = .returned (mkT s.data.toList t.data.toList) ∧ Below w.heap.size w w' := by
  have HT := Aside0.mk hT
  clear hT
  go_enter Tryz.func22, Tryz.ntmps22
  go_wp2_with fail
  have HR0 := Aside0.mk (RB.start w ⟨#[]⟩ ⟨#[]⟩)
  generalize w.alloc (.cells #[.string ⟨#[]⟩, .string ⟨#[]⟩] 23) = W0 at *
  refine (valid_calls s _).mono ?_
  rintro e w1 ⟨rfl, hb1⟩
  have HR1 := Aside0.mk (HR0.out.next hb1)
  clear hb1 HR0
  rw [ivalid_iff_isSome]
  cases h1 : ival s.data.toList with
  | none =>
    simp only [Option.isSome_none]
    have HE : Aside0 (mkT s.data.toList t.data.toList = badR) := ⟨by unfold mkT; rw [h1]⟩
    have HWK : Aside0 (Wk (w1.alloc (.cells #[.bool true] 78)) w1.heap.size true) := ⟨alloc_here w1 _⟩
    have HR3 := Aside0.mk (HR1.out.next (below_alloc (Below.refl _ w1) (.cells #[.bool true] 78)))
    clear h1
    go_wp2_with fail
    refine (red_bad _ _ _ _ HWK.out).mono ?_
    rintro e W4 ⟨rfl, hb4⟩
    have HR4 := Aside0.mk (HR3.out.next hb4)
    obtain ⟨c0, c1, f0, f1⟩ := pair_facts HR4.out.p0
    clear hb4
    unfold badR ratV
    go_wp2_with fail
    have HR5 := Aside0.mk (HR4.out.set ⟨#[]⟩ ⟨#[]⟩)
    refine bodyPost_ret (results_list (rs := [.cell _ _, .tmp _]) rfl (by simp) (.cell w.heap.size 23 _ (0, 0) _ rfl HR5.out.p0 Tryz.underlying23 rfl (by kernel_rfl) (.tmp .nil))) rfl ?_
    exact ⟨by rw [HE.out]; rfl, HR5.out.bl⟩
  | some x =>
    simp only [Option.isSome_some]
    go_wp2_with fail
    refine (valid_calls t _).mono ?_
    rintro e w2 ⟨rfl, hb2⟩
    have HR2 := Aside0.mk (HR1.out.next hb2)
    clear hb2 HR1
    rw [ivalid_iff_isSome]
    cases h2 : ival t.data.toList with
    | none =>
      simp only [Option.isSome_none]
      have HE : Aside0 (mkT s.data.toList t.data.toList = badR) := ⟨by unfold mkT; rw [h2]; cases ival s.data.toList <;> rfl⟩
      have HWK : Aside0 (Wk (w2.alloc (.cells #[.bool true] 78)) w2.heap.size true) := ⟨alloc_here w2 _⟩
      have HR3 := Aside0.mk (HR2.out.next (below_alloc (Below.refl _ w2) (.cells #[.bool true] 78)))
      clear h1 h2
      go_wp2_with fail
      refine (red_bad _ _ _ _ HWK.out).mono ?_
      rintro e W4 ⟨rfl, hb4⟩
      have HR4 := Aside0.mk (HR3.out.next hb4)
      obtain ⟨c0, c1, f0, f1⟩ := pair_facts HR4.out.p0
      clear hb4
      unfold badR ratV
      go_wp2_with fail
      have HR5 := Aside0.mk (HR4.out.set ⟨#[]⟩ ⟨#[]⟩)
      refine bodyPost_ret (results_list (rs := [.cell _ _, .tmp _]) rfl (by simp) (.cell w.heap.size 23 _ (0, 0) _ rfl HR5.out.p0 Tryz.underlying23 rfl (by kernel_rfl) (.tmp .nil))) rfl ?_
      exact ⟨by rw [HE.out]; rfl, HR5.out.bl⟩
    | some y =>
      simp only [Option.isSome_some]
      have HE : Aside0 (mkT s.data.toList t.data.toList = mkV x y) := ⟨by unfold mkT; rw [h1, h2]⟩
      have HWK : Aside0 (Wk (w2.alloc (.cells #[.bool false] 78)) w2.heap.size false) := ⟨alloc_here w2 _⟩
      have HR3 := Aside0.mk (HR2.out.next (below_alloc (Below.refl _ w2) (.cells #[.bool false] 78)))
      obtain ⟨hs, hx⟩ := tx_of h1
      obtain ⟨ht, hy⟩ := tx_of h2
      have HX := Aside0.mk hx
      have HY := Aside0.mk hy
      subst hs ht
      obtain ⟨r1, r2, er, hr⟩ := mkV_rat x y
      have HR := Aside0.mk hr
      clear h1 h2 hx hy hr
      go_wp2_with fail
      refine (red_calls w _ _ x y HWK.out HX.out HY.out HT.out HR3.out.bl (by have := HR2.out.bl.size; omega)).mono ?_
      rintro e W4 ⟨rfl, hg4⟩
      have HR4 := Aside0.mk (HR3.out.grown hg4 (blk_lt HR2.out.p0))
      obtain ⟨c0, c1, f0, f1⟩ := pair_facts HR4.out.p0
      clear hg4
      rw [HR.out]
      unfold ratV
      go_wp2_with fail
      have HR5 := Aside0.mk (HR4.out.set r1 r2)
      refine bodyPost_ret (results_list (rs := [.cell _ _, .tmp _]) rfl (by simp) (.cell w.heap.size 23 _ (0, 0) _ rfl HR5.out.p0 Tryz.underlying23 rfl (by kernel_rfl) (.tmp .nil))) rfl ?_
      exact ⟨by rw [HE.out, HR.out]; rfl, HR5.out.bl⟩

end Go.Proofs.YtnhjidbjibehpaaGreatDoor.L4

/- Layer 4, walked: Of, check. -/
namespace Go.Proofs.YtnhjidbjibehpaaGreatDoor.L4
open Go.Shelf Go.RowKit Go.Proofs.YtnhjidbjibehpaaGreatDoorW.PrintWords Go.Proofs.YtnhjidbjibehpaaGreatDoorW.PrintLast Go.Proofs.YtnhjidbjibehpaaGreatDoorW.PrintMore Yd L3
set_option linter.unusedVariables false
set_option linter.unusedSimpArgs false
attribute [local go_sem ↓] Go.wp_at_zero Go.wp_at_succ

theorem tabB {w W : World} (h : Tab w) (hb : Below w.heap.size w W) : Tab W := h.below hb (Nat.le_refl _)
theorem DL_i64 {n : Int} (h0 : -9223372036854775808 ≤ n) (h1 : n ≤ 9223372036854775807) : n.natAbs < DL := by
  have : n.natAbs ≤ 9223372036854775808 := by omega
  refine Nat.lt_of_le_of_lt this ?_
  rw [DL_eq]
  exact Nat.lt_of_lt_of_le (show 9223372036854775808 < 10 ^ 19 by omega) (Nat.pow_le_pow_right (by omega) (by omega))
theorem mkT_tx {x y : Int} (hx : x.natAbs < DL) (hy : y.natAbs < DL) : mkT (tx x).data.toList (tx y).data.toList = mkV x y := by unfold mkT; rw [ival_tx hx, ival_tx hy]

set_option maxRecDepth 100000 in
set_option maxHeartbeats 4000000 in
/-- Of -/
theorem of_calls (x y : Int) (w : World) (hT : Tab w) (hx0 : -9223372036854775808 ≤ x) (hx1 : x ≤ 9223372036854775807) (hy0 : -9223372036854775808 ≤ y) (hy1 : y ≤ 9223372036854775807) :
    Calls Tryz.prog 41 #[.int .i64 x, .int .i64 y] w fun e w' => e = .returned (mkV x y) ∧ Below w.heap.size w w' := by
  have HT := Aside0.mk hT
  have HX := Aside0.mk (DL_i64 hx0 hx1)
  have HY := Aside0.mk (DL_i64 hy0 hy1)
  have HXB := Aside0.mk (And.intro hx0 hx1)
  have HYB := Aside0.mk (And.intro hy0 hy1)
  clear hT hx0 hx1 hy0 hy1
  go_enter Tryz.func41, Tryz.ntmps41
  go_wp2_with fail
  have HR0 := Aside0.mk (RB.start w ⟨#[]⟩ ⟨#[]⟩)
  generalize w.alloc (.cells #[.string ⟨#[]⟩, .string ⟨#[]⟩] 23) = W0 at *
  refine (fromInt_calls x _ HXB.out.1 HXB.out.2 (tabB HT.out HR0.out.bl)).mono ?_
  rintro e w1 ⟨rfl, hb1⟩
  have HR1 := Aside0.mk (HR0.out.next hb1)
  clear hb1 HR0
  go_wp2_with fail
  refine (fromInt_calls y _ HYB.out.1 HYB.out.2 (tabB HT.out HR1.out.bl)).mono ?_
  rintro e w2 ⟨rfl, hb2⟩
  have HR2 := Aside0.mk (HR1.out.next hb2)
  clear hb2 HR1
  go_wp2_with fail
  refine (make_calls (tx x) (tx y) _ (tabB HT.out HR2.out.bl)).mono ?_
  rintro e w3 ⟨rfl, hb3⟩
  have HR3 := Aside0.mk (HR2.out.next hb3)
  obtain ⟨c0, c1, f0, f1⟩ := pair_facts HR3.out.p0
  obtain ⟨r1, r2, er, hr⟩ := mkV_rat x y
  have HR := Aside0.mk hr
  rw [mkT_tx HX.out HY.out, hr]
  unfold ratV
  clear hb3 hr
  go_wp2_with fail
  have HR5 := Aside0.mk (HR3.out.set r1 r2)
  refine bodyPost_ret (results_list (rs := [.cell _ _, .tmp _]) rfl (by simp) (.cell w.heap.size 23 _ (0, 0) _ rfl HR5.out.p0 Tryz.underlying23 rfl (by kernel_rfl) (.tmp .nil))) rfl ?_
  exact ⟨by rw [HR.out]; rfl, HR5.out.bl⟩

end Go.Proofs.YtnhjidbjibehpaaGreatDoor.L4

/- Layer 4, walked: check. -/
namespace Go.Proofs.YtnhjidbjibehpaaGreatDoor.L4
open Go.Shelf Go.RowKit Go.Proofs.YtnhjidbjibehpaaGreatDoorW.PrintWords Go.Proofs.YtnhjidbjibehpaaGreatDoorW.PrintLast Go.Proofs.YtnhjidbjibehpaaGreatDoorW.PrintMore Yd L3
set_option linter.unusedVariables false
set_option linter.unusedSimpArgs false
attribute [local go_sem ↓] Go.wp_at_zero Go.wp_at_succ

def flag (b : Bool) (s1 t1 s2 t2 : ByteArray) (k : Nat) : Bool := b || (decide (0 < k) && !rvalid s1.data.toList t1.data.toList) || (decide (1 < k) && !rvalid s2.data.toList t2.data.toList)
theorem flag_0 (b : Bool) (s1 t1 s2 t2 : ByteArray) : flag b s1 t1 s2 t2 0 = b := by simp [flag]
theorem flag_1 (b : Bool) (s1 t1 s2 t2 : ByteArray) : flag b s1 t1 s2 t2 1 = (b || !rvalid s1.data.toList t1.data.toList) := by simp [flag]
theorem flag_2 (b : Bool) (s1 t1 s2 t2 : ByteArray) : flag b s1 t1 s2 t2 2 = (b || !rvalid s1.data.toList t1.data.toList || !rvalid s2.data.toList t2.data.toList) := by simp [flag]
/-- the state of check -/
structure CS (W0 W : World) (B Bl : Nat) (b : Bool) (s1 t1 s2 t2 : ByteArray) : Prop where
  gb : W0.grownBy W (some B)
  wk : Wk W B b
  lb : W.heap[Bl]? = some (.cells #[.string s1, .string t1, .string s2, .string t2] 23)

theorem CS.next {W0 W W' : World} {B Bl : Nat} {b : Bool} {s1 t1 s2 t2 : ByteArray} (h : CS W0 W B Bl b s1 t1 s2 t2) (hne : B ≠ Bl) (hlt : B < W0.heap.size) (hb : Below W.heap.size W W') : CS W0 W' B Bl b s1 t1 s2 t2 :=
  ⟨grown_trans h.gb (grown_of_below hb _), (hb.block _ (blk_lt h.wk)).trans h.wk, (hb.block _ (blk_lt h.lb)).trans h.lb⟩
theorem CS.set {W0 W : World} {B Bl : Nat} {b b' c : Bool} {s1 t1 s2 t2 : ByteArray} (h : CS W0 W B Bl b s1 t1 s2 t2) (hne : B ≠ Bl) (e : c = b') : CS W0 (W.setCell ⟨B, 0, none⟩ (.bool b')) B Bl c s1 t1 s2 t2 := by
  subst e
  exact ⟨grown_trans h.gb (grown_setB (Below.refl _ W) B _), blk_set h.wk 0 _, (Below.heap_setCell _ ⟨B, 0, none⟩ _ Bl (fun e => hne e.symm)).trans h.lb⟩

set_option maxRecDepth 100000 in
set_option maxHeartbeats 4000000 in
/-- check -/
theorem check2_calls (w W : World) (B Bl : Nat) (b : Bool) (s1 t1 s2 t2 : ByteArray) (hw : Wk W B b) (hl : W.heap[Bl]? = some (.cells #[.string s1, .string t1, .string s2, .string t2] 23)) (hT : Tab w) (hb : Below w.heap.size w W) (hB : w.heap.size ≤ B) (hne : B ≠ Bl) :
    Calls Tryz.prog 59 #[.pointer (some ⟨B, 0, none⟩), .slice (some ⟨Bl, 0, none⟩) 2 2] W fun e W' => e = .returned (.tuple #[]) ∧ Wk W' B (b || !rvalid s1.data.toList t1.data.toList || !rvalid s2.data.toList t2.data.toList) ∧ W.grownBy W' (some B) := by
  have HTB : Aside0 (∀ W' : World, W.grownBy W' (some B) → Tab W') := ⟨fun W' hg => Tab.grown hT hb hB hg⟩
  have HNE := Aside0.mk hne
  have HLT := Aside0.mk (blk_lt hw)
  clear hT hb hB hne
  go_enter Tryz.func59, Tryz.ntmps59
  go_wp2_with fail
  go_loopg [8] 2 (fun kq v8 wr => ∃ k : Nat, v8 = .int .i64 k ∧ k + kq = 2 ∧ Aside0 (CS W wr B Bl (flag b s1 t1 s2 t2 k) s1 t1 s2 t2))
  case atStart => exact ⟨0, rfl, rfl, ⟨⟨⟨rfl, rfl, rfl, Nat.le_refl _, fun _ _ _ => rfl⟩, by rw [flag_0]; exact hw, hl⟩⟩⟩
  case round =>
    obtain ⟨k, rfl, hk, HC⟩ := hrel
    have hk' : k = 0 ∨ k = 1 ∨ k = 2 := by omega
    rcases hk' with rfl | rfl | rfl
    · obtain rfl : gk = 2 := by omega
      have hc7 := HC.out.next HNE.out HLT.out (below_alloc (Below.refl _ wr) (.cells #[.string s1, .string t1] 23))
      have HC7 := Aside0.mk hc7
      have hc := hc7.wk.cell
      have hf := hc7.wk.frozen
      have l0 := blk_cell HC.out.lb 0
      have l1 := blk_cell HC.out.lb 1
      have l2 := blk_cell HC.out.lb 2
      have l3 := blk_cell HC.out.lb 3
      have HFL := Aside0.mk (flag_1 b s1 t1 s2 t2)
      have HFK := Aside0.mk (flag_0 b s1 t1 s2 t2)
      obtain ⟨bb, hbb⟩ : ∃ bb, flag b s1 t1 s2 t2 0 = bb := ⟨_, rfl⟩
      rw [hbb] at hc
      have HBB := Aside0.mk hbb
      have HTW := Aside0.mk (HTB.out _ hc7.gb)
      clear hbb hc7
      cases bb
      · go_wp2_with fail
        refine (rvalid_calls s1 t1 _ HTW.out).mono ?_
        rintro e W4 ⟨rfl, hb4⟩
        have hc8 := HC7.out.next HNE.out HLT.out hb4
        have HC8 := Aside0.mk hc8
        have hc := hc8.wk.cell
        rw [HBB.out] at hc
        have hf := hc8.wk.frozen
        obtain ⟨vv, hvv⟩ : ∃ vv, rvalid s1.data.toList t1.data.toList = vv := ⟨_, rfl⟩
        rw [hvv]
        have HVV := Aside0.mk hvv
        clear hb4 hc8 hvv
        go_wp2_with fail
        all_goals
          go_roundg 1
          case measure => omega
          case rel => exact ⟨1, rfl, rfl, ⟨HC8.out.set HNE.out (by rw [HFL.out, ← HVV.out]; have h := HFK.out; rw [HBB.out] at h; rw [← h]; rfl)⟩⟩
      · go_wp2_with fail
        all_goals
          go_roundg 1
          case measure => omega
          case rel => exact ⟨1, rfl, rfl, ⟨HC7.out.set HNE.out (by rw [HFL.out]; have h := HFK.out; rw [HBB.out] at h; rw [← h]; rfl)⟩⟩
    · obtain rfl : gk = 1 := by omega
      have hc7 := HC.out.next HNE.out HLT.out (below_alloc (Below.refl _ wr) (.cells #[.string s2, .string t2] 23))
      have HC7 := Aside0.mk hc7
      have hc := hc7.wk.cell
      have hf := hc7.wk.frozen
      have l0 := blk_cell HC.out.lb 0
      have l1 := blk_cell HC.out.lb 1
      have l2 := blk_cell HC.out.lb 2
      have l3 := blk_cell HC.out.lb 3
      have HFL := Aside0.mk (flag_2 b s1 t1 s2 t2)
      have HFK := Aside0.mk (flag_1 b s1 t1 s2 t2)
      obtain ⟨bb, hbb⟩ : ∃ bb, flag b s1 t1 s2 t2 1 = bb := ⟨_, rfl⟩
      rw [hbb] at hc
      have HBB := Aside0.mk hbb
      have HTW := Aside0.mk (HTB.out _ hc7.gb)
      clear hbb hc7
      cases bb
      · go_wp2_with fail
        refine (rvalid_calls s2 t2 _ HTW.out).mono ?_
        rintro e W4 ⟨rfl, hb4⟩
        have hc8 := HC7.out.next HNE.out HLT.out hb4
        have HC8 := Aside0.mk hc8
        have hc := hc8.wk.cell
        rw [HBB.out] at hc
        have hf := hc8.wk.frozen
        obtain ⟨vv, hvv⟩ : ∃ vv, rvalid s2.data.toList t2.data.toList = vv := ⟨_, rfl⟩
        rw [hvv]
        have HVV := Aside0.mk hvv
        clear hb4 hc8 hvv
        go_wp2_with fail
        all_goals
          go_roundg 0
          case measure => omega
          case rel => exact ⟨2, rfl, rfl, ⟨HC8.out.set HNE.out (by rw [HFL.out, ← HVV.out]; have h := HFK.out; rw [HBB.out] at h; rw [← h]; rfl)⟩⟩
      · go_wp2_with fail
        all_goals
          go_roundg 0
          case measure => omega
          case rel => exact ⟨2, rfl, rfl, ⟨HC7.out.set HNE.out (by rw [HFL.out]; have h := HFK.out; rw [HBB.out] at h; rw [← h]; rfl)⟩⟩
    · obtain rfl : gk = 0 := by omega
      have HFL := Aside0.mk (flag_2 b s1 t1 s2 t2)
      go_wp2_with fail
      go_end0
      exact ⟨rfl, by rw [← HFL.out]; exact HC.out.wk, HC.out.gb⟩

end Go.Proofs.YtnhjidbjibehpaaGreatDoor.L4

/- Layer 4, walked: Mul (UNDER WAY). -/
namespace Go.Proofs.YtnhjidbjibehpaaGreatDoor.L4
open Go.Shelf Go.RowKit Go.Proofs.YtnhjidbjibehpaaGreatDoorW.PrintWords Go.Proofs.YtnhjidbjibehpaaGreatDoorW.PrintLast Go.Proofs.YtnhjidbjibehpaaGreatDoorW.PrintMore Yd L3
set_option linter.unusedVariables false
set_option linter.unusedSimpArgs false
attribute [local go_sem ↓] Go.wp_at_zero Go.wp_at_succ

/-- two fractions' boxes, the result's box, the calculation's -/
structure R4 (w W : World) (b : Bool) (s1 t1 s2 t2 r1 r2 : ByteArray) : Prop where
  bl : Below w.heap.size w W
  pa : W.heap[w.heap.size]? = some (.cells #[.string s1, .string t1] 23)
  pb : W.heap[w.heap.size + 1]? = some (.cells #[.string s2, .string t2] 23)
  pr : W.heap[w.heap.size + 1 + 1]? = some (.cells #[.string r1, .string r2] 23)
  wk : Wk W (w.heap.size + 1 + 1 + 1) b
theorem R4.grown {w W W' : World} {b b' : Bool} {s1 t1 s2 t2 r1 r2 : ByteArray} (h : R4 w W b s1 t1 s2 t2 r1 r2) (hw : Wk W' (w.heap.size + 1 + 1 + 1) b') (hg : W.grownBy W' (some (w.heap.size + 1 + 1 + 1))) : R4 w W' b' s1 t1 s2 t2 r1 r2 :=
  ⟨h.bl.grown hg h.bl.size (fun k e => by injection e with e; omega), (hg.block _ (blk_lt h.pa) (by intro e; injection e with e; omega)).trans h.pa,
    (hg.block _ (blk_lt h.pb) (by intro e; injection e with e; omega)).trans h.pb, (hg.block _ (blk_lt h.pr) (by intro e; injection e with e; omega)).trans h.pr, hw⟩
theorem R4.next {w W W' : World} {b : Bool} {s1 t1 s2 t2 r1 r2 : ByteArray} (h : R4 w W b s1 t1 s2 t2 r1 r2) (hb : Below W.heap.size W W') : R4 w W' b s1 t1 s2 t2 r1 r2 :=
  h.grown ((hb.block _ (blk_lt h.wk)).trans h.wk) (grown_of_below hb _)
theorem R4.start (w : World) (s1 t1 s2 t2 : ByteArray) : R4 w ((((w.alloc (.cells #[.string s1, .string t1] 23)).alloc (.cells #[.string s2, .string t2] 23)).alloc (.cells #[.string ⟨#[]⟩, .string ⟨#[]⟩] 23)).alloc (.cells #[.bool false] 78)) false s1 t1 s2 t2 ⟨#[]⟩ ⟨#[]⟩ := by
  have h1 := alloc_here w (.cells #[.string s1, .string t1] 23)
  generalize hW1 : w.alloc (.cells #[.string s1, .string t1] 23) = W1 at *
  have z1 : W1.heap.size = w.heap.size + 1 := by rw [← hW1, World.size_alloc]
  have b1 : Below w.heap.size w W1 := by rw [← hW1]; exact below_alloc (Below.refl _ w) _
  have h2 := alloc_here W1 (.cells #[.string s2, .string t2] 23)
  generalize hW2 : W1.alloc (.cells #[.string s2, .string t2] 23) = W2 at *
  have z2 : W2.heap.size = w.heap.size + 1 + 1 := by rw [← hW2, World.size_alloc, z1]
  have b2 : Below W1.heap.size W1 W2 := by rw [← hW2]; exact below_alloc (Below.refl _ W1) _
  have h3 := alloc_here W2 (.cells #[.string ⟨#[]⟩, .string ⟨#[]⟩] 23)
  generalize hW3 : W2.alloc (.cells #[.string ⟨#[]⟩, .string ⟨#[]⟩] 23) = W3 at *
  have z3 : W3.heap.size = w.heap.size + 1 + 1 + 1 := by rw [← hW3, World.size_alloc, z2]
  have b3 : Below W2.heap.size W2 W3 := by rw [← hW3]; exact below_alloc (Below.refl _ W2) _
  have b4 : Below W3.heap.size W3 (W3.alloc (.cells #[.bool false] 78)) := below_alloc (Below.refl _ W3) _
  refine ⟨(b1.trans (b2.mono (by omega))).trans ((b3.trans (b4.mono (by omega))).mono (by omega)), ?_, ?_, ?_, ?_⟩
  · exact (b4.block _ (by omega)).trans ((b3.block _ (by omega)).trans ((b2.block _ (by omega)).trans h1))
  · rw [show w.heap.size + 1 = W1.heap.size by omega]
    exact (b4.block _ (by omega)).trans ((b3.block _ (by omega)).trans h2)
  · rw [show w.heap.size + 1 + 1 = W2.heap.size by omega]
    exact (b4.block _ (by omega)).trans h3
  · rw [show w.heap.size + 1 + 1 + 1 = W3.heap.size by omega]
    exact alloc_here W3 _

theorem R4_size (w : World) (a b c d : Obj) : ((((w.alloc a).alloc b).alloc c).alloc d).heap.size = w.heap.size + 1 + 1 + 1 + 1 := by simp only [World.size_alloc]

/-- reduced, whatever has come before -/
def finV (b : Bool) (n m : ByteArray) : Value := if b then badR else mkT n.data.toList m.data.toList
theorem mkT_rat (s t : List UInt8) : ∃ a c e, mkT s t = ratV a c e := by
  unfold mkT
  split
  · exact mkV_rat _ _
  · exact ⟨_, _, _, rfl⟩
theorem finV_rat (b : Bool) (n m : ByteArray) : ∃ a c e, finV b n m = ratV a c e := by
  unfold finV
  split
  · exact ⟨_, _, _, rfl⟩
  · exact mkT_rat _ _
theorem red_any (w W : World) (B : Nat) (b : Bool) (n m : ByteArray) (hw : Wk W B b) (h : b = false → ∃ x y : Int, n = tx x ∧ m = tx y ∧ x.natAbs < DL ∧ y.natAbs < DL) (hT : Tab w) (hb : Below w.heap.size w W) (hB : w.heap.size ≤ B) :
    Calls Tryz.prog 57 #[.pointer (some ⟨B, 0, none⟩), .string n, .string m] W fun e W' => e = .returned (finV b n m) ∧ W.grownBy W' (some B) := by
  cases b
  · obtain ⟨x, y, rfl, rfl, hx, hy⟩ := h rfl
    refine (red_calls w W B x y hw hx hy hT hb hB).mono ?_
    rintro e W' ⟨rfl, hg⟩
    exact ⟨by unfold finV; rw [mkT_tx hx hy]; rfl, hg⟩
  · refine (red_bad W B n m hw).mono ?_
    rintro e W' ⟨rfl, hg⟩
    exact ⟨rfl, grown_of_below hg _⟩

theorem opR_zero (f : Int → Int → Int) (s t : ByteArray) (h : (opR f s t).2 = 0) : ∃ z, (opR f s t).1 = tx z ∧ z.natAbs < DL := by
  have key : ∀ z, (teI z).2 = 0 → ∃ z', (teI z).1 = tx z' ∧ z'.natAbs < DL := by
    intro z hz
    unfold teI at hz ⊢
    split at hz
    · rename_i h; rw [if_pos h]; exact ⟨z, rfl, h⟩
    · cases hz
  unfold opR at h ⊢
  split at h
  · exact key _ h
  · cases h
theorem doB_zero {b : Bool} {f : Int → Int → Int} {s t : ByteArray} (h : doB b (opR f s t) = false) : b = false ∧ ∃ z, doR b (opR f s t) = tx z ∧ z.natAbs < DL := by
  unfold doB at h
  rw [Bool.or_eq_false_iff] at h
  obtain ⟨rfl, h2⟩ := h
  refine ⟨rfl, ?_⟩
  rw [doR_false]
  exact opR_zero f s t (by simpa using h2)

def rmulV (s1 t1 s2 t2 : ByteArray) : Value :=
  finV (doB (doB (false || !rvalid s1.data.toList t1.data.toList || !rvalid s2.data.toList t2.data.toList) (opR (· * ·) s1 s2)) (opR (· * ·) t1 t2))
    (doR (false || !rvalid s1.data.toList t1.data.toList || !rvalid s2.data.toList t2.data.toList) (opR (· * ·) s1 s2)) (doR (doB (false || !rvalid s1.data.toList t1.data.toList || !rvalid s2.data.toList t2.data.toList) (opR (· * ·) s1 s2)) (opR (· * ·) t1 t2))

set_option maxRecDepth 100000 in
set_option maxHeartbeats 4000000 in
/-- Mul -/
theorem rmul_calls (s1 t1 s2 t2 : ByteArray) (w : World) (hT : Tab w) :
    Calls Tryz.prog 25 #[.agg #[.string s1, .string t1], .agg #[.string s2, .string t2]] w fun e w' => e = .returned (rmulV s1 t1 s2 t2) ∧ Below w.heap.size w w' := by
  have HT := Aside0.mk hT
  clear hT
  go_enter Tryz.func25, Tryz.ntmps25
  go_wp2_with fail
  have HR0 := Aside0.mk (R4.start w s1 t1 s2 t2)
  have HZ0 := Aside0.mk (R4_size w (.cells #[.string s1, .string t1] 23) (.cells #[.string s2, .string t2] 23) (.cells #[.string ⟨#[]⟩, .string ⟨#[]⟩] 23) (.cells #[.bool false] 78))
  generalize ((((w.alloc (.cells #[.string s1, .string t1] 23)).alloc (.cells #[.string s2, .string t2] 23)).alloc (.cells #[.string ⟨#[]⟩, .string ⟨#[]⟩] 23)).alloc (.cells #[.bool false] 78)) = W0 at *
  have hl := alloc_here W0 (.cells #[.string s1, .string t1, .string s2, .string t2] 23)
  rw [HZ0.out] at hl
  have HR1 := Aside0.mk (HR0.out.next (below_alloc (Below.refl _ W0) (.cells #[.string s1, .string t1, .string s2, .string t2] 23)))
  refine (check2_calls w _ _ _ false s1 t1 s2 t2 HR1.out.wk hl HT.out HR1.out.bl (by omega) (by omega)).mono ?_
  rintro e W2 ⟨rfl, hw2, hg2⟩
  have hr2 := HR1.out.grown hw2 hg2
  have HR2 := Aside0.mk hr2
  obtain ⟨b2, hb2⟩ : ∃ b2, (false || !rvalid s1.data.toList t1.data.toList || !rvalid s2.data.toList t2.data.toList) = b2 := ⟨_, rfl⟩
  rw [hb2] at HR2
  have HB2 := Aside0.mk hb2
  obtain ⟨c0, c1, f0, f1⟩ := pair_facts hr2.pa
  obtain ⟨d0, d1, g0, g1⟩ := pair_facts hr2.pb
  clear hl hw2 hg2 hr2 hb2 HR0 HZ0 HR1
  go_wp2_with fail
  refine (wmul_calls W2 _ b2 s1 s2 HR2.out.wk (tabB HT.out HR2.out.bl)).mono ?_
  rintro e W3 ⟨rfl, hw3, hg3⟩
  have hr3 := HR2.out.grown hw3 hg3
  have HR3 := Aside0.mk hr3
  obtain ⟨c0, c1, f0, f1⟩ := pair_facts hr3.pa
  obtain ⟨d0, d1, g0, g1⟩ := pair_facts hr3.pb
  obtain ⟨n, hn⟩ : ∃ n, doR b2 (opR (· * ·) s1 s2) = n := ⟨_, rfl⟩
  rw [hn]
  have HN := Aside0.mk hn
  clear hw3 hg3 hr3 hn
  go_wp2_with fail
  refine (wmul_calls W3 _ _ t1 t2 HR3.out.wk (tabB HT.out HR3.out.bl)).mono ?_
  rintro e W4 ⟨rfl, hw4, hg4⟩
  have hr4 := HR3.out.grown hw4 hg4
  have HR4 := Aside0.mk hr4
  obtain ⟨m, hm⟩ : ∃ m, doR (doB b2 (opR (· * ·) s1 s2)) (opR (· * ·) t1 t2) = m := ⟨_, rfl⟩
  rw [hm]
  have HM := Aside0.mk hm
  clear hw4 hg4 hr4 hm
  go_wp2_with fail
  refine (red_any w W4 _ _ n m HR4.out.wk (by
    intro h
    obtain ⟨h1, y, e2, hy⟩ := doB_zero h
    obtain ⟨h3, x, e1, hx⟩ := doB_zero h1
    exact ⟨x, y, by rw [← HN.out, e1], by rw [← HM.out, e2], hx, hy⟩) HT.out HR4.out.bl (by omega)).mono ?_
  rintro e W5 ⟨rfl, hg5⟩
  have hbl5 := HR4.out.bl.grown hg5 HR4.out.bl.size (fun k e => by injection e with e; omega)
  have hpr5 := (hg5.block _ (blk_lt HR4.out.pr) (by intro e; injection e with e; omega)).trans HR4.out.pr
  have HBL := Aside0.mk hbl5
  have HPR := Aside0.mk hpr5
  obtain ⟨k0, k1, m0, m1⟩ := pair_facts hpr5
  have HE : Aside0 (rmulV s1 t1 s2 t2 = finV (doB (doB b2 (opR (· * ·) s1 s2)) (opR (· * ·) t1 t2)) n m) := ⟨by unfold rmulV; rw [HB2.out, HN.out, HM.out]⟩
  obtain ⟨r1, r2, er, hr⟩ := finV_rat (doB (doB b2 (opR (· * ·) s1 s2)) (opR (· * ·) t1 t2)) n m
  rw [hr] at HE ⊢
  unfold ratV
  clear hg5 hbl5 hpr5 hr
  go_wp2_with fail
  refine bodyPost_ret (results_list (rs := [.cell _ _, .tmp _]) rfl (by simp) (.cell (w.heap.size + 1 + 1) 23 _ (0, 0) _ rfl (blk_set (blk_set HPR.out 0 (.string r1)) 1 (.string r2)) Tryz.underlying23 rfl (by kernel_rfl) (.tmp .nil))) rfl ?_
  exact ⟨by rw [HE.out]; rfl, (HBL.out.setCell (p := ⟨w.heap.size + 1 + 1, 0, none⟩) (by show _ ≤ w.heap.size + 1 + 1; omega) _).setCell (p := ⟨w.heap.size + 1 + 1, 1, none⟩) (by show _ ≤ w.heap.size + 1 + 1; omega) _⟩

end Go.Proofs.YtnhjidbjibehpaaGreatDoor.L4

/- Layer 4, walked: Div. -/
namespace Go.Proofs.YtnhjidbjibehpaaGreatDoor.L4
open Go.Shelf Go.RowKit Go.Proofs.YtnhjidbjibehpaaGreatDoorW.PrintWords Go.Proofs.YtnhjidbjibehpaaGreatDoorW.PrintLast Go.Proofs.YtnhjidbjibehpaaGreatDoorW.PrintMore Yd L3
set_option linter.unusedVariables false
set_option linter.unusedSimpArgs false
attribute [local go_sem ↓] Go.wp_at_zero Go.wp_at_succ

def rdivV (s1 t1 s2 t2 : ByteArray) : Value :=
  finV (doB (doB (false || !rvalid s1.data.toList t1.data.toList || !rvalid s2.data.toList t2.data.toList) (opR (· * ·) s1 t2)) (opR (· * ·) t1 s2))
    (doR (false || !rvalid s1.data.toList t1.data.toList || !rvalid s2.data.toList t2.data.toList) (opR (· * ·) s1 t2)) (doR (doB (false || !rvalid s1.data.toList t1.data.toList || !rvalid s2.data.toList t2.data.toList) (opR (· * ·) s1 t2)) (opR (· * ·) t1 s2))

set_option maxRecDepth 100000 in
set_option maxHeartbeats 4000000 in
/-- Div -/
theorem rdiv_calls (s1 t1 s2 t2 : ByteArray) (w : World) (hT : Tab w) :
    Calls Tryz.prog 26 #[.agg #[.string s1, .string t1], .agg #[.string s2, .string t2]] w fun e w' => e = .returned (rdivV s1 t1 s2 t2) ∧ Below w.heap.size w w' := by
  have HT := Aside0.mk hT
  clear hT
  go_enter Tryz.func26, Tryz.ntmps26
  go_wp2_with fail
  have HR0 := Aside0.mk (R4.start w s1 t1 s2 t2)
  have HZ0 := Aside0.mk (R4_size w (.cells #[.string s1, .string t1] 23) (.cells #[.string s2, .string t2] 23) (.cells #[.string ⟨#[]⟩, .string ⟨#[]⟩] 23) (.cells #[.bool false] 78))
  generalize ((((w.alloc (.cells #[.string s1, .string t1] 23)).alloc (.cells #[.string s2, .string t2] 23)).alloc (.cells #[.string ⟨#[]⟩, .string ⟨#[]⟩] 23)).alloc (.cells #[.bool false] 78)) = W0 at *
  have hl := alloc_here W0 (.cells #[.string s1, .string t1, .string s2, .string t2] 23)
  rw [HZ0.out] at hl
  have HR1 := Aside0.mk (HR0.out.next (below_alloc (Below.refl _ W0) (.cells #[.string s1, .string t1, .string s2, .string t2] 23)))
  refine (check2_calls w _ _ _ false s1 t1 s2 t2 HR1.out.wk hl HT.out HR1.out.bl (by omega) (by omega)).mono ?_
  rintro e W2 ⟨rfl, hw2, hg2⟩
  have hr2 := HR1.out.grown hw2 hg2
  have HR2 := Aside0.mk hr2
  obtain ⟨b2, hb2⟩ : ∃ b2, (false || !rvalid s1.data.toList t1.data.toList || !rvalid s2.data.toList t2.data.toList) = b2 := ⟨_, rfl⟩
  rw [hb2] at HR2
  have HB2 := Aside0.mk hb2
  obtain ⟨c0, c1, f0, f1⟩ := pair_facts hr2.pa
  obtain ⟨d0, d1, g0, g1⟩ := pair_facts hr2.pb
  clear hl hw2 hg2 hr2 hb2 HR0 HZ0 HR1
  go_wp2_with fail
  refine (wmul_calls W2 _ b2 s1 t2 HR2.out.wk (tabB HT.out HR2.out.bl)).mono ?_
  rintro e W3 ⟨rfl, hw3, hg3⟩
  have hr3 := HR2.out.grown hw3 hg3
  have HR3 := Aside0.mk hr3
  obtain ⟨c0, c1, f0, f1⟩ := pair_facts hr3.pa
  obtain ⟨d0, d1, g0, g1⟩ := pair_facts hr3.pb
  obtain ⟨n, hn⟩ : ∃ n, doR b2 (opR (· * ·) s1 t2) = n := ⟨_, rfl⟩
  rw [hn]
  have HN := Aside0.mk hn
  clear hw3 hg3 hr3 hn
  go_wp2_with fail
  refine (wmul_calls W3 _ _ t1 s2 HR3.out.wk (tabB HT.out HR3.out.bl)).mono ?_
  rintro e W4 ⟨rfl, hw4, hg4⟩
  have hr4 := HR3.out.grown hw4 hg4
  have HR4 := Aside0.mk hr4
  obtain ⟨m, hm⟩ : ∃ m, doR (doB b2 (opR (· * ·) s1 t2)) (opR (· * ·) t1 s2) = m := ⟨_, rfl⟩
  rw [hm]
  have HM := Aside0.mk hm
  clear hw4 hg4 hr4 hm
  go_wp2_with fail
  refine (red_any w W4 _ _ n m HR4.out.wk (by
    intro h
    obtain ⟨h1, y, e2, hy⟩ := doB_zero h
    obtain ⟨h3, x, e1, hx⟩ := doB_zero h1
    exact ⟨x, y, by rw [← HN.out, e1], by rw [← HM.out, e2], hx, hy⟩) HT.out HR4.out.bl (by omega)).mono ?_
  rintro e W5 ⟨rfl, hg5⟩
  have hbl5 := HR4.out.bl.grown hg5 HR4.out.bl.size (fun k e => by injection e with e; omega)
  have hpr5 := (hg5.block _ (blk_lt HR4.out.pr) (by intro e; injection e with e; omega)).trans HR4.out.pr
  have HBL := Aside0.mk hbl5
  have HPR := Aside0.mk hpr5
  obtain ⟨k0, k1, m0, m1⟩ := pair_facts hpr5
  have HE : Aside0 (rdivV s1 t1 s2 t2 = finV (doB (doB b2 (opR (· * ·) s1 t2)) (opR (· * ·) t1 s2)) n m) := ⟨by unfold rdivV; rw [HB2.out, HN.out, HM.out]⟩
  obtain ⟨r1, r2, er, hr⟩ := finV_rat (doB (doB b2 (opR (· * ·) s1 t2)) (opR (· * ·) t1 s2)) n m
  rw [hr] at HE ⊢
  unfold ratV
  clear hg5 hbl5 hpr5 hr
  go_wp2_with fail
  refine bodyPost_ret (results_list (rs := [.cell _ _, .tmp _]) rfl (by simp) (.cell (w.heap.size + 1 + 1) 23 _ (0, 0) _ rfl (blk_set (blk_set HPR.out 0 (.string r1)) 1 (.string r2)) Tryz.underlying23 rfl (by kernel_rfl) (.tmp .nil))) rfl ?_
  exact ⟨by rw [HE.out]; rfl, (HBL.out.setCell (p := ⟨w.heap.size + 1 + 1, 0, none⟩) (by show _ ≤ w.heap.size + 1 + 1; omega) _).setCell (p := ⟨w.heap.size + 1 + 1, 1, none⟩) (by show _ ≤ w.heap.size + 1 + 1; omega) _⟩

end Go.Proofs.YtnhjidbjibehpaaGreatDoor.L4

/- Layer 4, walked: sum, Add, Sub. -/
namespace Go.Proofs.YtnhjidbjibehpaaGreatDoor.L4
open Go.Shelf Go.RowKit Go.Proofs.YtnhjidbjibehpaaGreatDoorW.PrintWords Go.Proofs.YtnhjidbjibehpaaGreatDoorW.PrintLast Go.Proofs.YtnhjidbjibehpaaGreatDoorW.PrintMore Yd L3
set_option linter.unusedVariables false
set_option linter.unusedSimpArgs false
attribute [local go_sem ↓] Go.wp_at_zero Go.wp_at_succ

/-- what sum returns: the two products are made in either order -/
def rsumV (f : Int → Int → Int) (s1 t1 s2 t2 : ByteArray) : Value :=
  let b4 := (false || !rvalid s1.data.toList t1.data.toList || !rvalid s2.data.toList t2.data.toList) || (opR (· * ·) s1 t2).2 != 0 || (opR (· * ·) s2 t1).2 != 0
  let n := opR f (opR (· * ·) s1 t2).1 (opR (· * ·) s2 t1).1
  let m := opR (· * ·) t1 t2
  finV (doB (doB b4 n) m) (doR b4 n) (doR (doB b4 n) m)
theorem doB_eq (b : Bool) (r : TE) : doB b r = (b || r.2 != 0) := rfl
/-- the two products, in either order -/
structure Two (b b4 : Bool) (m1 m2 : TE) (x1 x2 : ByteArray) : Prop where
  fl : (b || m1.2 != 0 || m2.2 != 0) = b4
  xs : b4 = false → x1 = m1.1 ∧ x2 = m2.1
theorem Two.one {b b3 b4 : Bool} {m1 m2 : TE} {x1 x2 : ByteArray} (h1 : doR b m1 = x1) (h2 : doB b m1 = b3) (h3 : doR b3 m2 = x2) (h4 : doB b3 m2 = b4) : Two b b4 m1 m2 x1 x2 := by
  subst h1 h2 h3 h4
  refine ⟨rfl, fun h => ?_⟩
  simp only [doB_eq, Bool.or_eq_false_iff] at h
  obtain ⟨⟨rfl, h1⟩, h2⟩ := h
  exact ⟨rfl, by rw [doB_eq, h1]; rfl⟩
theorem Two.swap {b b3 b4 : Bool} {m1 m2 : TE} {x1 x2 : ByteArray} (h1 : doR b m2 = x2) (h2 : doB b m2 = b3) (h3 : doR b3 m1 = x1) (h4 : doB b3 m1 = b4) : Two b b4 m1 m2 x1 x2 := by
  have h := Two.one h1 h2 h3 h4
  refine ⟨?_, fun e => ⟨(h.xs e).2, (h.xs e).1⟩⟩
  rw [← h.fl, Bool.or_assoc, Bool.or_assoc, Bool.or_comm (m1.2 != 0)]
theorem sum_fin {b b4 : Bool} {f : Int → Int → Int} {m1 m2 : TE} {x1 x2 t1 t2 : ByteArray} (h : Two b b4 m1 m2 x1 x2) :
    finV (doB (doB b4 (opR f x1 x2)) (opR (· * ·) t1 t2)) (doR b4 (opR f x1 x2)) (doR (doB b4 (opR f x1 x2)) (opR (· * ·) t1 t2)) =
      finV (doB (doB (b || m1.2 != 0 || m2.2 != 0) (opR f m1.1 m2.1)) (opR (· * ·) t1 t2)) (doR (b || m1.2 != 0 || m2.2 != 0) (opR f m1.1 m2.1)) (doR (doB (b || m1.2 != 0 || m2.2 != 0) (opR f m1.1 m2.1)) (opR (· * ·) t1 t2)) := by
  rw [h.fl]
  cases b4
  · obtain ⟨rfl, rfl⟩ := h.xs rfl; rfl
  · rfl

set_option maxRecDepth 100000 in
set_option maxHeartbeats 4000000 in
/-- sum -/
theorem rsum_calls (g : Nat) (f : Int → Int → Int) (hF : OpIs g (opR f)) (s1 t1 s2 t2 : ByteArray) (w : World) (hT : Tab w) :
    Calls Tryz.prog 61 #[.func (.func g) #[] #[], .agg #[.string s1, .string t1], .agg #[.string s2, .string t2]] w fun e w' => e = .returned (rsumV f s1 t1 s2 t2) ∧ Below w.heap.size w w' := by
  have HT := Aside0.mk hT
  have HF := Aside0.mk hF
  clear hT hF
  go_enter Tryz.func61, Tryz.ntmps61
  go_wp2_with fail
  have HR0 := Aside0.mk (R4.start w s1 t1 s2 t2)
  have HZ0 := Aside0.mk (R4_size w (.cells #[.string s1, .string t1] 23) (.cells #[.string s2, .string t2] 23) (.cells #[.string ⟨#[]⟩, .string ⟨#[]⟩] 23) (.cells #[.bool false] 78))
  generalize ((((w.alloc (.cells #[.string s1, .string t1] 23)).alloc (.cells #[.string s2, .string t2] 23)).alloc (.cells #[.string ⟨#[]⟩, .string ⟨#[]⟩] 23)).alloc (.cells #[.bool false] 78)) = W0 at *
  have hl := alloc_here W0 (.cells #[.string s1, .string t1, .string s2, .string t2] 23)
  rw [HZ0.out] at hl
  have HR1 := Aside0.mk (HR0.out.next (below_alloc (Below.refl _ W0) (.cells #[.string s1, .string t1, .string s2, .string t2] 23)))
  refine (check2_calls w _ _ _ false s1 t1 s2 t2 HR1.out.wk hl HT.out HR1.out.bl (by omega) (by omega)).mono ?_
  rintro e W2 ⟨rfl, hw2, hg2⟩
  have hr2 := HR1.out.grown hw2 hg2
  have HR2 := Aside0.mk hr2
  obtain ⟨b2, hb2⟩ : ∃ b2, (false || !rvalid s1.data.toList t1.data.toList || !rvalid s2.data.toList t2.data.toList) = b2 := ⟨_, rfl⟩
  rw [hb2] at HR2
  have HB2 := Aside0.mk hb2
  obtain ⟨c0, c1, f0, f1⟩ := pair_facts hr2.pa
  obtain ⟨d0, d1, g0, g1⟩ := pair_facts hr2.pb
  clear hl hw2 hg2 hr2 hb2 HR0 HZ0 HR1
  go_wp2_with fail
  have hrd := HR2.out.next (below_drew (Below.refl _ W2))
  clear HR2
  have HR2 := Aside0.mk hrd
  clear hrd
  go_region_held3 (fun w' => w'.cell? ⟨w.heap.size, 0, none⟩ = some (.string s1) ∧ w'.cell? ⟨w.heap.size, 1, none⟩ = some (.string t1) ∧ w'.cell? ⟨w.heap.size + 1, 0, none⟩ = some (.string s2) ∧ w'.cell? ⟨w.heap.size + 1, 1, none⟩ = some (.string t2)) (first | exact ⟨c0, c1, d0, d1⟩ | go_keep) (first
    | (go_at_call 60; (refine (wmul_calls _ _ b2 s1 t2 HR2.out.wk (tabB HT.out HR2.out.bl)).mono ?_); rintro e W3 ⟨rfl, hw3, hg3⟩; have hr3 := HR2.out.grown hw3 hg3; clear HR2; obtain ⟨c0, c1, f0, f1⟩ := pair_facts hr3.pa; obtain ⟨d0, d1, g0, g1⟩ := pair_facts hr3.pb; obtain ⟨x1, hx1⟩ : ∃ x, doR b2 (opR (· * ·) s1 t2) = x := ⟨_, rfl⟩; rw [hx1]; have HX1 := Aside0.mk hx1; obtain ⟨b2, hb3⟩ : ∃ b, doB b2 (opR (· * ·) s1 t2) = b := ⟨_, rfl⟩; rw [hb3] at hr3; have HBa := Aside0.mk hb3; have HR2 := Aside0.mk hr3; clear hw3 hg3 hr3 hx1 hb3)
    | (go_at_call 60; (refine (wmul_calls _ _ b2 s2 t1 HR2.out.wk (tabB HT.out HR2.out.bl)).mono ?_); rintro e W3 ⟨rfl, hw3, hg3⟩; have hr3 := HR2.out.grown hw3 hg3; clear HR2; obtain ⟨c0, c1, f0, f1⟩ := pair_facts hr3.pa; obtain ⟨d0, d1, g0, g1⟩ := pair_facts hr3.pb; obtain ⟨x2, hx1⟩ : ∃ x, doR b2 (opR (· * ·) s2 t1) = x := ⟨_, rfl⟩; rw [hx1]; have HX2 := Aside0.mk hx1; obtain ⟨b2, hb3⟩ : ∃ b, doB b2 (opR (· * ·) s2 t1) = b := ⟨_, rfl⟩; rw [hb3] at hr3; have HBb := Aside0.mk hb3; have HR2 := Aside0.mk hr3; clear hw3 hg3 hr3 hx1 hb3)
    | (go_at_call 84; (refine (do_calls g _ HF.out _ _ b2 x1 x2 HR2.out.wk (tabB HT.out HR2.out.bl)).mono ?_); rintro e W5 ⟨rfl, hw5, hg5⟩; have hr5 := HR2.out.grown hw5 hg5; clear HR2; have HR2 := Aside0.mk hr5; obtain ⟨c0, c1, f0, f1⟩ := pair_facts hr5.pa; obtain ⟨d0, d1, g0, g1⟩ := pair_facts hr5.pb; obtain ⟨n, hn⟩ : ∃ n, doR b2 (opR f x1 x2) = n := ⟨_, rfl⟩; rw [hn]; have HN := Aside0.mk hn; clear hw5 hg5 hr5 hn))
  all_goals
    have HTWO := Aside0.mk (show Two _ b2 (opR (· * ·) s1 t2) (opR (· * ·) s2 t1) x1 x2 from by first | exact Two.one HX1.out HBa.out HX2.out HBb.out | exact Two.swap HX2.out HBb.out HX1.out HBa.out)
    have HR5 := Aside0.mk HR2.out
    clear HR2
    go_wp2_with fail
    refine (wmul_calls W5 _ _ t1 t2 HR5.out.wk (tabB HT.out HR5.out.bl)).mono ?_
    rintro e W6 ⟨rfl, hw6, hg6⟩
    have hr6 := HR5.out.grown hw6 hg6
    have HR6 := Aside0.mk hr6
    obtain ⟨m, hm⟩ : ∃ m, doR (doB b2 (opR f x1 x2)) (opR (· * ·) t1 t2) = m := ⟨_, rfl⟩
    rw [hm]
    have HM := Aside0.mk hm
    clear hw6 hg6 hr6 hm
    go_wp2_with fail
    refine (red_any w W6 _ _ n m HR6.out.wk (by
      intro h
      obtain ⟨h1, y, e2, hy⟩ := doB_zero h
      obtain ⟨h3, x, e1, hx⟩ := doB_zero h1
      exact ⟨x, y, by rw [← HN.out, e1], by rw [← HM.out, e2], hx, hy⟩) HT.out HR6.out.bl (by omega)).mono ?_
    rintro e W7 ⟨rfl, hg7⟩
    have hbl5 := HR6.out.bl.grown hg7 HR6.out.bl.size (fun k e => by injection e with e; omega)
    have hpr5 := (hg7.block _ (blk_lt HR6.out.pr) (by intro e; injection e with e; omega)).trans HR6.out.pr
    have HBL := Aside0.mk hbl5
    have HPR := Aside0.mk hpr5
    obtain ⟨k0, k1, m0, m1⟩ := pair_facts hpr5
    have HE : Aside0 (rsumV f s1 t1 s2 t2 = finV (doB (doB b2 (opR f x1 x2)) (opR (· * ·) t1 t2)) n m) := ⟨by rw [← HN.out, ← HM.out, sum_fin HTWO.out, ← HB2.out]; rfl⟩
    obtain ⟨r1, r2, er, hr⟩ := finV_rat (doB (doB b2 (opR f x1 x2)) (opR (· * ·) t1 t2)) n m
    rw [hr] at HE ⊢
    unfold ratV
    clear hg7 hbl5 hpr5 hr
    go_wp2_with fail
    refine bodyPost_ret (results_list (rs := [.cell _ _, .tmp _]) rfl (by simp) (.cell (w.heap.size + 1 + 1) 23 _ (0, 0) _ rfl (blk_set (blk_set HPR.out 0 (.string r1)) 1 (.string r2)) Tryz.underlying23 rfl (by kernel_rfl) (.tmp .nil))) rfl ?_
    exact ⟨by rw [HE.out]; rfl, (HBL.out.setCell (p := ⟨w.heap.size + 1 + 1, 0, none⟩) (by show _ ≤ w.heap.size + 1 + 1; omega) _).setCell (p := ⟨w.heap.size + 1 + 1, 1, none⟩) (by show _ ≤ w.heap.size + 1 + 1; omega) _⟩

end Go.Proofs.YtnhjidbjibehpaaGreatDoor.L4

/- Layer 4, walked: Add, Sub. -/
namespace Go.Proofs.YtnhjidbjibehpaaGreatDoor.L4
open Go.Shelf Go.RowKit Go.Proofs.YtnhjidbjibehpaaGreatDoorW.PrintWords Go.Proofs.YtnhjidbjibehpaaGreatDoorW.PrintLast Go.Proofs.YtnhjidbjibehpaaGreatDoorW.PrintMore Yd L3
set_option linter.unusedVariables false
set_option linter.unusedSimpArgs false
attribute [local go_sem ↓] Go.wp_at_zero Go.wp_at_succ

/-- two boxes, and the result's -/
structure R3 (w W : World) (r1 r2 : ByteArray) : Prop where
  bl : Below w.heap.size w W
  pr : W.heap[w.heap.size + 1 + 1]? = some (.cells #[.string r1, .string r2] 23)
theorem R3.next {w W W' : World} {r1 r2 : ByteArray} (h : R3 w W r1 r2) (hb : Below W.heap.size W W') : R3 w W' r1 r2 :=
  ⟨h.bl.trans (hb.mono h.bl.size), (hb.block _ (blk_lt h.pr)).trans h.pr⟩
theorem R3.start (w : World) (s1 t1 s2 t2 : ByteArray) : R3 w (((w.alloc (.cells #[.string s1, .string t1] 23)).alloc (.cells #[.string s2, .string t2] 23)).alloc (.cells #[.string ⟨#[]⟩, .string ⟨#[]⟩] 23)) ⟨#[]⟩ ⟨#[]⟩ := by
  have e : w.heap.size + 1 + 1 = ((w.alloc (.cells #[.string s1, .string t1] 23)).alloc (.cells #[.string s2, .string t2] 23)).heap.size := by simp only [World.size_alloc]
  refine ⟨((((Below.refl _ w).alloc (Nat.le_refl _) _).alloc (by simp only [World.size_alloc]; omega) _).alloc (by simp only [World.size_alloc]; omega) _), ?_⟩
  rw [e]; exact alloc_here _ _
theorem R3.set {w W : World} {r1 r2 : ByteArray} (h : R3 w W r1 r2) (s' t' : ByteArray) : R3 w ((W.setCell ⟨w.heap.size + 1 + 1, 0, none⟩ (.string s')).setCell ⟨w.heap.size + 1 + 1, 1, none⟩ (.string t')) s' t' :=
  ⟨(h.bl.setCell (p := ⟨w.heap.size + 1 + 1, 0, none⟩) (by show _ ≤ w.heap.size + 1 + 1; omega) _).setCell (p := ⟨w.heap.size + 1 + 1, 1, none⟩) (by show _ ≤ w.heap.size + 1 + 1; omega) _, blk_set (blk_set h.pr 0 (.string s')) 1 _⟩
theorem rsumV_rat (f : Int → Int → Int) (s1 t1 s2 t2 : ByteArray) : ∃ a c e, rsumV f s1 t1 s2 t2 = ratV a c e := finV_rat _ _ _

set_option maxRecDepth 100000 in
set_option maxHeartbeats 4000000 in
/-- Add -/
theorem radd_calls (s1 t1 s2 t2 : ByteArray) (w : World) (hT : Tab w) :
    Calls Tryz.prog 27 #[.agg #[.string s1, .string t1], .agg #[.string s2, .string t2]] w fun e w' => e = .returned (rsumV (· + ·) s1 t1 s2 t2) ∧ Below w.heap.size w w' := by
  have HT := Aside0.mk hT
  clear hT
  go_enter Tryz.func27, Tryz.ntmps27
  go_wp2_with fail
  have HR0 := Aside0.mk (R3.start w s1 t1 s2 t2)
  generalize (((w.alloc (.cells #[.string s1, .string t1] 23)).alloc (.cells #[.string s2, .string t2] 23)).alloc (.cells #[.string ⟨#[]⟩, .string ⟨#[]⟩] 23)) = W0 at *
  refine (rsum_calls _ (· + ·) op_add s1 t1 s2 t2 W0 (tabB HT.out HR0.out.bl)).mono ?_
  rintro e w1 ⟨rfl, hb1⟩
  have HR1 := Aside0.mk (HR0.out.next hb1)
  obtain ⟨c0, c1, f0, f1⟩ := pair_facts HR1.out.pr
  obtain ⟨r1, r2, er, hr⟩ := rsumV_rat (· + ·) s1 t1 s2 t2
  have HR := Aside0.mk hr
  rw [hr]
  unfold ratV
  clear hb1 hr
  go_wp2_with fail
  have HR5 := Aside0.mk (HR1.out.set r1 r2)
  refine bodyPost_ret (results_list (rs := [.cell _ _, .tmp _]) rfl (by simp) (.cell (w.heap.size + 1 + 1) 23 _ (0, 0) _ rfl HR5.out.pr Tryz.underlying23 rfl (by kernel_rfl) (.tmp .nil))) rfl ?_
  exact ⟨by rw [HR.out]; rfl, HR5.out.bl⟩

set_option maxRecDepth 100000 in
set_option maxHeartbeats 4000000 in
/-- Sub -/
theorem rsub_calls (s1 t1 s2 t2 : ByteArray) (w : World) (hT : Tab w) :
    Calls Tryz.prog 44 #[.agg #[.string s1, .string t1], .agg #[.string s2, .string t2]] w fun e w' => e = .returned (rsumV (· - ·) s1 t1 s2 t2) ∧ Below w.heap.size w w' := by
  have HT := Aside0.mk hT
  clear hT
  go_enter Tryz.func44, Tryz.ntmps44
  go_wp2_with fail
  have HR0 := Aside0.mk (R3.start w s1 t1 s2 t2)
  generalize (((w.alloc (.cells #[.string s1, .string t1] 23)).alloc (.cells #[.string s2, .string t2] 23)).alloc (.cells #[.string ⟨#[]⟩, .string ⟨#[]⟩] 23)) = W0 at *
  refine (rsum_calls _ (· - ·) op_sub s1 t1 s2 t2 W0 (tabB HT.out HR0.out.bl)).mono ?_
  rintro e w1 ⟨rfl, hb1⟩
  have HR1 := Aside0.mk (HR0.out.next hb1)
  obtain ⟨c0, c1, f0, f1⟩ := pair_facts HR1.out.pr
  obtain ⟨r1, r2, er, hr⟩ := rsumV_rat (· - ·) s1 t1 s2 t2
  have HR := Aside0.mk hr
  rw [hr]
  unfold ratV
  clear hb1 hr
  go_wp2_with fail
  have HR5 := Aside0.mk (HR1.out.set r1 r2)
  refine bodyPost_ret (results_list (rs := [.cell _ _, .tmp _]) rfl (by simp) (.cell (w.heap.size + 1 + 1) 23 _ (0, 0) _ rfl HR5.out.pr Tryz.underlying23 rfl (by kernel_rfl) (.tmp .nil))) rfl ?_
  exact ⟨by rw [HR.out]; rfl, HR5.out.bl⟩

end Go.Proofs.YtnhjidbjibehpaaGreatDoor.L4

/- Plain fractions: which two texts are a fraction, and of which rational number; what the operations on fractions give. No program in this text. -/
namespace Yd
open Go.Lib

theorem DL_gt0 : 0 < DL := by rw [DL_eq]; exact Nat.pow_pos (by omega)
theorem DL_gt1 : 1 < DL := by rw [DL_eq]; exact Nat.one_lt_pow (by omega) (by omega)

/-- the fraction that two texts are -/
def rval (s t : List UInt8) : Option Rat := match ival s, ival t with
  | some p, some q => if 0 < q ∧ Nat.gcd p.natAbs q.natAbs = 1 then some (Rat.divInt p q) else none
  | _, _ => none

/-- its texts have at most 200 digits -/
def RL (r : Rat) : Prop := r.num.natAbs < DL ∧ r.den < DL
instance (r : Rat) : Decidable (RL r) := by unfold RL; infer_instance

theorem rat_pos (r : Rat) : (0 : Int) < r.den := by have := r.den_pos; omega
theorem divInt_self_rat (r : Rat) : Rat.divInt r.num r.den = r := Rat.num_divInt_den r

theorem rval_rat {r : Rat} (h : RL r) : rval (itoa r.num) (itoa r.den) = some r := by
  unfold rval
  rw [ival_itoa h.1, ival_itoa (x := (r.den : Int)) (by simpa using h.2)]
  show (if 0 < (r.den : Int) ∧ Nat.gcd r.num.natAbs (r.den : Int).natAbs = 1 then some (Rat.divInt r.num r.den) else none) = some r
  rw [if_pos ⟨rat_pos r, by simpa using r.reduced⟩, divInt_self_rat]

theorem num_divInt_co {p q : Int} (hq : 0 < q) (h : Nat.gcd p.natAbs q.natAbs = 1) : (Rat.divInt p q).num = p ∧ ((Rat.divInt p q).den : Int) = q := by
  have hg : q.gcd p = 1 := by rw [Int.gcd_comm]; exact h
  rw [Rat.num_divInt, Rat.den_divInt, hg, Int.sign_eq_one_of_pos hq, if_neg (by omega)]
  refine ⟨by simp, ?_⟩
  simp only [Nat.div_one]; omega

theorem rval_eq {s t : List UInt8} {r : Rat} (h : rval s t = some r) : s = itoa r.num ∧ t = itoa r.den ∧ RL r := by
  unfold rval at h
  split at h
  · rename_i p q h1 h2
    split at h
    · rename_i hc
      obtain ⟨a1, a2⟩ := ival_eq h1
      obtain ⟨b1, b2⟩ := ival_eq h2
      obtain ⟨c1, c2⟩ := num_divInt_co hc.1 hc.2
      injection h with h
      subst h
      refine ⟨by rw [c1]; exact a1, by rw [c2]; exact b1, ?_⟩
      unfold RL
      rw [c1]
      exact ⟨a2, by omega⟩
    · cases h
  · cases h
/-- two integers as a fraction -/
def mk2 (x y : Int) : Option Rat := if y = 0 then none else some (Rat.divInt x y)
def mkO (s t : List UInt8) : Option Rat := match ival s, ival t with
  | some x, some y => mk2 x y
  | _, _ => none
theorem divInt_num_le {x y : Int} : (Rat.divInt x y).num.natAbs ≤ x.natAbs := by
  rw [Rat.num_divInt]
  refine Nat.le_trans (Int.natAbs_ediv_le_natAbs _ _) ?_
  rw [Int.natAbs_mul, Int.natAbs_sign]
  split
  · omega
  · omega
theorem divInt_den_le {x y : Int} (h : y ≠ 0) : (Rat.divInt x y).den ≤ y.natAbs := by
  rw [Rat.den_divInt, if_neg h]; exact Nat.div_le_self _ _
theorem RL_divInt {x y : Int} (hx : x.natAbs < DL) (hy : y.natAbs < DL) : RL (Rat.divInt x y) := by
  by_cases h : y = 0
  · subst h; rw [Rat.divInt_zero]; exact ⟨DL_gt0, DL_gt1⟩
  · exact ⟨Nat.lt_of_le_of_lt divInt_num_le hx, Nat.lt_of_le_of_lt (divInt_den_le h) hy⟩
def sm (z : Int) : Bool := decide (z.natAbs < DL)
theorem sm_iff {z : Int} : sm z = true ↔ z.natAbs < DL := decide_eq_true_iff

def radd (a b : Rat) : Option Rat := if sm (a.num * b.den) && sm (b.num * a.den) && sm (a.den * b.den) && sm (a.num * b.den + b.num * a.den) then some (a + b) else none
def rsub (a b : Rat) : Option Rat := if sm (a.num * b.den) && sm (b.num * a.den) && sm (a.den * b.den) && sm (a.num * b.den - b.num * a.den) then some (a - b) else none
def rmul (a b : Rat) : Option Rat := if sm (a.num * b.num) && sm (a.den * b.den) then some (a * b) else none
def rdiv (a b : Rat) : Option Rat := if sm (a.num * b.den) && sm (a.den * b.num) && decide (b ≠ 0) then some (a / b) else none
def rbin (f : Rat → Rat → Option Rat) (a b : Option Rat) : Option Rat := match a, b with
  | some x, some y => f x y
  | _, _ => none
theorem add_divInt (a b : Rat) : Rat.divInt (a.num * b.den + b.num * a.den) (a.den * b.den) = a + b := by
  have h1 := rat_pos a
  have h2 := rat_pos b
  rw [← Rat.divInt_add_divInt _ _ (by omega) (by omega), divInt_self_rat, divInt_self_rat]
theorem sub_divInt (a b : Rat) : Rat.divInt (a.num * b.den - b.num * a.den) (a.den * b.den) = a - b := by
  have h1 := rat_pos a
  have h2 := rat_pos b
  rw [← Rat.divInt_sub_divInt _ _ (by omega) (by omega), divInt_self_rat, divInt_self_rat]
theorem mul_divInt (a b : Rat) : Rat.divInt (a.num * b.num) (a.den * b.den) = a * b := by
  rw [← Rat.divInt_mul_divInt, divInt_self_rat, divInt_self_rat]
theorem div_divInt (a b : Rat) : Rat.divInt (a.num * b.den) (a.den * b.num) = a / b := by
  rw [← Rat.divInt_mul_divInt, divInt_self_rat, ← Rat.inv_def, Rat.div_def]

theorem RL_add {a b r : Rat} (h : radd a b = some r) : RL r ∧ r = a + b := by
  unfold radd at h
  split at h
  · rename_i hc
    simp only [Bool.and_eq_true, sm_iff] at hc
    injection h with h; subst h
    exact ⟨by rw [← add_divInt]; exact RL_divInt hc.2 hc.1.2, rfl⟩
  · cases h
theorem RL_sub {a b r : Rat} (h : rsub a b = some r) : RL r ∧ r = a - b := by
  unfold rsub at h
  split at h
  · rename_i hc
    simp only [Bool.and_eq_true, sm_iff] at hc
    injection h with h; subst h
    exact ⟨by rw [← sub_divInt]; exact RL_divInt hc.2 hc.1.2, rfl⟩
  · cases h
theorem RL_mul {a b r : Rat} (h : rmul a b = some r) : RL r ∧ r = a * b := by
  unfold rmul at h
  split at h
  · rename_i hc
    simp only [Bool.and_eq_true, sm_iff] at hc
    injection h with h; subst h
    exact ⟨by rw [← mul_divInt]; exact RL_divInt hc.1 hc.2, rfl⟩
  · cases h
theorem RL_div {a b r : Rat} (h : rdiv a b = some r) : RL r ∧ r = a / b ∧ b ≠ 0 := by
  unfold rdiv at h
  split at h
  · rename_i hc
    simp only [Bool.and_eq_true, sm_iff, decide_eq_true_iff] at hc
    injection h with h; subst h
    exact ⟨by rw [← div_divInt]; exact RL_divInt hc.1.1 hc.1.2, rfl, hc.2⟩
  · cases h

def sgn (x : Int) : Int := if x < 0 then -1 else if 0 < x then 1 else 0
def rcmp (a b : Rat) : Int := sgn (a.num * b.den - b.num * a.den)
def rcmpO (a b : Option Rat) : Int := match a, b with
  | some x, some y => rcmp x y
  | _, _ => 0
theorem rcmp_lt {a b : Rat} : rcmp a b = -1 ↔ a < b := by
  rw [Rat.lt_iff]; unfold rcmp sgn; split
  · exact ⟨fun _ => by omega, fun _ => rfl⟩
  · split
    · exact ⟨fun h => by omega, fun h => by omega⟩
    · exact ⟨fun h => by omega, fun h => by omega⟩
theorem rcmp_gt {a b : Rat} : rcmp a b = 1 ↔ b < a := by
  rw [Rat.lt_iff]; unfold rcmp sgn; split
  · exact ⟨fun h => by omega, fun h => by omega⟩
  · split
    · exact ⟨fun h => by omega, fun h => rfl⟩
    · exact ⟨fun h => by omega, fun h => by omega⟩
theorem rcmp_eq {a b : Rat} : rcmp a b = 0 ↔ a = b := by
  rw [Rat.eq_iff_mul_eq_mul]; unfold rcmp sgn; split
  · exact ⟨fun h => by omega, fun h => by omega⟩
  · split
    · exact ⟨fun h => by omega, fun h => by omega⟩
    · exact ⟨fun h => by omega, fun h => rfl⟩
theorem rcmp_cases (a b : Rat) : (a < b ∧ rcmp a b = -1) ∨ (a = b ∧ rcmp a b = 0) ∨ (b < a ∧ rcmp a b = 1) := by
  have h : rcmp a b = -1 ∨ rcmp a b = 0 ∨ rcmp a b = 1 := by unfold rcmp sgn; split; exact .inl rfl; split; exact .inr (.inr rfl); exact .inr (.inl rfl)
  rcases h with h | h | h
  · exact .inl ⟨rcmp_lt.1 h, h⟩
  · exact .inr (.inl ⟨rcmp_eq.1 h, h⟩)
  · exact .inr (.inr ⟨rcmp_gt.1 h, h⟩)

/-- one step of comparing: the whole parts, then what is left, upside down -/
theorem sgn_mul_neg (x : Int) : sgn (-x) = -sgn x := by unfold sgn; split <;> split <;> (try split) <;> omega
theorem sgn_step {n d m c : Int} (h : n / d = m / c) : sgn (n * c - m * d) = -sgn (d * (m % c) - c * (n % d)) := by
  rw [← sgn_mul_neg]
  congr 1
  have h1 := Int.emod_add_mul_ediv n d
  have h2 := Int.emod_add_mul_ediv m c
  rw [h] at h1
  generalize m / c = p at *
  generalize n % d = r at *
  generalize m % c = s at *
  subst h1 h2
  grind
theorem sgn_whole_lt {n d m c : Int} (hd : 0 < d) (hc : 0 < c) (h : n / d < m / c) : sgn (n * c - m * d) = -1 := by
  have h1 := Int.emod_add_mul_ediv n d
  have h2 := Int.emod_add_mul_ediv m c
  have h3 := Int.emod_lt_of_pos n hd
  have h4 := Int.emod_nonneg m (show c ≠ 0 by omega)
  generalize m / c = p at *
  generalize n / d = q at *
  generalize n % d = r at *
  generalize m % c = s at *
  have e1 : n * c < (q + 1) * d * c := by
    have : n < (q + 1) * d := by grind
    exact Int.mul_lt_mul_of_pos_right this hc
  have e2 : (q + 1) * d * c ≤ p * d * c := Int.mul_le_mul_of_nonneg_right (Int.mul_le_mul_of_nonneg_right (by omega) (by omega)) (by omega)
  have e3 : p * d * c ≤ m * d := by
    have : p * c ≤ m := by grind
    have := Int.mul_le_mul_of_nonneg_right this (show 0 ≤ d by omega)
    grind
  unfold sgn
  rw [if_pos (by omega)]
theorem sgn_whole_gt {n d m c : Int} (hd : 0 < d) (hc : 0 < c) (h : m / c < n / d) : sgn (n * c - m * d) = 1 := by
  have := sgn_whole_lt hc hd h
  rw [show n * c - m * d = -(m * d - n * c) by omega, sgn_mul_neg, this]; rfl

def rgrid (up : Bool) (r : Rat) (k : Nat) : Option Rat :=
  if sm (r.num * 10 ^ k) then some (Rat.divInt (r.num * 10 ^ k / r.den + if up && decide (r.num * 10 ^ k % r.den ≠ 0) then 1 else 0) (10 ^ k)) else none

def rprint (r : Rat) : List UInt8 := if r.den = 1 then itoa r.num else itoa r.num ++ 47 :: itoa r.den
def rprintO (r : Option Rat) : List UInt8 := match r with
  | some r => rprint r
  | none => []
/-- what stands before the first slash, and behind it -/
def cutS : List UInt8 → List UInt8 × Option (List UInt8)
  | [] => ([], none)
  | a :: r => if a = 47 then ([], some r) else (a :: (cutS r).1, (cutS r).2)
def rparse (l : List UInt8) : Option Rat :=
  match rval (cutS l).1 ((cutS l).2.getD [49]) with
  | some r => if rprint r = l then some r else none
  | none => none

theorem itoa_no_slash (x : Int) : ∀ b ∈ itoa x, b ≠ 47 := by
  have h : ∀ b ∈ decDigits x.natAbs, b ≠ 47 := by
    intro b hb h
    have := List.all_eq_true.1 (decDigits_all x.natAbs) b hb
    rw [isDig_iff, h] at this
    have h47 : (47 : UInt8).toNat = 47 := rfl
    omega
  intro b hb
  by_cases hx : x < 0
  · rw [itoa_neg hx] at hb
    rcases List.mem_cons.1 hb with rfl | hb
    · decide
    · exact h b hb
  · rw [itoa_pos (by omega)] at hb; exact h b hb
theorem cutS_none : ∀ l : List UInt8, (∀ b ∈ l, b ≠ 47) → cutS l = (l, none)
  | [], _ => rfl
  | a :: r, h => by
    rw [cutS, if_neg (h a (List.mem_cons_self ..)), cutS_none r (fun b hb => h b (List.mem_cons_of_mem _ hb))]
theorem cutS_some : ∀ l r : List UInt8, (∀ b ∈ l, b ≠ 47) → cutS (l ++ 47 :: r) = (l, some r)
  | [], r, _ => by rw [List.nil_append, cutS, if_pos rfl]
  | a :: l, r, h => by
    rw [List.cons_append, cutS, if_neg (h a (List.mem_cons_self ..)), cutS_some l r (fun b hb => h b (List.mem_cons_of_mem _ hb))]
theorem itoa_one : itoa 1 = [49] := by
  rw [itoa_pos (by omega), show (1 : Int).natAbs = 1 from rfl, decDigits_small (by omega)]; rfl
theorem itoa_zero : itoa 0 = [48] := by rw [itoa_pos (by omega), show (0 : Int).natAbs = 0 from rfl, decDigits_zero]
theorem rparse_print {r : Rat} (h : RL r) : rparse (rprint r) = some r := by
  have key : (cutS (rprint r)).1 = itoa r.num ∧ (cutS (rprint r)).2.getD [49] = itoa r.den := by
    unfold rprint
    by_cases h1 : r.den = 1
    · rw [if_pos h1, cutS_none _ (itoa_no_slash _), h1]
      exact ⟨rfl, itoa_one.symm⟩
    · rw [if_neg h1, cutS_some _ _ (itoa_no_slash _)]
      exact ⟨rfl, rfl⟩
  unfold rparse
  rw [key.1, key.2, rval_rat h]
  simp
end Yd

/- Plain laws of fractions: the field, the order, the grid, the limits. No program in this text. -/
namespace Yd
open Go.Lib

theorem sm_neg (x : Int) : sm (-x) = sm x := by unfold sm; rw [Int.natAbs_neg]
theorem radd_comm (a b : Rat) : radd a b = radd b a := by
  unfold radd
  rw [Int.add_comm (a.num * b.den), Int.mul_comm (a.den : Int) b.den, Rat.add_comm a b, Bool.and_comm (sm (a.num * b.den))]
theorem rmul_comm (a b : Rat) : rmul a b = rmul b a := by
  unfold rmul
  rw [Int.mul_comm a.num, Int.mul_comm (a.den : Int), Rat.mul_comm]

theorem field_sum {a b c ab bc x y : Rat} (h1 : radd a b = some ab) (h2 : radd b c = some bc) (h3 : radd ab c = some x) (h4 : radd a bc = some y) : x = y := by
  have e1 := (RL_add h1).2
  have e2 := (RL_add h2).2
  have e3 := (RL_add h3).2
  have e4 := (RL_add h4).2
  grind
theorem field_mul {a b c ab bc x y : Rat} (h1 : rmul a b = some ab) (h2 : rmul b c = some bc) (h3 : rmul a bc = some x) (h4 : rmul ab c = some y) : x = y := by
  have e1 := (RL_mul h1).2
  have e2 := (RL_mul h2).2
  have e3 := (RL_mul h3).2
  have e4 := (RL_mul h4).2
  grind
theorem field_distr {a b c ab ac bc x y : Rat} (h1 : radd a b = some ab) (h2 : rmul a c = some ac) (h3 : rmul b c = some bc) (h4 : radd ac bc = some x) (h5 : rmul ab c = some y) : x = y := by
  have e1 := (RL_add h1).2
  have e2 := (RL_mul h2).2
  have e3 := (RL_mul h3).2
  have e4 := (RL_add h4).2
  have e5 := (RL_mul h5).2
  grind
theorem field_back {a b ab x : Rat} (h1 : radd a b = some ab) (h2 : rsub ab b = some x) : x = a := by
  have e1 := (RL_add h1).2
  have e2 := (RL_sub h2).2
  grind
theorem field_again {a b q x : Rat} (h1 : rdiv a b = some q) (h2 : rmul q b = some x) : x = a := by
  have e1 := (RL_div h1).2
  have e2 := (RL_mul h2).2
  rw [e2, e1.1]
  exact Rat.div_mul_cancel e1.2

theorem rcmp_self (a : Rat) : rcmp a a = 0 := rcmp_eq.2 rfl
theorem rcmp_swap (a b : Rat) : rcmp b a = -rcmp a b := by
  unfold rcmp
  rw [← sgn_mul_neg]; congr 1; omega
theorem rcmp_le {a b : Rat} : rcmp a b ≤ 0 ↔ a ≤ b := by
  rcases rcmp_cases a b with ⟨h, e⟩ | ⟨h, e⟩ | ⟨h, e⟩
  · exact ⟨fun _ => Rat.le_of_lt h, fun _ => by omega⟩
  · exact ⟨fun _ => h ▸ Rat.le_refl, fun _ => by omega⟩
  · exact ⟨fun _ => by omega, fun h' => absurd h (Rat.not_lt.2 h')⟩
theorem rcmp_trans {a b c : Rat} (h1 : rcmp a b ≤ 0) (h2 : rcmp b c ≤ 0) : rcmp a c ≤ 0 := by
  rw [rcmp_le] at *; exact Rat.le_trans h1 h2
theorem rcmp_trans_lt {a b c : Rat} (h1 : rcmp a b ≤ 0) (h2 : rcmp b c < 0) : rcmp a c < 0 := by
  have h3 := rcmp_trans h1 (show rcmp b c ≤ 0 by omega)
  rcases rcmp_cases a c with ⟨h, e⟩ | ⟨h, e⟩ | ⟨h, e⟩
  · omega
  · exfalso
    subst h
    rw [rcmp_swap] at h2
    omega
  · omega
theorem rcmp_congr {a b c d : Rat} (h1 : a < b ↔ c < d) (h2 : b < a ↔ d < c) : rcmp a b = rcmp c d := by
  rcases rcmp_cases a b with ⟨h, e⟩ | ⟨h, e⟩ | ⟨h, e⟩
  · rw [e, rcmp_lt.2 (h1.1 h)]
  · rw [e]
    rcases rcmp_cases c d with ⟨h', e'⟩ | ⟨h', e'⟩ | ⟨h', e'⟩
    · exact absurd (h1.2 h') (by rw [h]; exact Rat.lt_irrefl)
    · exact e'.symm
    · exact absurd (h2.2 h') (by rw [h]; exact Rat.lt_irrefl)
  · rw [e, rcmp_gt.2 (h2.1 h)]
theorem rcmp_sub (a b : Rat) : rcmp (a - b) 0 = rcmp a b := rcmp_congr (by grind) (by grind)
theorem rcmp_add (a b t : Rat) : rcmp (a + t) (b + t) = rcmp a b := rcmp_congr (by grind) (by grind)
theorem rcmp_mul (a b t : Rat) : rcmp (a * t) (b * t) = rcmp a b * rcmp t 0 := by
  rcases rcmp_cases t 0 with ⟨h, e⟩ | ⟨h, e⟩ | ⟨h, e⟩
  · rw [e, show rcmp a b * -1 = rcmp b a by rw [rcmp_swap]; omega]
    have hn : 0 < -t := by grind
    have key : ∀ x y : Rat, x * t < y * t ↔ y < x := by
      intro x y
      have := Rat.mul_lt_mul_right (a := y) (b := x) hn
      rw [← this]
      constructor <;> intro h <;> grind
    exact rcmp_congr (key a b) (key b a)
  · rw [e, h, Rat.mul_zero, Rat.mul_zero, rcmp_self]; omega
  · rw [e, Int.mul_one]
    exact rcmp_congr (Rat.mul_lt_mul_right h) (Rat.mul_lt_mul_right h)

end Yd
