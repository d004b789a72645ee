/- Layer 4, walked: check of one fraction, round, Down, Up. -/
import Derived.Test.YtnhjidbjibehpaaGreatDoorZl
import Derived.Test.YtnhjidbjibehpaaGreatDoorZc
namespace Go.Proofs.YtnhjidbjibehpaaGreatDoor.L4
open Go.Shelf Go.RowKit Go.Proofs.YtnhjidbjibehpaaGreatDoorW.PrintWords Go.Proofs.YtnhjidbjibehpaaGreatDoorW.PrintLast Go.Proofs.YtnhjidbjibehpaaGreatDoorW.PrintMore Yd L3
set_option linter.unusedVariables false
set_option linter.unusedSimpArgs false
attribute [local go_sem ↓] Go.wp_at_zero Go.wp_at_succ

/-- the state of check, one fraction -/
structure CS1 (W0 W : World) (B Bl : Nat) (b : Bool) (s t : ByteArray) : Prop where
  gb : W0.grownBy W (some B)
  wk : Wk W B b
  lb : W.heap[Bl]? = some (.cells #[.string s, .string t] 23)
theorem CS1.next {W0 W W' : World} {B Bl : Nat} {b : Bool} {s t : ByteArray} (h : CS1 W0 W B Bl b s t) (hb : Below W.heap.size W W') : CS1 W0 W' B Bl b s t :=
  ⟨grown_trans h.gb (grown_of_below hb _), (hb.block _ (blk_lt h.wk)).trans h.wk, (hb.block _ (blk_lt h.lb)).trans h.lb⟩
theorem CS1.set {W0 W : World} {B Bl : Nat} {b b' c : Bool} {s t : ByteArray} (h : CS1 W0 W B Bl b s t) (hne : B ≠ Bl) (e : c = b') : CS1 W0 (W.setCell ⟨B, 0, none⟩ (.bool b')) B Bl c s t := by
  subst e
  exact ⟨grown_trans h.gb (grown_setB (Below.refl _ W) B _), blk_set h.wk 0 _, (Below.heap_setCell _ ⟨B, 0, none⟩ _ Bl (fun e => hne e.symm)).trans h.lb⟩
def flag1 (b : Bool) (s t : ByteArray) (k : Nat) : Bool := b || (decide (0 < k) && !rvalid s.data.toList t.data.toList)
theorem flag1_0 (b : Bool) (s t : ByteArray) : flag1 b s t 0 = b := by simp [flag1]
theorem flag1_1 (b : Bool) (s t : ByteArray) : flag1 b s t 1 = (b || !rvalid s.data.toList t.data.toList) := by simp [flag1]

set_option maxRecDepth 100000 in
set_option maxHeartbeats 4000000 in
/-- check, of one fraction -/
theorem check1_calls (w W : World) (B Bl : Nat) (b : Bool) (s t : ByteArray) (hw : Wk W B b) (hl : W.heap[Bl]? = some (.cells #[.string s, .string t] 23)) (hT : Tab w) (hb : Below w.heap.size w W) (hB : w.heap.size ≤ B) (hne : B ≠ Bl) :
    Calls Tryz.prog 59 #[.pointer (some ⟨B, 0, none⟩), .slice (some ⟨Bl, 0, none⟩) 1 1] W fun e W' => e = .returned (.tuple #[]) ∧ Wk W' B (b || !rvalid s.data.toList t.data.toList) ∧ W.grownBy W' (some B) := by
  have HTB : Aside0 (∀ W' : World, W.grownBy W' (some B) → Tab W') := ⟨fun W' hg => Tab.grown hT hb hB hg⟩
  have HNE := Aside0.mk hne
  clear hT hb hB hne
  go_enter Tryz.func59, Tryz.ntmps59
  go_wp2_with fail
  go_loopg [8] 1 (fun kq v8 wr => ∃ k : Nat, v8 = .int .i64 k ∧ k + kq = 1 ∧ Aside0 (CS1 W wr B Bl (flag1 b s t k) s t))
  case atStart => exact ⟨0, rfl, rfl, ⟨⟨⟨rfl, rfl, rfl, Nat.le_refl _, fun _ _ _ => rfl⟩, by rw [flag1_0]; exact hw, hl⟩⟩⟩
  case round =>
    obtain ⟨k, rfl, hk, HC⟩ := hrel
    have hk' : k = 0 ∨ k = 1 := by omega
    rcases hk' with rfl | rfl
    · obtain rfl : gk = 1 := by omega
      have hc7 := HC.out.next (below_alloc (Below.refl _ wr) (.cells #[.string s, .string t] 23))
      have HC7 := Aside0.mk hc7
      have hc := hc7.wk.cell
      have hf := hc7.wk.frozen
      have l0 := blk_cell HC.out.lb 0
      have l1 := blk_cell HC.out.lb 1
      have HFL := Aside0.mk (flag1_1 b s t)
      have HFK := Aside0.mk (flag1_0 b s t)
      obtain ⟨bb, hbb⟩ : ∃ bb, flag1 b s t 0 = bb := ⟨_, rfl⟩
      rw [hbb] at hc
      have HBB := Aside0.mk hbb
      have HTW := Aside0.mk (HTB.out _ hc7.gb)
      clear hbb hc7
      cases bb
      · go_wp2_with fail
        refine (rvalid_calls s t _ HTW.out).mono ?_
        rintro e W4 ⟨rfl, hb4⟩
        have hc8 := HC7.out.next hb4
        have HC8 := Aside0.mk hc8
        have hc := hc8.wk.cell
        rw [HBB.out] at hc
        have hf := hc8.wk.frozen
        obtain ⟨vv, hvv⟩ : ∃ vv, rvalid s.data.toList t.data.toList = vv := ⟨_, rfl⟩
        rw [hvv]
        have HVV := Aside0.mk hvv
        clear hb4 hc8 hvv
        go_wp2_with fail
        all_goals
          go_roundg 0
          case measure => omega
          case rel => exact ⟨1, rfl, rfl, ⟨HC8.out.set HNE.out (by rw [HFL.out, ← HVV.out]; have h := HFK.out; rw [HBB.out] at h; rw [← h]; rfl)⟩⟩
      · go_wp2_with fail
        all_goals
          go_roundg 0
          case measure => omega
          case rel => exact ⟨1, rfl, rfl, ⟨HC7.out.set HNE.out (by rw [HFL.out]; have h := HFK.out; rw [HBB.out] at h; rw [← h]; rfl)⟩⟩
    · obtain rfl : gk = 0 := by omega
      have HFL := Aside0.mk (flag1_1 b s t)
      go_wp2_with fail
      go_end0
      exact ⟨rfl, by rw [← HFL.out]; exact HC.out.wk, HC.out.gb⟩

/-- round's boxes: the fraction, the result, the calculation -/
structure RG (w W : World) (b : Bool) (s t r1 r2 : ByteArray) : Prop where
  bl : Below w.heap.size w W
  pa : W.heap[w.heap.size]? = some (.cells #[.string s, .string t] 23)
  pr : W.heap[w.heap.size + 1]? = some (.cells #[.string r1, .string r2] 23)
  wk : Wk W (w.heap.size + 1 + 1) b
theorem RG.grown {w W W' : World} {b b' : Bool} {s t r1 r2 : ByteArray} (h : RG w W b s t r1 r2) (hw : Wk W' (w.heap.size + 1 + 1) b') (hg : W.grownBy W' (some (w.heap.size + 1 + 1))) : RG w W' b' s t r1 r2 :=
  ⟨h.bl.grown hg h.bl.size (fun k e => by injection e with e; omega), (hg.block _ (blk_lt h.pa) (by intro e; injection e with e; omega)).trans h.pa,
    (hg.block _ (blk_lt h.pr) (by intro e; injection e with e; omega)).trans h.pr, hw⟩
theorem RG.next {w W W' : World} {b : Bool} {s t r1 r2 : ByteArray} (h : RG w W b s t r1 r2) (hb : Below W.heap.size W W') : RG w W' b s t r1 r2 :=
  h.grown ((hb.block _ (blk_lt h.wk)).trans h.wk) (grown_of_below hb _)
theorem RG.start (w : World) (b : Bool) (s t : ByteArray) : RG w (((w.alloc (.cells #[.string s, .string t] 23)).alloc (.cells #[.string ⟨#[]⟩, .string ⟨#[]⟩] 23)).alloc (.cells #[.bool b] 78)) b s t ⟨#[]⟩ ⟨#[]⟩ := by
  have h1 := alloc_here w (.cells #[.string s, .string t] 23)
  have e1 : w.heap.size + 1 = (w.alloc (.cells #[.string s, .string t] 23)).heap.size := by simp only [World.size_alloc]
  have h2 := alloc_here (w.alloc (.cells #[.string s, .string t] 23)) (.cells #[.string ⟨#[]⟩, .string ⟨#[]⟩] 23)
  have e2 : w.heap.size + 1 + 1 = ((w.alloc (.cells #[.string s, .string t] 23)).alloc (.cells #[.string ⟨#[]⟩, .string ⟨#[]⟩] 23)).heap.size := by simp only [World.size_alloc]
  refine ⟨((((Below.refl _ w).alloc (Nat.le_refl _) _).alloc (by simp only [World.size_alloc]; omega) _).alloc (by simp only [World.size_alloc]; omega) _), ?_, ?_, ?_⟩
  · exact (alloc_old _ _ (by rw [← e2]; omega)).trans ((alloc_old _ _ (by rw [← e1]; omega)).trans h1)
  · rw [e1]; exact (alloc_old _ _ (by rw [← e2]; omega)).trans h2
  · rw [e2]; exact alloc_here _ _
theorem RG.set {w W : World} {b : Bool} {s t r1 r2 : ByteArray} (h : RG w W b s t r1 r2) (s' t' : ByteArray) : RG w ((W.setCell ⟨w.heap.size + 1, 0, none⟩ (.string s')).setCell ⟨w.heap.size + 1, 1, none⟩ (.string t')) b s t s' t' := by
  refine ⟨(h.bl.setCell (p := ⟨w.heap.size + 1, 0, none⟩) (by show _ ≤ w.heap.size + 1; omega) _).setCell (p := ⟨w.heap.size + 1, 1, none⟩) (by show _ ≤ w.heap.size + 1; omega) _, ?_, blk_set (blk_set h.pr 0 (.string s')) 1 _, ?_⟩
  · exact ((Below.heap_setCell _ ⟨w.heap.size + 1, 1, none⟩ _ _ (by show w.heap.size ≠ w.heap.size + 1; omega)).trans (Below.heap_setCell _ ⟨w.heap.size + 1, 0, none⟩ _ _ (by show w.heap.size ≠ w.heap.size + 1; omega))).trans h.pa
  · exact ((Below.heap_setCell _ ⟨w.heap.size + 1, 1, none⟩ _ _ (by show w.heap.size + 1 + 1 ≠ w.heap.size + 1; omega)).trans (Below.heap_setCell _ ⟨w.heap.size + 1, 0, none⟩ _ _ (by show w.heap.size + 1 + 1 ≠ w.heap.size + 1; omega))).trans h.wk
theorem RG_size (w : World) (a b c : Obj) : (((w.alloc a).alloc b).alloc c).heap.size = w.heap.size + 1 + 1 + 1 := by simp only [World.size_alloc]
/-- w.bad = false, once more -/
theorem RG.good {w W : World} {b : Bool} {s t r1 r2 : ByteArray} (h : RG w W b s t r1 r2) (b' : Bool) : RG w (W.setCell ⟨w.heap.size + 1 + 1, 0, none⟩ (.bool b')) b' s t r1 r2 :=
  h.grown (blk_set h.wk 0 _) (grown_setB (Below.refl _ W) _ _)

set_option maxRecDepth 100000 in
set_option maxHeartbeats 4000000 in
theorem round_lo (s t : ByteArray) (p : Int) (up : Bool) (w : World) (hT : Tab w) (e1 : decide (p < 0) = true) :
    Calls Tryz.prog 69 #[.agg #[.string s, .string t], .int .i64 p, .bool up] w fun e w' => e = .returned badR ∧ Below w.heap.size w w' := by
  have HT := Aside0.mk hT
  have HV : Aside0 ((true || !rvalid s.data.toList t.data.toList) = true) := ⟨by rfl⟩
  clear hT
  go_enter Tryz.func69, Tryz.ntmps69
  go_wp2_with fail
  have HR0 := Aside0.mk (RG.start w true s t)
  have HZ0 := Aside0.mk (RG_size w (.cells #[.string s, .string t] 23) (.cells #[.string ⟨#[]⟩, .string ⟨#[]⟩] 23) (.cells #[.bool true] 78))
  generalize (((w.alloc (.cells #[.string s, .string t] 23)).alloc (.cells #[.string ⟨#[]⟩, .string ⟨#[]⟩] 23)).alloc (.cells #[.bool true] 78)) = W0 at *
  have hl := alloc_here W0 (.cells #[.string s, .string t] 23)
  rw [HZ0.out] at hl
  have HR1 := Aside0.mk (HR0.out.next (below_alloc (Below.refl _ W0) (.cells #[.string s, .string t] 23)))
  refine (check1_calls w _ _ _ true s t HR1.out.wk hl HT.out HR1.out.bl (by omega) (by omega)).mono ?_
  rintro e W2 ⟨rfl, hw2, hg2⟩
  rw [HV.out] at hw2
  have hr2 := HR1.out.grown hw2 hg2
  have HR2 := Aside0.mk hr2
  have hc := hr2.wk.cell
  have hf := hr2.wk.frozen
  obtain ⟨d0, d1, g0, g1⟩ := pair_facts hr2.pr
  clear hl hw2 hg2 hr2 HR0 HZ0 HR1
  go_wp2_with fail
  have HR5 := Aside0.mk (HR2.out.set ⟨#[]⟩ ⟨#[]⟩)
  refine bodyPost_ret (results_list (rs := [.cell _ _, .tmp _]) rfl (by simp) (.cell (w.heap.size + 1) 23 _ (0, 0) _ rfl HR5.out.pr Tryz.underlying23 rfl (by kernel_rfl) (.tmp .nil))) rfl ?_
  exact ⟨rfl, HR5.out.bl⟩

set_option maxRecDepth 100000 in
set_option maxHeartbeats 4000000 in
theorem round_bad1 (s t : ByteArray) (p : Int) (up : Bool) (w : World) (hT : Tab w) (b2 : Bool) (e1 : decide (p < 0) = false) (e2 : decide (30 < p) = b2) (hv : (b2 || !rvalid s.data.toList t.data.toList) = true) :
    Calls Tryz.prog 69 #[.agg #[.string s, .string t], .int .i64 p, .bool up] w fun e w' => e = .returned badR ∧ Below w.heap.size w w' := by
  have HT := Aside0.mk hT
  have HV : Aside0 ((b2 || !rvalid s.data.toList t.data.toList) = true) := ⟨by exact hv⟩
  clear hT hv
  go_enter Tryz.func69, Tryz.ntmps69
  go_wp2_with fail
  have HR0 := Aside0.mk (RG.start w b2 s t)
  have HZ0 := Aside0.mk (RG_size w (.cells #[.string s, .string t] 23) (.cells #[.string ⟨#[]⟩, .string ⟨#[]⟩] 23) (.cells #[.bool b2] 78))
  generalize (((w.alloc (.cells #[.string s, .string t] 23)).alloc (.cells #[.string ⟨#[]⟩, .string ⟨#[]⟩] 23)).alloc (.cells #[.bool b2] 78)) = W0 at *
  have hl := alloc_here W0 (.cells #[.string s, .string t] 23)
  rw [HZ0.out] at hl
  have HR1 := Aside0.mk (HR0.out.next (below_alloc (Below.refl _ W0) (.cells #[.string s, .string t] 23)))
  refine (check1_calls w _ _ _ b2 s t HR1.out.wk hl HT.out HR1.out.bl (by omega) (by omega)).mono ?_
  rintro e W2 ⟨rfl, hw2, hg2⟩
  rw [HV.out] at hw2
  have hr2 := HR1.out.grown hw2 hg2
  have HR2 := Aside0.mk hr2
  have hc := hr2.wk.cell
  have hf := hr2.wk.frozen
  obtain ⟨d0, d1, g0, g1⟩ := pair_facts hr2.pr
  clear hl hw2 hg2 hr2 HR0 HZ0 HR1
  go_wp2_with fail
  have HR5 := Aside0.mk (HR2.out.set ⟨#[]⟩ ⟨#[]⟩)
  refine bodyPost_ret (results_list (rs := [.cell _ _, .tmp _]) rfl (by simp) (.cell (w.heap.size + 1) 23 _ (0, 0) _ rfl HR5.out.pr Tryz.underlying23 rfl (by kernel_rfl) (.tmp .nil))) rfl ?_
  exact ⟨rfl, HR5.out.bl⟩

theorem repL_succ (k : Nat) : Lib.repeatL [48] (k + 1) = Lib.repeatL [48] k ++ [48] := by
  induction k with
  | zero => rfl
  | succ k ih =>
    conv => lhs; rw [Lib.repeatL, ih, ← List.append_assoc]
    rfl
theorem itoa_pow (k : Nat) : Lib.itoa (10 ^ k) = 49 :: Lib.repeatL [48] k := by
  induction k with
  | zero => rw [show (10 : Int) ^ 0 = 1 from rfl, itoa_1]; rfl
  | succ k ih =>
    have h := Ref.itoa_ten (10 ^ k) (Nat.pow_pos (by omega))
    rw [← Nat.pow_succ] at h
    have c1 : ((10 ^ (k + 1) : Nat) : Int) = (10 : Int) ^ (k + 1) := Int.natCast_pow 10 (k + 1)
    have c2 : ((10 ^ k : Nat) : Int) = (10 : Int) ^ k := Int.natCast_pow 10 k
    rw [c1, c2] at h
    rw [h, ih, repL_succ]; rfl
theorem tx_pow (k : Nat) : (⟨#[49]⟩ : ByteArray) ++ (⟨(Lib.repeatL [48] k).toArray⟩ : ByteArray) = tx (10 ^ k) := by
  apply ba_ext
  rw [tx_data, itoa_pow]; simp

set_option maxRecDepth 100000 in
set_option maxHeartbeats 8000000 in
theorem round_ok (s t : ByteArray) (r : Rat) (k : Nat) (up : Bool) (w : World) (hT : Tab w) (hk : k ≤ 30) (hv : rvalB s t = some r) :
    Calls Tryz.prog 69 #[.agg #[.string s, .string t], .int .i64 (k : Int), .bool up] w fun e w' => e = .returned (ratO (rgrid up r k)) ∧ Below w.heap.size w w' := by
  have HT := Aside0.mk hT
  have f1 : decide ((k : Int) < 0) = false := decide_eq_false (by omega)
  have f2 : decide ((30 : Int) < (k : Int)) = false := decide_eq_false (by omega)
  have HV : Aside0 (rvalid s.data.toList t.data.toList = true) := ⟨by rw [rvalid_rval]; unfold rvalB at hv; rw [hv]; rfl⟩
  obtain ⟨rfl, rfl, hr⟩ := rvalB_eq hv
  have HR := Aside0.mk hr
  have HK := Aside0.mk hk
  have HPD : Aside0 (((10 : Int) ^ k).natAbs < DL) := ⟨sm_iff.1 (Ref.sm_pow (by omega))⟩
  have HP0 : Aside0 ((10 : Int) ^ k ≠ 0) := ⟨by have := pow10_pos k; omega⟩
  have HM : Aside0 (opR (· * ·) (tx r.num) (tx (10 ^ k)) = teI (r.num * 10 ^ k)) := ⟨opR_tx _ hr.1 HPD.out⟩
  clear hT hv hr hk
  go_enter Tryz.func69, Tryz.ntmps69
  go_wp2_with fail
  have HR0 := Aside0.mk (RG.start w false (tx r.num) (tx r.den))
  have HZ0 := Aside0.mk (RG_size w (.cells #[.string (tx r.num), .string (tx r.den)] 23) (.cells #[.string ⟨#[]⟩, .string ⟨#[]⟩] 23) (.cells #[.bool false] 78))
  generalize (((w.alloc (.cells #[.string (tx r.num), .string (tx r.den)] 23)).alloc (.cells #[.string ⟨#[]⟩, .string ⟨#[]⟩] 23)).alloc (.cells #[.bool false] 78)) = W0 at *
  have hl := alloc_here W0 (.cells #[.string (tx r.num), .string (tx r.den)] 23)
  rw [HZ0.out] at hl
  have HR1 := Aside0.mk (HR0.out.next (below_alloc (Below.refl _ W0) (.cells #[.string (tx r.num), .string (tx r.den)] 23)))
  refine (check1_calls w _ _ _ false (tx r.num) (tx r.den) HR1.out.wk hl HT.out HR1.out.bl (by omega) (by omega)).mono ?_
  rintro e W2 ⟨rfl, hw2, hg2⟩
  rw [HV.out] at hw2
  have hr2 := HR1.out.grown hw2 hg2
  have HR2 : Aside0 (RG w W2 false (tx r.num) (tx r.den) ⟨#[]⟩ ⟨#[]⟩) := ⟨hr2⟩
  have hc := HR2.out.wk.cell
  have hf := hr2.wk.frozen
  obtain ⟨c0, c1, e0, e1⟩ := pair_facts hr2.pa
  obtain ⟨d0, d1, g0, g1⟩ := pair_facts hr2.pr
  clear hl hw2 hg2 hr2 HR0 HZ0 HR1
  go_wp2_with fail
  refine (Tryz.strings_Repeat ⟨#[48]⟩ k _ (by have := HK.out; omega) (by show 1 * k ≤ _; have := HK.out; omega)).mono ?_
  rintro e W3 ⟨rfl, hb3⟩
  have hr3 := HR2.out.next hb3
  have HR3 := Aside0.mk hr3
  have hc := hr3.wk.cell
  have hf := hr3.wk.frozen
  obtain ⟨c0, c1, e0, e1⟩ := pair_facts hr3.pa
  obtain ⟨d0, d1, g0, g1⟩ := pair_facts hr3.pr
  have HTP := Aside0.mk (tx_pow k)
  have hl48 : (⟨#[48]⟩ : ByteArray).data.toList = [48] := rfl
  rw [hl48]
  obtain ⟨rp, hrp⟩ : ∃ rp : ByteArray, (⟨(Lib.repeatL [48] k).toArray⟩ : ByteArray) = rp := ⟨_, rfl⟩
  rw [hrp] at HTP ⊢
  have hrs : rp.size ≤ 30 := by
    rw [← hrp, Lib.size_eq]
    have := HK.out
    rw [show (⟨(Lib.repeatL [48] k).toArray⟩ : ByteArray).data.toList = Lib.repeatL [48] k by simp, Lib.repeatL_length]; simp; omega
  clear hb3 hr3 hl48 hrp
  go_wp2_with fail
  rw [HTP.out]
  refine (wmul_calls W3 _ false (tx r.num) (tx (10 ^ k)) HR3.out.wk (tabB HT.out HR3.out.bl)).mono ?_
  rintro e W4 ⟨rfl, hw4, hg4⟩
  rw [HM.out] at hw4 ⊢
  have hr4 := HR3.out.grown hw4 hg4
  rw [doB_te] at hr4
  cases hz : sm (r.num * 10 ^ k)
  · rw [hz] at hr4
    have HR4 : Aside0 (RG w W4 true (tx r.num) (tx r.den) ⟨#[]⟩ ⟨#[]⟩) := ⟨hr4⟩
    have HE : Aside0 (rgrid up r k = none) := ⟨by unfold rgrid; rw [hz]; rfl⟩
    have hc := HR4.out.wk.cell
    have hf := hr4.wk.frozen
    obtain ⟨d0, d1, g0, g1⟩ := pair_facts hr4.pr
    generalize doR false (teI (r.num * 10 ^ k)) = n at *
    generalize tx (10 ^ k) = tp at *
    clear hw4 hg4 hr4 hz
    go_wp2_with fail
    have HR5 := Aside0.mk (HR4.out.set ⟨#[]⟩ ⟨#[]⟩)
    refine bodyPost_ret (results_list (rs := [.cell _ _, .tmp _]) rfl (by simp) (.cell (w.heap.size + 1) 23 _ (0, 0) _ rfl HR5.out.pr Tryz.underlying23 rfl (by kernel_rfl) (.tmp .nil))) rfl ?_
    exact ⟨by rw [HE.out]; rfl, HR5.out.bl⟩
  · rw [hz] at hr4
    rw [doR_te hz]
    have HR4 : Aside0 (RG w W4 false (tx r.num) (tx r.den) ⟨#[]⟩ ⟨#[]⟩) := ⟨hr4⟩
    have HZ := Aside0.mk hz
    have hc := HR4.out.wk.cell
    have hf := hr4.wk.frozen
    obtain ⟨c0, c1, e0, e1⟩ := pair_facts hr4.pa
    obtain ⟨d0, d1, g0, g1⟩ := pair_facts hr4.pr
    have HD := Aside0.mk (divV_tx (sm_iff.1 hz) (den_lt HR.out) (rat_pos r))
    have HQ := Aside0.mk (Ref.sm_ediv (y := r.den) hz)
    have HRE := Aside0.mk (tx_zero (x := r.num * 10 ^ k % r.den))
    have HUP := Aside0.mk (fun h => Ref.sm_up (y := r.den) hz (rat_pos r) h)
    have HG : Aside0 (∀ u, rgrid u r k = some (Rat.divInt (r.num * 10 ^ k / r.den + if u && decide (r.num * 10 ^ k % r.den ≠ 0) then 1 else 0) (10 ^ k))) := ⟨fun u => by unfold rgrid; rw [hz]; rfl⟩
    clear hw4 hg4 hr4 hz
    go_wp2_with fail
    refine (div_calls (tx (r.num * 10 ^ k)) (tx r.den) _ (tabB HT.out HR4.out.bl)).mono ?_
    rintro e W5 ⟨rfl, hb5⟩
    rw [HD.out]
    have hr5 := HR4.out.next hb5
    have HR5 := Aside0.mk hr5
    have hc := hr5.wk.cell
    have hf := hr5.wk.frozen
    clear hb5 hr5
    have HRX := Aside0.mk (HR5.out.good false)
    generalize r.num * 10 ^ k / r.den = q at *
    have HRE := HRE.out
    cases up
    · obtain ⟨rest, hrest⟩ : ∃ x, tx (r.num * 10 ^ k % r.den) = x := ⟨_, rfl⟩
      rw [hrest] at HRE ⊢
      have HRE := Aside0.mk HRE
      clear hrest
      go_wp2_with fail
      refine (red_calls w _ _ q (10 ^ k) HRX.out.wk (sm_iff.1 HQ.out) HPD.out HT.out HRX.out.bl (by omega)).mono ?_
      rintro e W7 ⟨rfl, hg7⟩
      have hbl5 := HRX.out.bl.grown hg7 HRX.out.bl.size (fun k e => by injection e with e; omega)
      have hpr5 := (hg7.block _ (blk_lt HRX.out.pr) (by intro e; injection e with e; omega)).trans HRX.out.pr
      have HBL := Aside0.mk hbl5
      have HPR := Aside0.mk hpr5
      obtain ⟨k0, k1, m0, m1⟩ := pair_facts hpr5
      have HE : Aside0 (mkV q (10 ^ k) = ratO (rgrid false r k)) := ⟨by rw [HG.out, mkV_ratO, mk2, if_neg HP0.out]; simp⟩
      obtain ⟨r1, r2, er, hr⟩ := mkV_rat q (10 ^ k)
      rw [hr] at HE ⊢
      unfold ratV
      clear hg7 hbl5 hpr5 hr
      go_wp2_with fail
      refine bodyPost_ret (results_list (rs := [.cell _ _, .tmp _]) rfl (by simp) (.cell (w.heap.size + 1) 23 _ (0, 0) _ rfl (blk_set (blk_set HPR.out 0 (.string r1)) 1 (.string r2)) Tryz.underlying23 rfl (by kernel_rfl) (.tmp .nil))) rfl ?_
      exact ⟨by rw [← HE.out]; rfl, (HBL.out.setCell (p := ⟨w.heap.size + 1, 0, none⟩) (by show _ ≤ w.heap.size + 1; omega) _).setCell (p := ⟨w.heap.size + 1, 1, none⟩) (by show _ ≤ w.heap.size + 1; omega) _⟩
    · by_cases hr0 : r.num * 10 ^ k % r.den = 0
      · have er := HRE.1 hr0
        have HR0 := Aside0.mk hr0
        generalize tx (r.num * 10 ^ k % r.den) = rest at *
        clear hr0 HRE
        go_wp2_with fail
        refine (red_calls w _ _ q (10 ^ k) HRX.out.wk (sm_iff.1 HQ.out) HPD.out HT.out HRX.out.bl (by omega)).mono ?_
        rintro e W7 ⟨rfl, hg7⟩
        have hbl5 := HRX.out.bl.grown hg7 HRX.out.bl.size (fun k e => by injection e with e; omega)
        have hpr5 := (hg7.block _ (blk_lt HRX.out.pr) (by intro e; injection e with e; omega)).trans HRX.out.pr
        have HBL := Aside0.mk hbl5
        have HPR := Aside0.mk hpr5
        obtain ⟨k0, k1, m0, m1⟩ := pair_facts hpr5
        have HE : Aside0 (mkV q (10 ^ k) = ratO (rgrid true r k)) := ⟨by rw [HG.out, mkV_ratO, mk2, if_neg HP0.out, HR0.out]; simp⟩
        obtain ⟨r1, r2, er, hr⟩ := mkV_rat q (10 ^ k)
        rw [hr] at HE ⊢
        unfold ratV
        clear hg7 hbl5 hpr5 hr
        go_wp2_with fail
        refine bodyPost_ret (results_list (rs := [.cell _ _, .tmp _]) rfl (by simp) (.cell (w.heap.size + 1) 23 _ (0, 0) _ rfl (blk_set (blk_set HPR.out 0 (.string r1)) 1 (.string r2)) Tryz.underlying23 rfl (by kernel_rfl) (.tmp .nil))) rfl ?_
        exact ⟨by rw [← HE.out]; rfl, (HBL.out.setCell (p := ⟨w.heap.size + 1, 0, none⟩) (by show _ ≤ w.heap.size + 1; omega) _).setCell (p := ⟨w.heap.size + 1, 1, none⟩) (by show _ ≤ w.heap.size + 1; omega) _⟩
      · have er := HRE.2 hr0
        have HR0 := Aside0.mk hr0
        generalize tx (r.num * 10 ^ k % r.den) = rest at *
        clear hr0 HRE
        have HO : Aside0 (opR (· + ·) (tx q) ⟨#[49]⟩ = (tx (q + 1), 0)) := ⟨by rw [← tx_1, opR_tx _ (sm_iff.1 HQ.out) (show (1 : Int).natAbs < DL from DL_one), teI_ok (sm_iff.1 (HUP.out HR0.out))]⟩
        go_wp2_with fail
        refine (do_calls _ _ op_add _ _ false (tx q) ⟨#[49]⟩ HRX.out.wk (tabB HT.out HRX.out.bl)).mono ?_
        rintro e W6 ⟨rfl, hw6, hg6⟩
        rw [HO.out] at hw6 ⊢
        have hr6 : RG w W6 false (tx r.num) (tx r.den) ⟨#[]⟩ ⟨#[]⟩ := HRX.out.grown hw6 hg6
        clear HRX
        have HRX := Aside0.mk hr6
        rw [show doR false (tx (q + 1), 0) = tx (q + 1) from rfl]
        clear hw6 hg6 hr6
        go_wp2_with fail
        refine (red_calls w _ _ (q + 1) (10 ^ k) HRX.out.wk (sm_iff.1 (HUP.out HR0.out)) HPD.out HT.out HRX.out.bl (by omega)).mono ?_
        rintro e W7 ⟨rfl, hg7⟩
        have hbl5 := HRX.out.bl.grown hg7 HRX.out.bl.size (fun k e => by injection e with e; omega)
        have hpr5 := (hg7.block _ (blk_lt HRX.out.pr) (by intro e; injection e with e; omega)).trans HRX.out.pr
        have HBL := Aside0.mk hbl5
        have HPR := Aside0.mk hpr5
        obtain ⟨k0, k1, m0, m1⟩ := pair_facts hpr5
        have HE : Aside0 (mkV (q + 1) (10 ^ k) = ratO (rgrid true r k)) := ⟨by rw [HG.out, mkV_ratO, mk2, if_neg HP0.out, show decide (r.num * 10 ^ k % ↑r.den ≠ 0) = true from decide_eq_true HR0.out]; simp⟩
        obtain ⟨r1, r2, er, hr⟩ := mkV_rat (q + 1) (10 ^ k)
        rw [hr] at HE ⊢
        unfold ratV
        clear hg7 hbl5 hpr5 hr
        go_wp2_with fail
        refine bodyPost_ret (results_list (rs := [.cell _ _, .tmp _]) rfl (by simp) (.cell (w.heap.size + 1) 23 _ (0, 0) _ rfl (blk_set (blk_set HPR.out 0 (.string r1)) 1 (.string r2)) Tryz.underlying23 rfl (by kernel_rfl) (.tmp .nil))) rfl ?_
        exact ⟨by rw [← HE.out]; rfl, (HBL.out.setCell (p := ⟨w.heap.size + 1, 0, none⟩) (by show _ ≤ w.heap.size + 1; omega) _).setCell (p := ⟨w.heap.size + 1, 1, none⟩) (by show _ ≤ w.heap.size + 1; omega) _⟩

/-- round -/
theorem round_calls (s t : ByteArray) (p : Int) (up : Bool) (w : World) (hT : Tab w) :
    Calls Tryz.prog 69 #[.agg #[.string s, .string t], .int .i64 p, .bool up] w fun e w' => e = .returned (ratO (Ref.rgridP up (rvalB s t) p)) ∧ Below w.heap.size w w' := by
  by_cases hp : 0 ≤ p ∧ p ≤ 30
  · obtain ⟨k, rfl⟩ : ∃ k : Nat, p = k := ⟨p.toNat, by omega⟩
    cases hv : rvalB s t with
    | none => exact round_bad1 s t k up w hT _ (decide_eq_false (by omega)) rfl (by rw [rvalid_rval]; unfold rvalB at hv; rw [hv]; simp)
    | some r =>
      have := round_ok s t r k up w hT (by omega) hv
      unfold Ref.rgridP
      simp only [if_pos hp, Int.toNat_natCast]
      exact this
  · have e : Ref.rgridP up (rvalB s t) p = none := by
      unfold Ref.rgridP
      cases rvalB s t with
      | none => rfl
      | some r => exact if_neg hp
    rw [e]
    by_cases h0 : p < 0
    · exact round_lo s t p up w hT (decide_eq_true h0)
    · exact round_bad1 s t p up w hT _ (decide_eq_false h0) rfl (by rw [decide_eq_true (show 30 < p by omega)]; rfl)
theorem ratO_rat (o : Option Rat) : ∃ a c e, ratO o = ratV a c e := by cases o <;> exact ⟨_, _, _, rfl⟩
/-- a box, and the result's -/
structure R2b (w W : World) (r1 r2 : ByteArray) : Prop where
  bl : Below w.heap.size w W
  pr : W.heap[w.heap.size + 1]? = some (.cells #[.string r1, .string r2] 23)
theorem R2b.next {w W W' : World} {r1 r2 : ByteArray} (h : R2b w W r1 r2) (hb : Below W.heap.size W W') : R2b w W' r1 r2 :=
  ⟨h.bl.trans (hb.mono h.bl.size), (hb.block _ (blk_lt h.pr)).trans h.pr⟩
theorem R2b.start (w : World) (s t : ByteArray) : R2b w ((w.alloc (.cells #[.string s, .string t] 23)).alloc (.cells #[.string ⟨#[]⟩, .string ⟨#[]⟩] 23)) ⟨#[]⟩ ⟨#[]⟩ := by
  have e : w.heap.size + 1 = (w.alloc (.cells #[.string s, .string t] 23)).heap.size := by simp only [World.size_alloc]
  refine ⟨(((Below.refl _ w).alloc (Nat.le_refl _) _).alloc (by simp only [World.size_alloc]; omega) _), ?_⟩
  rw [e]; exact alloc_here _ _
theorem R2b.set {w W : World} {r1 r2 : ByteArray} (h : R2b w W r1 r2) (s' t' : ByteArray) : R2b w ((W.setCell ⟨w.heap.size + 1, 0, none⟩ (.string s')).setCell ⟨w.heap.size + 1, 1, none⟩ (.string t')) s' t' :=
  ⟨(h.bl.setCell (p := ⟨w.heap.size + 1, 0, none⟩) (by show _ ≤ w.heap.size + 1; omega) _).setCell (p := ⟨w.heap.size + 1, 1, none⟩) (by show _ ≤ w.heap.size + 1; omega) _, blk_set (blk_set h.pr 0 (.string s')) 1 _⟩

set_option maxRecDepth 100000 in
set_option maxHeartbeats 4000000 in
/-- Down -/
theorem rdown_calls (s t : ByteArray) (p : Int) (w : World) (hT : Tab w) :
    Calls Tryz.prog 35 #[.agg #[.string s, .string t], .int .i64 p] w fun e w' => e = .returned (ratO (Ref.rgridP false (rvalB s t) p)) ∧ Below w.heap.size w w' := by
  have HT := Aside0.mk hT
  clear hT
  go_enter Tryz.func35, Tryz.ntmps35
  go_wp2_with fail
  have HR0 := Aside0.mk (R2b.start w s t)
  generalize ((w.alloc (.cells #[.string s, .string t] 23)).alloc (.cells #[.string ⟨#[]⟩, .string ⟨#[]⟩] 23)) = W0 at *
  refine (round_calls s t p false W0 (tabB HT.out HR0.out.bl)).mono ?_
  rintro e w1 ⟨rfl, hb1⟩
  have HR1 := Aside0.mk (HR0.out.next hb1)
  obtain ⟨c0, c1, f0, f1⟩ := pair_facts HR1.out.pr
  obtain ⟨r1, r2, er, hr⟩ := ratO_rat (Ref.rgridP false (rvalB s t) p)
  have HR := Aside0.mk hr
  rw [hr]
  unfold ratV
  clear hb1 hr
  go_wp2_with fail
  have HR5 := Aside0.mk (HR1.out.set r1 r2)
  refine bodyPost_ret (results_list (rs := [.cell _ _, .tmp _]) rfl (by simp) (.cell (w.heap.size + 1) 23 _ (0, 0) _ rfl HR5.out.pr Tryz.underlying23 rfl (by kernel_rfl) (.tmp .nil))) rfl ?_
  exact ⟨by rw [HR.out]; rfl, HR5.out.bl⟩

set_option maxRecDepth 100000 in
set_option maxHeartbeats 4000000 in
/-- Up -/
theorem rup_calls (s t : ByteArray) (p : Int) (w : World) (hT : Tab w) :
    Calls Tryz.prog 37 #[.agg #[.string s, .string t], .int .i64 p] w fun e w' => e = .returned (ratO (Ref.rgridP true (rvalB s t) p)) ∧ Below w.heap.size w w' := by
  have HT := Aside0.mk hT
  clear hT
  go_enter Tryz.func37, Tryz.ntmps37
  go_wp2_with fail
  have HR0 := Aside0.mk (R2b.start w s t)
  generalize ((w.alloc (.cells #[.string s, .string t] 23)).alloc (.cells #[.string ⟨#[]⟩, .string ⟨#[]⟩] 23)) = W0 at *
  refine (round_calls s t p true W0 (tabB HT.out HR0.out.bl)).mono ?_
  rintro e w1 ⟨rfl, hb1⟩
  have HR1 := Aside0.mk (HR0.out.next hb1)
  obtain ⟨c0, c1, f0, f1⟩ := pair_facts HR1.out.pr
  obtain ⟨r1, r2, er, hr⟩ := ratO_rat (Ref.rgridP true (rvalB s t) p)
  have HR := Aside0.mk hr
  rw [hr]
  unfold ratV
  clear hb1 hr
  go_wp2_with fail
  have HR5 := Aside0.mk (HR1.out.set r1 r2)
  refine bodyPost_ret (results_list (rs := [.cell _ _, .tmp _]) rfl (by simp) (.cell (w.heap.size + 1) 23 _ (0, 0) _ rfl HR5.out.pr Tryz.underlying23 rfl (by kernel_rfl) (.tmp .nil))) rfl ?_
  exact ⟨by rw [HR.out]; rfl, HR5.out.bl⟩

end Go.Proofs.YtnhjidbjibehpaaGreatDoor.L4

/- Layer 4, walked: Print, Parse. -/
namespace Go.Proofs.YtnhjidbjibehpaaGreatDoor.L4
open Go.Shelf Go.RowKit Go.Proofs.YtnhjidbjibehpaaGreatDoorW.PrintWords Go.Proofs.YtnhjidbjibehpaaGreatDoorW.PrintLast Go.Proofs.YtnhjidbjibehpaaGreatDoorW.PrintMore Yd L3
set_option linter.unusedVariables false
set_option linter.unusedSimpArgs false
attribute [local go_sem ↓] Go.wp_at_zero Go.wp_at_succ

theorem cut_cutS : ∀ l : List UInt8, Lib.cut l [47] = ((cutS l).1, (cutS l).2.getD [], (cutS l).2.isSome)
  | [] => by unfold Lib.cut Lib.index; rfl
  | b :: l => by
    have ih := cut_cutS l
    by_cases hb : b = 47
    · subst hb
      unfold Lib.cut Lib.index cutS
      rw [if_pos rfl]; simp
    · have hp : ([47] : List UInt8).isPrefixOf (b :: l) = false := by
        simp [List.isPrefixOf]; exact fun h => hb h.symm
      have hi : Lib.index (b :: l) [47] = if Lib.index l [47] == -1 then -1 else Lib.index l [47] + 1 := by
        rw [Lib.index, hp]; rfl
      have hge := Lib.index_ge l [47]
      rw [cutS, if_neg hb]
      unfold Lib.cut at ih ⊢
      rw [hi]
      by_cases h1 : Lib.index l [47] = -1
      · rw [h1] at ih ⊢
        simp only [show ¬ (0 ≤ (-1 : Int)) by omega, if_false, beq_self_eq_true, if_true] at ih ⊢
        simp only [Prod.mk.injEq] at ih ⊢
        exact ⟨by rw [← ih.1], ih.2.1, ih.2.2⟩
      · have h0 : 0 ≤ Lib.index l [47] := by omega
        have hb1 : (Lib.index l [47] == -1) = false := by simpa using h1
        rw [if_pos h0] at ih
        simp only [hb1, Bool.false_eq_true, if_false, if_pos (show 0 ≤ Lib.index l [47] + 1 by omega)]
        simp only [Prod.mk.injEq] at ih ⊢
        rw [show (Lib.index l [47] + 1).toNat = (Lib.index l [47]).toNat + 1 by omega]
        refine ⟨by rw [List.take_succ_cons, ih.1], ?_, ih.2.2⟩
        rw [← ih.2.1, show (Lib.index l [47]).toNat + 1 + ([47] : List UInt8).length = ((Lib.index l [47]).toNat + ([47] : List UInt8).length) + 1 by omega, List.drop_succ_cons]

/-- a box -/
structure R1 (w W : World) (s t : ByteArray) : Prop where
  bl : Below w.heap.size w W
  pa : W.heap[w.heap.size]? = some (.cells #[.string s, .string t] 23)
theorem R1.next {w W W' : World} {s t : ByteArray} (h : R1 w W s t) (hb : Below W.heap.size W W') : R1 w W' s t := ⟨h.bl.trans (hb.mono h.bl.size), (hb.block _ (blk_lt h.pa)).trans h.pa⟩
theorem R1.start (w : World) (s t : ByteArray) : R1 w (w.alloc (.cells #[.string s, .string t] 23)) s t := ⟨below_alloc (Below.refl _ w) _, alloc_here w _⟩
theorem join2 (a b : List UInt8) : Lib.join [a, b] [47] = a ++ 47 :: b := by unfold Lib.join; simp
theorem tx_size {x : Int} (h : x.natAbs < DL) : (tx x).size ≤ 201 := Ref.itx_size h

set_option maxRecDepth 100000 in
set_option maxHeartbeats 4000000 in
/-- Print -/
theorem rprint_calls (s t : ByteArray) (w : World) (hT : Tab w) :
    Calls Tryz.prog 14 #[.agg #[.string s, .string t]] w fun e w' => e = .returned (.string (Ref.strL (rprintO (rvalB s t)))) ∧ Below w.heap.size w w' := by
  obtain ⟨res, hres⟩ : ∃ res, Ref.strL (rprintO (rvalB s t)) = res := ⟨_, rfl⟩
  rw [hres]
  have HRES := Aside0.mk hres
  clear hres
  have HT := Aside0.mk hT
  clear hT
  go_enter Tryz.func14, Tryz.ntmps14
  go_wp2_with fail
  have HR0 := Aside0.mk (R1.start w s t)
  generalize w.alloc (.cells #[.string s, .string t] 23) = W0 at *
  obtain ⟨c0, c1, f0, f1⟩ := pair_facts HR0.out.pa
  refine (rvalid_calls s t _ (tabB HT.out HR0.out.bl)).mono ?_
  rintro e w1 ⟨rfl, hb1⟩
  have HR1 := Aside0.mk (HR0.out.next hb1)
  obtain ⟨c0, c1, f0, f1⟩ := pair_facts HR1.out.pa
  clear hb1 HR0
  rw [rvalid_rval]
  cases hv : rval s.data.toList t.data.toList with
  | none =>
    simp only [Option.isSome_none]
    have HE : Aside0 (res = ⟨#[]⟩) := ⟨by rw [← HRES.out, show rvalB s t = none from hv]; rfl⟩
    clear hv
    go_wp2_with fail
    go_ret
    exact ⟨by rw [HE.out]; rfl, HR1.out.bl⟩
  | some r =>
    simp only [Option.isSome_some]
    have hv' : rvalB s t = some r := hv
    obtain ⟨rfl, rfl, hr⟩ := rvalB_eq hv'
    have HR := Aside0.mk hr
    have HE : Aside0 (res = Ref.strL (rprint r)) := ⟨by rw [← HRES.out, hv']; rfl⟩
    have h1 : ((tx (r.den : Int)).toList == [49]) = decide (r.den = 1) := by
      rw [tx_list, Bool.eq_iff_iff, beq_iff_eq, decide_eq_true_iff, itoa_1_iff]; omega
    have HN := Aside0.mk (show (tx r.num).size ≤ 201 from tx_size hr.1)
    have HD := Aside0.mk (show (tx (r.den : Int)).size ≤ 201 from tx_size (den_lt hr))
    have HJ : Aside0 ((⟨(Lib.join ([tx r.num, tx r.den].map (·.data.toList)) (⟨#[47]⟩ : ByteArray).data.toList).toArray⟩ : ByteArray) = Ref.strL (Lib.itoa r.num ++ 47 :: Lib.itoa r.den)) := ⟨by
      show (⟨(Lib.join [(tx r.num).data.toList, (tx r.den).data.toList] [47]).toArray⟩ : ByteArray) = _
      rw [join2, tx_data, tx_data]; rfl⟩
    clear hv hv' hr HRES
    by_cases hd : r.den = 1
    · rw [decide_eq_true hd] at h1
      have HE2 : Aside0 (res = tx r.num) := ⟨by rw [HE.out]; unfold rprint; rw [if_pos hd]; rfl⟩
      generalize tx (r.den : Int) = td at *
      clear hd
      go_wp2_with fail
      go_ret
      exact ⟨by rw [HE2.out]; rfl, HR1.out.bl⟩
    · rw [decide_eq_false hd] at h1
      have HE2 : Aside0 (res = Ref.strL (Lib.itoa r.num ++ 47 :: Lib.itoa r.den)) := ⟨by rw [HE.out]; unfold rprint; rw [if_neg hd]⟩
      have HJL : Aside0 ((Lib.join ([tx r.num, tx r.den].map (·.data.toList)) (⟨#[47]⟩ : ByteArray).data.toList).length ≤ 1000) := ⟨by
        have e := congrArg (fun b : ByteArray => b.data.toList.length) HJ.out
        simp only [Ref.strL_data] at e
        have e1 := HN.out
        have e2 := HD.out
        rw [Ref.size_len, tx_data] at e1 e2
        have e3 : (Lib.itoa r.num ++ 47 :: Lib.itoa r.den).length = (Lib.itoa r.num).length + ((Lib.itoa r.den).length + 1) := by simp
        show (Lib.join ([tx r.num, tx r.den].map (·.data.toList)) (⟨#[47]⟩ : ByteArray).data.toList).length ≤ 1000
        have e4 : (⟨(Lib.join ([tx r.num, tx r.den].map (·.data.toList)) (⟨#[47]⟩ : ByteArray).data.toList).toArray⟩ : ByteArray).data.toList.length = (Lib.join ([tx r.num, tx r.den].map (·.data.toList)) (⟨#[47]⟩ : ByteArray).data.toList).length := by simp
        rw [← e4, e, e3]; omega⟩
      generalize tx r.num = tn at *
      generalize tx (r.den : Int) = td at *
      clear hd
      go_wp2_with fail
      have hl := alloc_here w1 (.cells #[.string tn, .string td] 9)
      have HB2 := Aside0.mk (HR1.out.next (below_alloc (Below.refl _ w1) (.cells #[.string tn, .string td] 9)))
      refine (Tryz.strings_Join w1.heap.size 0 2 [tn, td] ⟨#[47]⟩ _ (fun j x hx => by
        match j, hx with
        | 0, hx => injection hx with hx; subst hx; exact blk_cell hl 0
        | 1, hx => injection hx with hx; subst hx; exact blk_cell hl 1
        | j + 2, hx => cases hx) (blk_lt hl) (by simp) (by simp) (Nat.le_trans HJL.out (by omega))).mono ?_
      rintro e w2 ⟨rfl, hb2⟩
      have HB3 := Aside0.mk (HB2.out.next hb2)
      rw [HJ.out]
      clear hb2 hl
      rw [← HE2.out]
      go_wp2_with fail
      go_ret
      exact ⟨rfl, HB3.out.bl⟩

/-- the world's first variable (the length from which the runtime searches otherwise) -/
def Mx (w : World) : Prop := 0 < w.heap.size ∧ ∃ m, w.cell? ⟨0, 0, none⟩ = some (.int .i64 m)
theorem Mx.below {w w' : World} (h : Mx w) (hb : Below w.heap.size w w') : Mx w' := by
  obtain ⟨h0, m, hm⟩ := h
  exact ⟨Nat.lt_of_lt_of_le h0 hb.size, m, (hb.cell (p := ⟨0, 0, none⟩) h0).trans hm⟩
/-- what Parse returns -/
theorem rprint_ne (r : Rat) : rprint r ≠ [] := by
  unfold rprint
  split
  · exact itoa_ne _
  · simp
theorem R2.setb0 {w W : World} {s1 t1 s2 t2 : ByteArray} (h : R2 w W s1 t1 s2 t2) (a : ByteArray) : R2 w (W.setCell ⟨w.heap.size + 1, 0, none⟩ (.string a)) s1 t1 a t2 :=
  ⟨h.bl.setCell (p := ⟨w.heap.size + 1, 0, none⟩) (by show _ ≤ w.heap.size + 1; omega) _, (Below.heap_setCell _ ⟨w.heap.size + 1, 0, none⟩ _ _ (by show w.heap.size ≠ w.heap.size + 1; omega)).trans h.pa, blk_set h.pb 0 _⟩
theorem R2.setb1 {w W : World} {s1 t1 s2 t2 : ByteArray} (h : R2 w W s1 t1 s2 t2) (a : ByteArray) : R2 w (W.setCell ⟨w.heap.size + 1, 1, none⟩ (.string a)) s1 t1 s2 a :=
  ⟨h.bl.setCell (p := ⟨w.heap.size + 1, 1, none⟩) (by show _ ≤ w.heap.size + 1; omega) _, (Below.heap_setCell _ ⟨w.heap.size + 1, 1, none⟩ _ _ (by show w.heap.size ≠ w.heap.size + 1; omega)).trans h.pa, blk_set h.pb 1 _⟩
theorem R2.seta {w W : World} {s1 t1 s2 t2 : ByteArray} (h : R2 w W s1 t1 s2 t2) (a b : ByteArray) : R2 w ((W.setCell ⟨w.heap.size, 0, none⟩ (.string a)).setCell ⟨w.heap.size, 1, none⟩ (.string b)) a b s2 t2 :=
  ⟨(h.bl.setCell (p := ⟨w.heap.size, 0, none⟩) (Nat.le_refl _) _).setCell (p := ⟨w.heap.size, 1, none⟩) (Nat.le_refl _) _, blk_set (blk_set h.pa 0 (.string a)) 1 _,
    ((Below.heap_setCell _ ⟨w.heap.size, 1, none⟩ _ _ (by show w.heap.size + 1 ≠ w.heap.size; omega)).trans (Below.heap_setCell _ ⟨w.heap.size, 0, none⟩ _ _ (by show w.heap.size + 1 ≠ w.heap.size; omega))).trans h.pb⟩
theorem rparse_eq (l : List UInt8) : rparse l = match rval (cutS l).1 ((cutS l).2.getD [49]) with
    | some r => if rprint r = l then some r else none
    | none => none := rfl

theorem parse_bad {s a d pr : ByteArray} {res : Value} (h : ratO (rparse s.data.toList) = res) (hc : rvalB a d = rval (cutS s.data.toList).1 ((cutS s.data.toList).2.getD [49])) (hp : Ref.strL (rprintO (rvalB a d)) = pr)
    (hb : pr.toList ≠ s.toList ∨ s.toList = []) : res = badR := by
  rw [← h, rparse_eq, ← hc]
  cases hv : rvalB a d with
  | none => rfl
  | some r =>
    simp only []
    rw [if_neg]
    · rfl
    · intro he
      rw [hv] at hp
      have hp' : pr.toList = rprint r := by rw [← hp, Ref.tl_data, Ref.strL_data]; rfl
      rcases hb with hb | hb
      · exact hb (by rw [hp', he, Ref.tl_data])
      · rw [Ref.tl_data] at hb
        exact rprint_ne r (he.trans hb)
theorem parse_good {s a d pr : ByteArray} {res : Value} (h : ratO (rparse s.data.toList) = res) (hc : rvalB a d = rval (cutS s.data.toList).1 ((cutS s.data.toList).2.getD [49])) (hp : Ref.strL (rprintO (rvalB a d)) = pr)
    (h1 : pr.toList = s.toList) (h2 : s.toList ≠ []) : res = ratV a d 0 := by
  rw [← h, rparse_eq, ← hc]
  cases hv : rvalB a d with
  | none =>
    exfalso
    rw [hv] at hp
    apply h2
    rw [← h1, ← hp, Ref.tl_data, Ref.strL_data]; rfl
  | some r =>
    rw [hv] at hp
    have hp' : pr.toList = rprint r := by rw [← hp, Ref.tl_data, Ref.strL_data]; rfl
    simp only []
    rw [if_pos (by rw [← hp', h1, Ref.tl_data])]
    obtain ⟨rfl, rfl, _⟩ := rvalB_eq hv
    rfl

set_option maxRecDepth 100000 in
set_option maxHeartbeats 4000000 in
/-- Parse -/
theorem rparse_calls (s : ByteArray) (w : World) (hT : Tab w) (hM : Mx w) (hs : s.size < 4294967281) :
    Calls Tryz.prog 15 #[.string s] w fun e w' => e = .returned (ratO (rparse s.data.toList)) ∧ Below w.heap.size w w' := by
  have HT := Aside0.mk hT
  have HM := Aside0.mk hM
  have HS := Aside0.mk hs
  obtain ⟨res, hres⟩ : ∃ res, ratO (rparse s.data.toList) = res := ⟨_, rfl⟩
  rw [hres]
  have HRES := Aside0.mk hres
  clear hT hM hs hres
  go_enter Tryz.func15, Tryz.ntmps15
  go_wp2_with fail
  have HR0 := Aside0.mk (R2.start w ⟨#[]⟩ ⟨#[]⟩ ⟨#[]⟩ ⟨#[49]⟩)
  generalize ((w.alloc (.cells #[.string ⟨#[]⟩, .string ⟨#[]⟩] 23)).alloc (.cells #[.string ⟨#[]⟩, .string ⟨#[49]⟩] 23)) = W0 at *
  obtain ⟨h00, m, hm⟩ := HM.out.below HR0.out.bl
  refine (Tryz.strings_Cut s ⟨#[47]⟩ m _ HS.out hm).mono ?_
  rintro e w1 ⟨rfl, nq, rfl⟩
  have hr1 := HR0.out.next (pw_below_drewN (Below.refl _ W0) nq)
  generalize W0.drewN nq = W1 at *
  have HR1 := Aside0.mk hr1
  obtain ⟨c0, c1, f0, f1⟩ := pair_facts hr1.pa
  obtain ⟨d0, d1, g0, g1⟩ := pair_facts hr1.pb
  rw [show (⟨#[47]⟩ : ByteArray).data.toList = [47] from rfl, cut_cutS]
  obtain ⟨a, ha⟩ : ∃ a : ByteArray, (⟨(cutS s.data.toList).1.toArray⟩ : ByteArray) = a := ⟨_, rfl⟩
  have HA := Aside0.mk ha
  clear hm hr1 h00 HR0
  simp only [] at ha ⊢
  rw [ha]
  clear ha
  cases hc : (cutS s.data.toList).2 with
  | none =>
    have HC : Aside0 (rvalB a ⟨#[49]⟩ = rval (cutS s.data.toList).1 ((cutS s.data.toList).2.getD [49])) := ⟨by rw [hc, ← HA.out]; unfold rvalB; simp⟩
    simp only [Option.isSome_none, Option.getD_none]
    clear hc HA
    go_wp2_with fail
    have HR3 := Aside0.mk (HR1.out.setb0 a)
    refine (rprint_calls a ⟨#[49]⟩ _ (tabB HT.out HR3.out.bl)).mono ?_
    rintro e w4 ⟨rfl, hb4⟩
    have hr4 := HR3.out.next hb4
    have HR4 := Aside0.mk hr4
    obtain ⟨c0, c1, f0, f1⟩ := pair_facts hr4.pa
    obtain ⟨d0, d1, g0, g1⟩ := pair_facts hr4.pb
    obtain ⟨pr, hpr⟩ : ∃ pr, Ref.strL (rprintO (rvalB a ⟨#[49]⟩)) = pr := ⟨_, rfl⟩
    rw [hpr]
    have HPR := Aside0.mk hpr
    clear hb4 hr4 hpr
    by_cases h1 : pr.toList = s.toList
    · have e1 : (pr.toList != s.toList) = false := by rw [h1]; simp
      have e1' : (pr.toList == s.toList) = true := by rw [h1]; simp
      by_cases h2 : s.toList = []
      · have e2 : (s.toList == []) = true := by rw [h2]; rfl
        have e2' : s.toList.isEmpty = true := by rw [h2]; rfl
        have HX := Aside0.mk (parse_bad HRES.out HC.out HPR.out (.inr h2))
        clear h1 h2
        go_wp2_with fail
        have HR5 := Aside0.mk (HR4.out.seta ⟨#[]⟩ ⟨#[]⟩)
        refine bodyPost_ret (results_list (rs := [.cell _ _, .tmp _]) rfl (by simp) (.cell w.heap.size 23 _ (0, 0) _ rfl HR5.out.pa Tryz.underlying23 rfl (by kernel_rfl) (.tmp .nil))) rfl ?_
        exact ⟨by rw [HX.out]; rfl, HR5.out.bl⟩
      · have e2 : (s.toList == []) = false := by simpa using h2
        have e2' : s.toList.isEmpty = false := by simpa using h2
        have HX := Aside0.mk (parse_good HRES.out HC.out HPR.out h1 h2)
        clear h1 h2
        go_wp2_with fail
        have HR5 := Aside0.mk (HR4.out.seta a ⟨#[49]⟩)
        refine bodyPost_ret (results_list (rs := [.cell _ _, .tmp _]) rfl (by simp) (.cell w.heap.size 23 _ (0, 0) _ rfl HR5.out.pa Tryz.underlying23 rfl (by kernel_rfl) (.tmp .nil))) rfl ?_
        exact ⟨by rw [HX.out]; rfl, HR5.out.bl⟩
    · have e1 : (pr.toList != s.toList) = true := by simpa using h1
      have e1' : (pr.toList == s.toList) = false := by simpa using h1
      have HX := Aside0.mk (parse_bad HRES.out HC.out HPR.out (.inl h1))
      clear h1
      go_wp2_with fail
      have HR5 := Aside0.mk (HR4.out.seta ⟨#[]⟩ ⟨#[]⟩)
      refine bodyPost_ret (results_list (rs := [.cell _ _, .tmp _]) rfl (by simp) (.cell w.heap.size 23 _ (0, 0) _ rfl HR5.out.pa Tryz.underlying23 rfl (by kernel_rfl) (.tmp .nil))) rfl ?_
      exact ⟨by rw [HX.out]; rfl, HR5.out.bl⟩
  | some d0' =>
    obtain ⟨d, hd⟩ : ∃ d : ByteArray, (⟨d0'.toArray⟩ : ByteArray) = d := ⟨_, rfl⟩
    have HC : Aside0 (rvalB a d = rval (cutS s.data.toList).1 ((cutS s.data.toList).2.getD [49])) := ⟨by rw [hc, ← HA.out, ← hd]; unfold rvalB; simp⟩
    simp only [Option.isSome_some, Option.getD_some]
    rw [hd]
    clear hc HA hd
    go_wp2_with fail
    have HR3 := Aside0.mk ((HR1.out.setb0 a).setb1 d)
    refine (rprint_calls a d _ (tabB HT.out HR3.out.bl)).mono ?_
    rintro e w4 ⟨rfl, hb4⟩
    have hr4 := HR3.out.next hb4
    have HR4 := Aside0.mk hr4
    obtain ⟨c0, c1, f0, f1⟩ := pair_facts hr4.pa
    obtain ⟨d0, d1, g0, g1⟩ := pair_facts hr4.pb
    obtain ⟨pr, hpr⟩ : ∃ pr, Ref.strL (rprintO (rvalB a d)) = pr := ⟨_, rfl⟩
    rw [hpr]
    have HPR := Aside0.mk hpr
    clear hb4 hr4 hpr
    by_cases h1 : pr.toList = s.toList
    · have e1 : (pr.toList != s.toList) = false := by rw [h1]; simp
      have e1' : (pr.toList == s.toList) = true := by rw [h1]; simp
      by_cases h2 : s.toList = []
      · have e2 : (s.toList == []) = true := by rw [h2]; rfl
        have e2' : s.toList.isEmpty = true := by rw [h2]; rfl
        have HX := Aside0.mk (parse_bad HRES.out HC.out HPR.out (.inr h2))
        clear h1 h2
        go_wp2_with fail
        have HR5 := Aside0.mk (HR4.out.seta ⟨#[]⟩ ⟨#[]⟩)
        refine bodyPost_ret (results_list (rs := [.cell _ _, .tmp _]) rfl (by simp) (.cell w.heap.size 23 _ (0, 0) _ rfl HR5.out.pa Tryz.underlying23 rfl (by kernel_rfl) (.tmp .nil))) rfl ?_
        exact ⟨by rw [HX.out]; rfl, HR5.out.bl⟩
      · have e2 : (s.toList == []) = false := by simpa using h2
        have e2' : s.toList.isEmpty = false := by simpa using h2
        have HX := Aside0.mk (parse_good HRES.out HC.out HPR.out h1 h2)
        clear h1 h2
        go_wp2_with fail
        have HR5 := Aside0.mk (HR4.out.seta a d)
        refine bodyPost_ret (results_list (rs := [.cell _ _, .tmp _]) rfl (by simp) (.cell w.heap.size 23 _ (0, 0) _ rfl HR5.out.pa Tryz.underlying23 rfl (by kernel_rfl) (.tmp .nil))) rfl ?_
        exact ⟨by rw [HX.out]; rfl, HR5.out.bl⟩
    · have e1 : (pr.toList != s.toList) = true := by simpa using h1
      have e1' : (pr.toList == s.toList) = false := by simpa using h1
      have HX := Aside0.mk (parse_bad HRES.out HC.out HPR.out (.inl h1))
      clear h1
      go_wp2_with fail
      have HR5 := Aside0.mk (HR4.out.seta ⟨#[]⟩ ⟨#[]⟩)
      refine bodyPost_ret (results_list (rs := [.cell _ _, .tmp _]) rfl (by simp) (.cell w.heap.size 23 _ (0, 0) _ rfl HR5.out.pa Tryz.underlying23 rfl (by kernel_rfl) (.tmp .nil))) rfl ?_
      exact ⟨by rw [HX.out]; rfl, HR5.out.bl⟩

end Go.Proofs.YtnhjidbjibehpaaGreatDoor.L4

/- Functions of the reference, each as a plain Lean function, and that the machine's call does what it says: yardstickref04.pick, yardsticklaw04.pick, yardsticklaw04.is. -/
namespace Go.Proofs.YtnhjidbjibehpaaGreatDoor.Ref
open Go.RowKit Go.Proofs.YtnhjidbjibehpaaGreatDoorW.PrintWords Go.Proofs.YtnhjidbjibehpaaGreatDoorW.PrintLast Go.Proofs.YtnhjidbjibehpaaGreatDoorW.PrintMore
attribute [local go_sem] max2_int max_two

set_option linter.unusedVariables false
set_option linter.unusedSimpArgs false

def yardstickref04_pick.f (a0 : Int) (a1 : Int) : Option (Int) := if a0 < 0 then (if a1 = 0 then (none) else (some (Int.tmod (wrap64 (-(wrap64 (a0 + 1)))) a1))) else (if a1 = 0 then (none) else (some (Int.tmod a0 a1)))
set_option maxHeartbeats 8000000 in
set_option maxRecDepth 100000 in
theorem yardstickref04_pick.calls (a0 : Int) (a1 : Int) (r : Int) (w : World) (h : yardstickref04_pick.f a0 a1 = some r) :
    Calls Tryz.prog 46 #[.int .i64 a0, .int .i64 a1] w fun e w' => e = .returned (.int .i64 r) ∧ Drawn0 w w' := by
  have H : (if a0 < 0 then (if a1 = 0 then (none) else (some (Int.tmod (wrap64 (-(wrap64 (a0 + 1)))) a1))) else (if a1 = 0 then (none) else (some (Int.tmod a0 a1)))) = some r := h
  clear h
  by_cases c3 : a0 < 0
  · rw [if_pos c3] at H
    have c3b0 : decide (a0 < 0) = true := decide_eq_true c3
    clear c3
    by_cases c4 : a1 = 0
    · rw [if_pos c4] at H
      exact absurd H (by simp)
    · rw [if_neg c4] at H
      have c4b0 : (a1 == 0) = false := beq_eq_false_iff_ne.mpr c4
      have c4b1 : (a1 != 0) = true := bne_iff_ne.mpr c4
      obtain rfl := Option.some.inj H
      go_enter Tryz.func46, Tryz.ntmps46
      go_wp2
      go_ret
      exact ⟨by first | rfl | (simp; done) | (simp [*]; done), by repeat (first | exact Drawn0.refl _ | apply Drawn0.step)⟩
  · rw [if_neg c3] at H
    have c3b0 : decide (a0 < 0) = false := decide_eq_false c3
    clear c3
    by_cases c5 : a1 = 0
    · rw [if_pos c5] at H
      exact absurd H (by simp)
    · rw [if_neg c5] at H
      have c5b0 : (a1 == 0) = false := beq_eq_false_iff_ne.mpr c5
      have c5b1 : (a1 != 0) = true := bne_iff_ne.mpr c5
      obtain rfl := Option.some.inj H
      go_enter Tryz.func46, Tryz.ntmps46
      go_wp2
      go_ret
      exact ⟨by first | rfl | (simp; done) | (simp [*]; done), by repeat (first | exact Drawn0.refl _ | apply Drawn0.step)⟩

-- NOT PRINTED: function 12 (yardstickref04_Long)

def yardsticklaw04_pick.f (a0 : Int) (a1 : Int) : Option (Int) := if a0 < 0 then (if a1 = 0 then (none) else (some (Int.tmod (wrap64 (-(wrap64 (a0 + 1)))) a1))) else (if a1 = 0 then (none) else (some (Int.tmod a0 a1)))
set_option maxHeartbeats 8000000 in
set_option maxRecDepth 100000 in
theorem yardsticklaw04_pick.calls (a0 : Int) (a1 : Int) (r : Int) (w : World) (h : yardsticklaw04_pick.f a0 a1 = some r) :
    Calls Tryz.prog 18 #[.int .i64 a0, .int .i64 a1] w fun e w' => e = .returned (.int .i64 r) ∧ Drawn0 w w' := by
  have H : (if a0 < 0 then (if a1 = 0 then (none) else (some (Int.tmod (wrap64 (-(wrap64 (a0 + 1)))) a1))) else (if a1 = 0 then (none) else (some (Int.tmod a0 a1)))) = some r := h
  clear h
  by_cases c3 : a0 < 0
  · rw [if_pos c3] at H
    have c3b0 : decide (a0 < 0) = true := decide_eq_true c3
    clear c3
    by_cases c4 : a1 = 0
    · rw [if_pos c4] at H
      exact absurd H (by simp)
    · rw [if_neg c4] at H
      have c4b0 : (a1 == 0) = false := beq_eq_false_iff_ne.mpr c4
      have c4b1 : (a1 != 0) = true := bne_iff_ne.mpr c4
      obtain rfl := Option.some.inj H
      go_enter Tryz.func18, Tryz.ntmps18
      go_wp2
      go_ret
      exact ⟨by first | rfl | (simp; done) | (simp [*]; done), by repeat (first | exact Drawn0.refl _ | apply Drawn0.step)⟩
  · rw [if_neg c3] at H
    have c3b0 : decide (a0 < 0) = false := decide_eq_false c3
    clear c3
    by_cases c5 : a1 = 0
    · rw [if_pos c5] at H
      exact absurd H (by simp)
    · rw [if_neg c5] at H
      have c5b0 : (a1 == 0) = false := beq_eq_false_iff_ne.mpr c5
      have c5b1 : (a1 != 0) = true := bne_iff_ne.mpr c5
      obtain rfl := Option.some.inj H
      go_enter Tryz.func18, Tryz.ntmps18
      go_wp2
      go_ret
      exact ⟨by first | rfl | (simp; done) | (simp [*]; done), by repeat (first | exact Drawn0.refl _ | apply Drawn0.step)⟩

-- NOT PRINTED: function 25 (rational_Mul)

-- NOT PRINTED: function 5 (yardsticklaw04_RationalLimits)

def yardsticklaw04_is.f (a0 : ByteArray) (a1 : ByteArray) : Option (ByteArray × ByteArray) := some (a0, a1)
set_option maxHeartbeats 8000000 in
set_option maxRecDepth 100000 in
theorem yardsticklaw04_is.calls (a0 : ByteArray) (a1 : ByteArray) (r1 : ByteArray) (r2 : ByteArray) (w : World) (h : yardsticklaw04_is.f a0 a1 = some (r1, r2)) :
    Calls Tryz.prog 24 #[.string a0, .string a1] w fun e w' => e = .returned (.agg #[.string r1, .string r2]) ∧ Below w.heap.size w w' := by
  have hu23 := Tryz.underlying23
  have HB := Aside0.mk (Below.refl w.heap.size w)
  have H : (some (a0, a1)) = some (r1, r2) := h
  clear h
  simp only [Option.some.injEq, Prod.mk.injEq] at H
  obtain ⟨rfl, rfl⟩ := H
  go_enter Tryz.func24, Tryz.ntmps24
  go_wp2_with (first | ((with_reducible refine gate_dst (N := 4) rfl ?_); refine box_event ?hg (N := 4) ?hd (cs := #[.string (⟨#[]⟩ : ByteArray), .string (⟨#[]⟩ : ByteArray)]) (t := 23) ?hr ?_; (case hd => rfl); (case hg => rfl); (case hr => first | (go_simp; done) | (go_simp; rfl)); intro gb170 hg w3 hbox hb; have n0_ := Aside0.mk (below_step (by repeat (first | (with_reducible first | exact HB.out | apply below_alloc | apply pw_below_drewN | apply below_drew1) | exact HB.out)) hb); have n1_ := Aside0.mk (hbox); have n2_ := Aside0.mk ((by rw [hg]; exact (below_size (by repeat (first | (with_reducible first | exact HB.out | apply below_alloc | apply pw_below_drewN | apply below_drew1) | exact HB.out))) : w.heap.size ≤ gb170)); have n3_ := Aside0.mk ((by rw [hg]; exact (below_size (by repeat (first | (with_reducible first | exact HB.out | apply below_alloc | apply pw_below_drewN | apply below_drew1) | exact HB.out))) : w.heap.size ≤ gb170)); clear HB; have HB := n0_; have BK170 := n1_; have GW170 := n2_; have GE170 := n3_; clear n0_ n1_ n2_ n3_; clear hb hbox hg; have hcz4_0 : w3.cell? ⟨gb170, 0, none⟩ = some (.string (⟨#[]⟩ : ByteArray)) := (blk_cell BK170.out 0).trans rfl; have hcz4_1 : w3.cell? ⟨gb170, 1, none⟩ = some (.string (⟨#[]⟩ : ByteArray)) := (blk_cell BK170.out 1).trans rfl; have hfz4_0 := blk_frozen BK170.out 0; have hfz4_1 := blk_frozen BK170.out 1))
  refine bodyPost_ret (results_cell_row rfl _ _ gb170 23 #[.string a0, .string a1] (0, 0) _ rfl (by (with_reducible repeat (first | refine blk_drewN ?_ _ | refine blk_drew ?_ | refine blk_alloc ?_ _)); refine blk_put (cs := #[.string a0, .string (⟨#[]⟩ : ByteArray)]) ?_ 1 _ rfl; (with_reducible repeat (first | refine blk_drewN ?_ _ | refine blk_drew ?_ | refine blk_alloc ?_ _)); refine blk_put (cs := #[.string (⟨#[]⟩ : ByteArray), .string (⟨#[]⟩ : ByteArray)]) ?_ 0 _ rfl; (with_reducible repeat (first | refine blk_drewN ?_ _ | refine blk_drew ?_ | refine blk_alloc ?_ _)); exact BK170.out) Tryz.underlying23 rfl (by kernel_rfl)) rfl ?_
  exact ⟨by first | rfl | (simp [errW_none, errW_some] <;> rfl) | (simp [*, errW_none, errW_some] <;> rfl), by repeat (first | (with_reducible first | exact HB.out | apply below_alloc | apply pw_below_drewN | apply below_drew1 | refine below_set ?_ GE170.out) | exact HB.out)⟩

-- NOT PRINTED: function 90 (integer_signed_plus)

-- NOT PRINTED: function 73 (integer_Sub)

-- NOT PRINTED: function 84 (rational_work_do)

-- NOT PRINTED: function 85 (rational_work_quotient)

-- NOT PRINTED: function 57 (rational_work_reduced)

-- NOT PRINTED: function 59 (rational_work_check)

-- NOT PRINTED: function 108 (integer_number_by)

-- NOT PRINTED: function 116 (integer_number_times)

-- NOT PRINTED: function 89 (integer_Mul)

-- NOT PRINTED: function 60 (rational_work_mul)

-- NOT PRINTED: function 26 (rational_Div)

-- NOT PRINTED: function 61 (rational_sum)

-- NOT PRINTED: function 62 (integer_Add)

-- NOT PRINTED: function 27 (rational_Add)

-- NOT PRINTED: function 69 (rational_round)

-- NOT PRINTED: function 35 (rational_Down)

-- NOT PRINTED: function 37 (rational_Up)

-- NOT PRINTED: function 22 (rational_Make)

-- NOT PRINTED: function 72 (integer_FromInt)

-- NOT PRINTED: function 41 (rational_Of)

-- NOT PRINTED: function 11 (yardsticklaw04_sane)

end Go.Proofs.YtnhjidbjibehpaaGreatDoor.Ref
