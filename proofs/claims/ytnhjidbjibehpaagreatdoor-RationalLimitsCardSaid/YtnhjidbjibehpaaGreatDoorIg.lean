/- Layer 3, walked: number.compare. -/
import Derived.Test.YtnhjidbjibehpaaGreatDoorIf
namespace Go.Proofs.YtnhjidbjibehpaaGreatDoor.L3
open Go.Shelf Go.RowKit Go.Proofs.YtnhjidbjibehpaaGreatDoorW.PrintWords Go.Proofs.YtnhjidbjibehpaaGreatDoorW.PrintLast Go.Proofs.YtnhjidbjibehpaaGreatDoorW.PrintMore Yd
set_option linter.unusedVariables false
set_option linter.unusedSimpArgs false
attribute [local go_sem] Oper.semAt_some

theorem ReadsInt.block {w : World} {A : Option Addr} {n : Nat} {xs : List Int} (h : ReadsInt w .i64 A n xs) : ∀ ad, A = some ad → 0 < n → ad.block < w.heap.size := by
  intro ad hA hn
  obtain ⟨ad', e, hc⟩ := h.2.2 hn
  have he : ad' = ad := by rw [hA] at e; injection e with e; exact e.symm
  subst he
  have := World.block_lt_of_cell? w _ (hc 0 hn)
  have hb : (ad'.add 0).block = ad'.block := by unfold Addr.add; split <;> rfl
  omega

set_option maxRecDepth 100000 in
set_option maxHeartbeats 2000000 in
theorem ncmp_calls (v1 v2 : Value) (a b : Nat) (w : World) (h1 : Nm w v1 a) (h2 : Nm w v2 b) (ha : GL a ≤ 1000) (hb : GL b ≤ 1000) :
    Calls Tryz.prog 80 #[v1, v2] w fun e w' => e = .returned (.int .i64 (cmpI a b)) ∧ Below w.heap.size w w' := by
  obtain ⟨A1, c1, rfl, hc1, hr1⟩ := h1
  obtain ⟨A2, c2, rfl, hc2, hr2⟩ := h2
  have HR1 := Aside0.mk hr1
  have HR2 := Aside0.mk hr2
  have HLA : Aside0 ((bd 10000 a).length ≤ 1000) := ⟨ha⟩
  have HLB : Aside0 ((bd 10000 b).length ≤ 1000) := ⟨hb⟩
  clear hr1 hr2 hc1 hc2 ha hb
  refine (callsIn_wide (n := 100)).1 ?_
  refine callsIn_of_wp_marks Tryz.func80 rfl trivial ?_ rfl
  simp only [Tryz.ntmps80, List.size_toArray, List.length_cons, List.length_nil, Nat.reduceAdd, Nat.reduceSub, Array.replicate_succ, Array.replicate_zero, List.push_toArray, List.append_toArray, List.nil_append, List.cons_append]
  by_cases hlen : (bd 10000 a).length = (bd 10000 b).length
  · have bl : (((bd 10000 a).length : Int) != ((bd 10000 b).length : Int)) = false := by rw [bne_eq_false_iff_eq, hlen]
    have HLEN := Aside0.mk hlen
    clear hlen
    gi_wp2_with fail
    refine ⟨trivial, (callsIn_wide.2 (back_calls _ _ _ _)).mono ?_⟩
    rintro e w' ⟨rfl, rfl⟩
    gi_wp2_with fail
    have hX := boxes3 w (.slice A2 (bd 10000 b).length c2) (.int .i64 0) (.slice A1 (bd 10000 a).length c1) 98 3 98
    generalize (((w.alloc (.cells #[.slice A2 (bd 10000 b).length c2] 98)).alloc (.cells #[.int .i64 0] 3)).alloc (.cells #[.slice A1 (bd 10000 a).length c1] 98)) = W2 at *
    have hsz := hX.size
    refine wpIn_rangeFunc_ownF rfl (by omega) (gf := 137) (lb := #[.pointer (some ⟨w.heap.size + 1 + 1, 0, none⟩)]) rfl trivial (enters_of Tryz.func137 (by kernel_rfl) rfl)
      (back_stops 99 (w.heap.size + 1 + 1) w.heap.size (by omega) A1 c1 (bd 10000 a) (by have := HLA.out; omega) W2 (by omega) (by omega) (ReadsInt.block HR1.out) hX.c2 (HR1.out.below hX.below))
      KB.trans (fun W l o o' hl _ _ _ => KB.putObj W l o' (by omega) (by omega)) (Below.refl _ _) (fun _ => rfl)
      (fun pre W => ((∀ p ∈ pre, rd (bd 10000 a) ((p.1 : Nat) : Int) = rd (bd 10000 b) ((p.1 : Nat) : Int)) ∧ W.cell? ⟨w.heap.size, 0, none⟩ = some (.slice A2 (bd 10000 b).length c2) ∧ W.cell? ⟨w.heap.size + 1, 0, none⟩ = some (.int .i64 0) ∧ W.frozen? ⟨w.heap.size + 1, 0, none⟩ = false) ∧ Below w.heap.size w W)
      (fun c pre W => (c = .ret ∧ ∃ ini last, pre = ini ++ [last] ∧ (∀ p ∈ ini, rd (bd 10000 a) ((p.1 : Nat) : Int) = rd (bd 10000 b) ((p.1 : Nat) : Int)) ∧ rd (bd 10000 a) ((last.1 : Nat) : Int) ≠ rd (bd 10000 b) ((last.1 : Nat) : Int) ∧ W.cell? ⟨w.heap.size + 1, 0, none⟩ = some (.int .i64 (cmpI (rd (bd 10000 a) ((last.1 : Nat) : Int)) (rd (bd 10000 b) ((last.1 : Nat) : Int))))) ∧ Below w.heap.size w W)
      (OwnFrom.and (Own.from (fun s A B row hs hg hr => ⟨hs.1, cell_kept hs.2.1 hg hr, cell_kept hs.2.2.1 hg hr, (frozen_kept hs.2.2.1 hg hr).trans hs.2.2.2⟩) _) (ownFrom_below (Nat.le_refl _) (by omega)))
      (fun c => OwnFrom.and (Own.from (fun s A B row hs hg hr => by obtain ⟨hc, ini, last, e1, e2, e3, e4⟩ := hs; exact ⟨hc, ini, last, e1, e2, e3, cell_kept e4 hg hr⟩) _) (ownFrom_below (Nat.le_refl _) (by omega)))
      ⟨⟨by simp, hX.c0, hX.c1, hX.f1⟩, hX.below⟩
      (fun x => { tmps := #[.slice A1 (bd 10000 a).length c1, .slice A2 (bd 10000 b).length c2, undef, .pointer (some ⟨w.heap.size, 0, none⟩), .pointer (some ⟨w.heap.size + 1, 0, none⟩), .int .i64 ((x.1 : Nat) : Int), .int .i64 (rd (bd 10000 a) ((x.1 : Nat) : Int)),
          .slice A1 (bd 10000 a).length c1, .int .i64 ((bd 10000 a).length : Int), .slice A2 (bd 10000 b).length c2, .int .i64 ((bd 10000 b).length : Int), .bool false, undef, undef, undef, undef, undef, .slice A1 (bd 10000 a).length c1,
          .func (.func 137) #[] #[.pointer (some ⟨w.heap.size + 1 + 1, 0, none⟩)], .int .i64 ((x.1 : Nat) : Int), .int .i64 (rd (bd 10000 a) ((x.1 : Nat) : Int)), undef, undef, undef, undef, undef, undef, undef, undef, undef, undef, undef, undef], defers := [] }) ?assign ?body ?done ?stop
    case assign =>
      intro l x W K hK
      simp only [encB]
      gi_wp2
      exact hK
    case body =>
      rintro l pre x W ⟨⟨hp, hc0, hc1, hf1⟩, hB⟩ _
      have hxl := x.2
      obtain ⟨ad2, rfl, hcell⟩ := HR2.out.at_ ((x.1 : Nat) : Int) (by omega) (by have := HLEN.out; omega)
      rw [Int.toNat_natCast] at hcell
      have hcW := (hB.cell (World.block_lt_of_cell? w _ hcell)).trans hcell
      have q := eq_true (by have := HLEN.out; omega : ((x.1 : Nat) : Int) < ((bd 10000 b).length : Int))
      have q' := eq_true (by have := HLEN.out; omega : x.1 < (bd 10000 b).length)
      have HP := Aside0.mk hp
      have HBW := Aside0.mk hB
      clear hcell hp hB hX HR1 HR2
      obtain ⟨ra, hra⟩ : ∃ ra, rd (bd 10000 a) ((x.1 : Nat) : Int) = ra := ⟨_, rfl⟩
      obtain ⟨rb, hrb⟩ : ∃ rb, rd (bd 10000 b) ((x.1 : Nat) : Int) = rb := ⟨_, rfl⟩
      rw [hrb] at hcW
      rw [hra]
      have HRA := Aside0.mk hra
      have HRB := Aside0.mk hrb
      clear hra hrb
      by_cases he : ra = rb
      · have b1 : (ra != rb) = false := bne_eq_false_iff_eq.2 he
        have HE := Aside0.mk he
        clear he
        gi_wp2_with fail
        refine ⟨KeepsOthers.refl _, KB.refl _ _ _, ⟨⟨fun p hpm => ?_, hc0, hc1, hf1⟩, HBW.out⟩⟩
        rcases List.mem_append.1 hpm with hm | hm
        · exact HP.out p hm
        · rw [List.mem_singleton] at hm; subst hm; rw [HRA.out, HRB.out]; exact HE.out
      · have b1 : (ra != rb) = true := bne_iff_ne.2 he
        have HE := Aside0.mk he
        clear he
        gi_wp2_with fail
        refine ⟨trivial, (CallsIn.inRound l (callsIn_wide.2 (cmp_calls ra rb W))).mono ?_⟩
        rintro e W3 ⟨rfl, hdr⟩
        have hc3 := (Drawn0.cell hdr _).trans hc1
        have hf3 := (Drawn0.frozen hdr _).trans hf1
        have HD := Aside0.mk hdr
        clear hdr hc0 hc1 hf1 hcW
        gi_wp2_with fail
        refine ⟨(Drawn0.others HD.out).trans (KeepsOthers.setCell _ _ _), ⟨rfl, pre, x, rfl, HP.out, by rw [HRA.out, HRB.out]; exact HE.out, ?_⟩, (Drawn0.below_of HD.out HBW.out).setCell (p := ⟨w.heap.size + 1, 0, none⟩) (by show _ ≤ w.heap.size + 1; omega) _⟩
        rw [HRA.out, HRB.out]
        exact World.cell?_setCell_same' _ _ _ (by rw [hc3]; rfl)
    case done =>
      rintro D ys W hD rfl ⟨⟨hne, hc0, hcr, hfr⟩, hB⟩ hK
      have hab : a = b := high_eq (N := (bd 10000 a).length) (fun j hj => hne ⟨j, hj⟩ (down_mem j hj)) (Nat.le_refl _) (by have := HLEN.out; show (bd 10000 b).length ≤ _; omega)
      gi_wp2_with fail
      have hK' := (KeepsOthers.setCell W ⟨w.heap.size + 1, 0, none⟩ (.int .i64 0)).same D _ hK rfl
      refine ⟨by simp, .inl ⟨_, _, rfl, run_takeDeferred hK', ?_⟩⟩
      have hc5 := cell_kept (World.cell?_setCell_same' W ⟨w.heap.size + 1, 0, none⟩ (.int .i64 0) (by rw [hcr]; rfl)) (grownBy_putObj' _ D (.deferred none)) (fun r e => by cases e; exact ⟨_, hK', rfl⟩)
      refine ⟨.int .i64 0, ?_, by subst hab; unfold cmpI; rw [if_neg (by omega), if_neg (by omega)], (hB.setCell (p := ⟨w.heap.size + 1, 0, none⟩) (by show _ ≤ w.heap.size + 1; omega) _).trans (belowK_b (w := w) (Nat.le_refl _) _ D _ _ (by omega) hK' rfl rfl)⟩
      simp [results, Tryz.f80, go_sem, hc5]
    case stop =>
      rintro D c pre W hD hpre ⟨⟨rfl, ini, last, e1, e2, e3, hcr⟩, hB⟩ hK
      gi_wp2_with fail
      refine ⟨by simp, .inl ⟨_, _, rfl, run_takeDeferred hK, ?_⟩⟩
      have hc5 := cell_kept hcr (grownBy_putObj' _ D (.deferred none)) (fun r e => by cases e; exact ⟨_, hK, rfl⟩)
      subst e1
      have hcm := top_cmp (a := a) (b := b) (N := (bd 10000 a).length) (j := last.1) (Nat.le_refl _) (by have := HLEN.out; show (bd 10000 b).length ≤ _; omega) last.2 (fun i h1 h2 => e2 ⟨i, h2⟩ (down_prefix hpre i h1 h2)) e3
      rw [hcm] at hc5
      refine ⟨.int .i64 (cmpI a b), ?_, rfl, hB.trans (belowK_b (w := w) (Nat.le_refl _) _ D _ _ (by omega) hK rfl rfl)⟩
      simp [results, Tryz.f80, go_sem, hc5]
  · have bl : (((bd 10000 a).length : Int) != ((bd 10000 b).length : Int)) = true := by rw [bne_iff_ne]; omega
    have HC := Aside0.mk (cmp_length (a := a) (b := b) hlen)
    clear hlen
    gi_wp2_with fail
    refine ⟨trivial, (callsIn_wide.2 (cmp_calls _ _ _)).mono ?_⟩
    rintro e W3 ⟨rfl, hdr⟩
    have hc3 : W3.cell? ⟨w.heap.size + 1, 0, none⟩ = some (.int .i64 0) := by rw [Drawn0.cell hdr]; simp [go_sem]
    have hf3 : W3.frozen? ⟨w.heap.size + 1, 0, none⟩ = false := by rw [Drawn0.frozen hdr]; simp [go_sem]
    have HB3 := Aside0.mk (Drawn0.below_of hdr (below_alloc (below_alloc (Below.refl w.heap.size w) _) _))
    clear hdr
    gi_wp2_with fail
    have hc5 := World.cell?_setCell_same' W3 ⟨w.heap.size + 1, 0, none⟩ (.int .i64 (cmpI (bd 10000 a).length (bd 10000 b).length)) (by rw [hc3]; rfl)
    refine ⟨.int .i64 (cmpI (bd 10000 a).length (bd 10000 b).length), ?_, by rw [← HC.out], HB3.out.setCell (p := ⟨w.heap.size + 1, 0, none⟩) (by show _ ≤ w.heap.size + 1; omega) _⟩
    simp [results, Tryz.f80, go_sem, hc5]

end Go.Proofs.YtnhjidbjibehpaaGreatDoor.L3
