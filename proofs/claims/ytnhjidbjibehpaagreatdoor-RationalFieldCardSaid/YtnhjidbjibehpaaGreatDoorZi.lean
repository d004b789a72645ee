/- Layer 3, walked: number.over. -/
import Derived.Test.YtnhjidbjibehpaaGreatDoorZh
import Derived.Stop.RegionWithIn
import Derived.Deep.DeepMust
import Derived.Sort.CutIn
import Derived.Laws.EntriesVeiled
namespace Go.Proofs.YtnhjidbjibehpaaGreatDoor.L3
open Go.Shelf Go.RowKit Go.Proofs.YtnhjidbjibehpaaGreatDoorW.PrintWords Go.Proofs.YtnhjidbjibehpaaGreatDoorW.PrintLast Go.Proofs.YtnhjidbjibehpaaGreatDoorW.PrintMore Yd
set_option linter.unusedVariables false
set_option linter.unusedSimpArgs false
attribute [local go_sem] Oper.semAt_some

set_option maxRecDepth 100000 in
set_option maxHeartbeats 8000000 in
/-- over -/
theorem nover_calls (v1 v2 : Value) (l m : Nat) (w : World) (h1 : Nm w v1 l) (h2 : Nm w v2 m) (hl : GL l ≤ 300) (hm : GL m ≤ 300) (hm0 : 0 < m) :
    Calls Tryz.prog 81 #[v1, v2] w fun e w' => ∃ v v', e = .returned (.tuple #[v, v']) ∧ Nm w' v (l / m) ∧ Nm w' v' (l % m) ∧ Below w.heap.size w w' := by
  obtain ⟨A1, c1, rfl, hc1, hr1⟩ := h1
  obtain ⟨A2, c2, rfl, hc2, hr2⟩ := h2
  have HR1 := Aside0.mk hr1
  have HR2 := Aside0.mk hr2
  have HC2 := Aside0.mk hc2
  have HLL : Aside0 ((bd 10000 l).length ≤ 300) := ⟨hl⟩
  have HLM : Aside0 ((bd 10000 m).length ≤ 300) := ⟨hm⟩
  have HM0 := Aside0.mk hm0
  clear hr1 hr2 hc1 hc2 hl hm hm0
  have hmk := print_make (P := Tryz.prog) 98 3 .i64 8 Tryz.underlying98 info3 (by decide) (bd 10000 l).length (by have := HLL.out; omega)
  refine (callsIn_wide (n := 100)).1 ?_
  refine callsIn_of_wp_marks Tryz.func81 rfl trivial ?_ rfl
  simp only [Tryz.ntmps81, List.size_toArray, List.length_cons, List.length_nil, Nat.reduceAdd, Nat.reduceSub, Array.replicate_succ, Array.replicate_zero, List.push_toArray, List.append_toArray, List.nil_append, List.cons_append]
  gi_wp2_with fail
  refine ⟨trivial, (callsIn_wide.2 (back_calls _ _ _ _)).mono ?_⟩
  rintro e w' ⟨rfl, rfl⟩
  gi_wp2_with fail
  clear hmk
  obtain ⟨hO, hR0, hZ, hsz⟩ := OSt.start w A1 A2 c1 c2 l m (bd 10000 l).length (by have := HLL.out; omega)
  generalize (((((w.alloc (.cells #[.slice A2 (bd 10000 m).length c2] 98)).alloc (.cells #[.slice (some ⟨w.heap.size + 1 + 1 + 1, 0, none⟩) (bd 10000 l).length (bd 10000 l).length] 98)).alloc (.cells #[.slice none 0 0] 98)).alloc (.cells (madeCells #[.int .i64 0] (bd 10000 l).length) 3)).alloc (.cells #[.slice A1 (bd 10000 l).length c1] 98)) = W2 at *
  have HO := Aside0.mk hO
  have HRZ := Aside0.mk hR0
  have HZ := Aside0.mk hZ
  clear hO hR0 hZ
  refine wpIn_rangeFunc_ownF rfl (by omega) (gf := 137) (lb := #[.pointer (some ⟨w.heap.size + 1 + 1 + 1 + 1, 0, none⟩)]) rfl trivial (enters_of Tryz.func137 (by kernel_rfl) rfl)
      (back_stops 99 (w.heap.size + 1 + 1 + 1 + 1) w.heap.size (by omega) A1 c1 (bd 10000 l) (by have := HLL.out; omega) W2 (by omega) (by omega) (ReadsInt.block HR1.out) HZ.out.cell (HR1.out.below HO.out.bl))
      KB.trans (fun W k o o' hk _ _ _ => KB.putObj W k o' (by omega) (by omega)) (Below.refl _ _) (fun _ => rfl)
      (fun pre W => (∃ A c, Boxed W (w.heap.size + 1 + 1) 98 (.slice A (bd 10000 (ov l m pre).1).length c) ∧ Nm W (.slice A (bd 10000 (ov l m pre).1).length c) (ov l m pre).1) ∧ OSt w W A2 c2 m (bd 10000 l).length (ov l m pre).2)
      (fun c pre W => False)
      (fun s A B row hs hg hr => by
        obtain ⟨⟨A', c, k1, k2⟩, k3⟩ := hs
        have hr' := fun r e => (hr r e).2
        exact ⟨⟨A', c, Boxed.own k1 hg hr', Nm.kept k2 hg hr'⟩, k3.own hg hr' (k3.bl.grown hg k3.bl.size (fun k e => by have := (hr k e).1; omega))⟩)
      (fun _ _ _ _ _ hs _ _ => hs)
      ⟨⟨none, 0, by rw [ov_nil, bd_zero]; exact HRZ.out, by rw [ov_nil, Nm, bd_zero]; exact Ls.nil W2⟩, by rw [ov_nil]; exact HO.out⟩
      (fun x => { tmps := #[.slice A1 (bd 10000 l).length c1, .slice A2 (bd 10000 m).length c2, undef, .pointer (some ⟨w.heap.size, 0, none⟩), .pointer (some ⟨w.heap.size + 1, 0, none⟩), .pointer (some ⟨w.heap.size + 1 + 1, 0, none⟩), .int .i64 ((x.1 : Nat) : Int), .int .i64 (rd (bd 10000 l) ((x.1 : Nat) : Int)), undef, undef,
          .slice A1 (bd 10000 l).length c1, .int .i64 ((bd 10000 l).length : Int), .slice (some ⟨w.heap.size + 1 + 1 + 1, 0, none⟩) (bd 10000 l).length (bd 10000 l).length, .slice A1 (bd 10000 l).length c1,
          .func (.func 137) #[] #[.pointer (some ⟨w.heap.size + 1 + 1 + 1 + 1, 0, none⟩)], .int .i64 ((x.1 : Nat) : Int), .int .i64 (rd (bd 10000 l) ((x.1 : Nat) : Int)),
          undef, undef, undef, undef, undef, undef, undef, undef, undef, undef, undef, undef, undef, undef, undef, undef, undef, undef, undef, undef, undef, undef, undef, undef], defers := [] }) ?assign ?body ?done ?stop
  case assign =>
    intro l' x W K hK
    simp only [encB]
    gi_wp2
    exact hK
  case body =>
    rintro l' pre x W ⟨⟨A, c, hrb, hrn⟩, hO⟩ hpl
    have hx2 : rd (bd 10000 l) ((x.1 : Nat) : Int) = ((l / 10000 ^ x.1 % 10000 : Nat) : Int) := rd_bd l x.1
    have hd := Nat.mod_lt (l / 10000 ^ x.1) (show 10000 > 0 by omega)
    have hrm := ov_lt l HM0.out pre
    have hsn := ov_snoc l m pre x
    unfold ovS at hsn
    generalize l / 10000 ^ x.1 % 10000 = u at *
    rw [hx2]
    have hxl := x.2
    have HXL := Aside0.mk hxl
    obtain ⟨xn, hxn⟩ : ∃ xn : Nat, x.1 = xn := ⟨_, rfl⟩
    rw [hxn] at hsn hxl ⊢
    have HSN := Aside0.mk hsn
    have HU := Aside0.mk hd
    have HRM := Aside0.mk hrm
    clear hsn hd hrm hx2 hxn
    generalize (ov l m pre).1 = r at *
    generalize (ov l m pre).2 = q at *
    have hglr : (bd 10000 r).length ≤ 300 := Nat.le_trans (bd_length_mono (by omega) (Nat.le_of_lt HRM.out)) HLM.out
    have HGR := Aside0.mk hglr
    have hcr := hrb.cell
    have hcr' : ∀ o, (W.alloc o).cell? ⟨w.heap.size + 1 + 1, 0, none⟩ = some (.slice A (bd 10000 r).length c) := fun o => pw_cell_below (below_alloc (Below.refl _ _) o) hcr
    have HRB := Aside0.mk hrb
    have HRN := Aside0.mk hrn
    have HO := Aside0.mk hO
    have HL := Aside0.mk (own_lit W W.heap.size 3 .i64 [(u : Int)] (Nat.le_refl _) (by simp))
    have HRD := Aside0.mk (by obtain ⟨A', c', e, _, hr⟩ := hrn; obtain ⟨rfl, rfl⟩ : A = A' ∧ c = c' := (by injection e with h1 h2 h3; exact ⟨h1, h3⟩); exact hr.below (below_alloc (Below.refl _ W) (.cells #[.int .i64 (u : Int)] 3)) : ReadsInt (W.alloc (.cells #[.int .i64 (u : Int)] 3)) .i64 A (bd 10000 r).length (bd 10000 r))
    clear hrb hrn hO hcr hglr
    gi_upto_region 6 with (first
      | (gi_at_builtin; go_must (refine wpListIn_append_row rfl (.tmp 18) (.tmp 19) 98 3 8 rfl Tryz.underlying98 info3 (by decide) W.heap.size _ [(u : Int)] (bd 10000 r) A (bd 10000 r).length c rfl rfl HL.out HRD.out (by simp) (by have := HGR.out; simp; omega) ?_); intro v' w1 hown' hgrow; have HOW := Aside0.mk hown'; have HGW := Aside0.mk hgrow; clear hown' hgrow)
      | (refine ⟨trivial, ?_⟩; gi_at_call 107; refine (CallsIn.inRound l' (callsIn_wide.2 (trimmed_callsV W.heap.size _ _ (r * 10000 + u) _ HOW.out (Nat.le_trans (by simp) HGW.out.size) (by have := HGR.out; simp; omega) (cons_trim r u HU.out)))).mono ?_; rintro e W3 ⟨v3, rfl, hn3, hb3⟩; obtain ⟨A3, c3, rfl, hn3'⟩ := hn3; have HN3 := Aside0.mk hn3'; have HB3 := Aside0.mk hb3; clear hn3' hb3; have hb13 := over_grown HGW.out HB3.out; have hx3 := (OSt.below HO.out hb13); have hy3 := Boxed.below HRB.out hb13; have hc3 := hy3.cell; have hf3 := hy3.frozen; have HB13 := Aside0.mk hb13; clear hb13 hx3 hy3))
    have HMID := Aside0.mk (over_mid HO.out HRB.out HB13.out ⟨A3, c3, rfl, HN3.out⟩)
    generalize W3.setCell ⟨w.heap.size + 1 + 1, 0, none⟩ (.slice A3 (bd 10000 (r * 10000 + u)).length c3) = W5 at *
    clear hc3 hf3 HN3 HB3 HB13 HGW HOW HRD HL HRN HRB hcr'
    have hm5 := HMID.out.st.mb.cell
    gi_upto_region 8 with (fail)
    have hby := Boxed.new W5 122 (.func (.func 108) #[.slice A2 (bd 10000 m).length c2] #[])
    have HMD7 := Aside0.mk (HMID.out.below (below_alloc (Below.refl _ W5) (.cells #[.func (.func 108) #[.slice A2 (bd 10000 m).length c2] #[]] 122)))
    obtain ⟨Bb, hBb⟩ : ∃ Bb, W5.heap.size = Bb := ⟨_, rfl⟩
    have HBB := Aside0.mk (by rw [← hBb]; exact hby.lt : Bb < (W5.alloc (.cells #[.func (.func 108) #[.slice A2 (bd 10000 m).length c2] #[]] 122)).heap.size)
    have HB5 := Aside0.mk (by have h1 := HMID.out.sz; have h2 := HMID.out.s5; omega : w.heap.size + 5 ≤ Bb)
    rw [hBb] at hby ⊢
    generalize W5.alloc (.cells #[.func (.func 108) #[.slice A2 (bd 10000 m).length c2] #[]] 122) = W7 at *
    have HBY := Aside0.mk hby
    clear hby hBb hm5 HMID
    gi_upto_region 8 with (fail)
    have hdm := step_le HRM.out HU.out
    have HGD : Aside0 (GL (r * 10000 + u) ≤ 301) := ⟨GL_step HGR.out HU.out⟩
    generalize hDD : r * 10000 + u = D at *
    obtain ⟨ee, hee⟩ : ∃ ee, D / m = ee := ⟨_, rfl⟩
    have HEE := Aside0.mk hee
    have HDM := Aside0.mk hdm
    rw [hee] at HSN
    clear hdm hee hDD
    have hq7 := HMD7.out.st.qb.cell
    have HM7 : Aside0 (Nm W7 (.slice A2 (bd 10000 m).length c2) m) := ⟨⟨A2, c2, rfl, HC2.out, HR2.out.below HMD7.out.st.bl⟩⟩
    gi_cut [] from 25 (fun wc => Aside0 (OMid w W wc A2 c2 m (bd 10000 l).length (q.set xn (ee : Int)) A3 c3 D) ∧ Aside0 (Boxed wc Bb 122 (.func (.func 108) #[.slice A2 (bd 10000 m).length c2] #[])))
    case first =>
      have p := eq_true (Int.natCast_nonneg xn)
      have hxl' := eq_true (by omega : (xn : Int) < ((bd 10000 l).length : Int))
      have hxl'' := eq_true hxl
      gi_region_with (refine ⟨trivial, ?_⟩; gi_at_call 110; refine (CallsIn.inRound l' (callsIn_wide.2 (over_search W7.drew HM0.out HLM.out (Nat.le_trans HGD.out (by omega)) HDM.out HEE.out (Nm.below (w := W7) (w1 := W7.drew) HM7.out (below_drew (Below.refl _ W7))) (Nm.below (w := W7) (w1 := W7.drew) HMD7.out.rn.nm (below_drew (Below.refl _ W7))) HBY.out HMD7.out.rb))).mono ?_; rintro e W8 ⟨rfl, hb8⟩; have hx8 := HMD7.out.below (Below.trans (below_drew (Below.refl _ W7)) hb8); have hy8 := Boxed.below (W := W7.drew) HBY.out hb8; have hc8 := hx8.st.qb.cell; obtain ⟨hc9, hf9⟩ := own_at hx8.st.qd (xn : Int) (by omega) (by omega); rw [Int.toNat_natCast] at hc9 hf9; have HX8 := Aside0.mk hx8; have HY8 := Aside0.mk hy8; clear hb8 hx8 hy8)
      all_goals
        have hz1 := HX8.out.setQ (xn : Int) (ee : Int)
        rw [Int.toNat_natCast] at hz1
        have HZ1 := Aside0.mk hz1
        have HZ2 := Aside0.mk (OMid.boxQ (k := w.heap.size + 1 + 1 + 1) (i := xn) (u := .int .i64 (ee : Int)) HY8.out (by have := HB5.out; omega))
        clear hz1 hc8 hc9 hf9 HX8 HY8
        gi_wp2_with fail
        gi_meet
        case rel => exact ⟨HZ1, HZ2⟩
    case rest =>
      obtain ⟨HX9, HY9⟩ := hcut
      have hcq9 := HX9.out.st.qb.cell
      have hcr9 := HX9.out.rb.cell
      have hcb9 := HY9.out.cell
      have hql := HX9.out.st.ql
      obtain ⟨hc9, hf9⟩ := own_at HX9.out.st.qd (xn : Int) (by omega) (by omega)
      have hrdq : rd (q.set xn (ee : Int)) (xn : Int) = (ee : Int) := by unfold rd; rw [Int.toNat_natCast, List.getD_eq_getElem?_getD, List.getElem?_set_self (by rw [List.length_set] at hql; omega)]; rfl
      rw [hrdq, Int.toNat_natCast] at hc9
      have hml : m * ee ≤ D := by rw [← HEE.out]; exact Nat.mul_div_le D m
      have hmod : D - m * ee = D % m := by rw [← HEE.out]; have := Nat.div_add_mod D m; omega
      have HML := Aside0.mk hml
      have HMOD := Aside0.mk hmod
      have HM9 : Aside0 (Nm wc.drew (.slice A2 (bd 10000 m).length c2) m) := ⟨⟨A2, c2, rfl, HC2.out, HR2.out.below (below_drew HX9.out.st.bl)⟩⟩
      have HD9 : Aside0 (Nm wc.drew (.slice A3 (bd 10000 D).length c3) D) := ⟨Nm.below (w := wc) (w1 := wc.drew) HX9.out.rn.nm (below_drew (Below.refl _ wc))⟩
      have HEL : Aside0 (ee ≤ 9999) := ⟨by rw [← HEE.out]; exact HDM.out⟩
      have p := eq_true (Int.natCast_nonneg xn)
      have hxl' := eq_true (by omega : (xn : Int) < ((bd 10000 l).length : Int))
      have hxl'' := eq_true hxl
      clear hql hrdq hml hmod hf9
      gi_wp2_with fail
      gi_region_with (first
        | (refine ⟨trivial, ?_⟩; gi_at_call 108; refine (CallsIn.inRound l' (callsIn_wide.2 (nby_calls _ m ee _ HM9.out (Nat.le_trans HLM.out (by omega)) HEL.out))).mono ?_; rintro e W8 ⟨v8, rfl, hn8, hb8⟩; have hr8 := Boxed.below (W := wc.drew) HX9.out.rb hb8; have hc8 := hr8.cell; have HN8 := Aside0.mk hn8; have HB8 := Aside0.mk hb8; have HR8 := Aside0.mk hr8; clear hn8 hb8 hr8)
        | (refine ⟨trivial, ?_⟩; gi_at_call 88; refine (CallsIn.inRound l' (callsIn_wide.2 (nminus_calls _ _ D (m * ee) _ (Nm.below HD9.out HB8.out) HN8.out (Nat.le_trans HGD.out (by omega)) HML.out))).mono ?_; rintro e W10 ⟨v10, rfl, hn10, hb10⟩; obtain ⟨A10, c10, rfl, hn10'⟩ := hn10; have hr10 := Boxed.below HR8.out hb10; have hc10 := hr10.cell; have hf10 := hr10.frozen; have HN10 := Aside0.mk hn10'; have HB10 := Aside0.mk hb10; clear hn10' hb10 hr10))
      all_goals
        exact over_close' HMOD.out HSN.out HX9.out (Below.trans (below_drew (Below.refl _ wc)) (HB8.out.trans (HB10.out.mono HB8.out.size))) ⟨A10, c10, rfl, HN10.out⟩
  case done =>
    rintro D ys W hD rfl ⟨⟨A, c, hrb, hrn⟩, hO⟩ hK
    obtain ⟨e1, e2⟩ := ov_all l HM0.out
    have hls : Ls W (.slice (some ⟨w.heap.size + 1 + 1 + 1, 0, none⟩) (bd 10000 l).length (bd 10000 l).length) (ov l m (down (bd 10000 l).length)).2 := Ls.of_own (base := w.heap.size) (by rw [hO.ql]; exact hO.qd)
    have hcq := hO.qb.cell
    have hcr := hrb.cell
    have HO := Aside0.mk hO
    have HRB := Aside0.mk hrb
    have HRN := Aside0.mk hrn
    have HLS := Aside0.mk hls
    have HQL := Aside0.mk hO.ql
    have HE2 := Aside0.mk e2
    have HE1 := Aside0.mk e1
    clear hO hrb hrn hls e1 e2
    gi_wp2_with fail
    gi_region_with (refine ⟨trivial, ?_⟩; gi_at_call 107; refine (callsIn_wide.2 (trimmed_calls _ _ _ (Ls.below (w := W) (w1 := W.drew) HLS.out (below_drew (Below.refl _ W))) (by rw [HQL.out]; have := HLL.out; omega))).mono ?_; rintro e W3 ⟨v3, rfl, hn3, hb3⟩; rw [HE2.out] at hn3; obtain ⟨A3, c3, rfl, hn3'⟩ := hn3; have hx3 := OSt.below (W := W.drew) (W' := W3) ⟨HO.out.mb, HO.out.qb, HO.out.qd, HO.out.ql, below_drew HO.out.bl, HO.out.sz⟩ hb3; have hy3 := Boxed.below (W := W.drew) HRB.out hb3; have hc3 := hx3.qb.cell; have hf3 := hx3.qb.frozen; have hc4 := hy3.cell; have hf4 := hy3.frozen; have HX3 := Aside0.mk hx3; have HN3 := Aside0.mk hn3'; have HB3 := Aside0.mk hb3; clear hn3' hb3 hx3 hy3)
    all_goals
      obtain ⟨W5, hW5, k1, k2, k3, k4, k5, k6⟩ := over_done HO.out HRB.out HRN.out (Below.trans (below_drew (Below.refl _ W)) HB3.out) ⟨A3, c3, rfl, HN3.out⟩ hK
      rw [hW5]
      have K3 := Aside0.mk k3
      have K4 := Aside0.mk k4
      have K5 := Aside0.mk k5
      have K6 := Aside0.mk k6
      have HW5 := Aside0.mk hW5
      clear k3 k4 k5 k6 hW5
      gi_wp2_with fail
      refine ⟨by simp, .inl ⟨_, _, rfl, run_takeDeferred K6.out, ?_⟩⟩
      have hc5 := cell_kept k1 (grownBy_putObj' _ D (.deferred none)) (fun r e => by cases e; exact ⟨_, K6.out, rfl⟩)
      have hc6 := cell_kept k2 (grownBy_putObj' _ D (.deferred none)) (fun r e => by cases e; exact ⟨_, K6.out, rfl⟩)
      have hn5 := Nm.kept K3.out (grownBy_putObj' _ D (.deferred none)) (fun r e => by cases e; exact ⟨_, K6.out, rfl⟩)
      have hn6 := Nm.kept K4.out (grownBy_putObj' _ D (.deferred none)) (fun r e => by cases e; exact ⟨_, K6.out, rfl⟩)
      refine ⟨.tuple #[.slice A3 (bd 10000 (l / m)).length c3, .slice A (bd 10000 (ov l m (down (bd 10000 l).length)).1).length c], ?_, _, _, rfl, hn5, by rw [← HE1.out]; exact hn6, K5.out.trans (belowK_b (w := w) (Nat.le_refl _) _ D _ _ (by omega) K6.out rfl rfl)⟩
      simp [results, Tryz.f81, go_sem, hc5, hc6]
  case stop =>
    rintro D c pre W _ _ h _
    exact h.elim

end Go.Proofs.YtnhjidbjibehpaaGreatDoor.L3
