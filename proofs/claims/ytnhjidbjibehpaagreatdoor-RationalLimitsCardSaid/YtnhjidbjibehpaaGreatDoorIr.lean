/- Layer 3, walked: signed.text. -/
import Derived.Test.YtnhjidbjibehpaaGreatDoorIq
namespace Go.Proofs.YtnhjidbjibehpaaGreatDoor.L3
open Go.Shelf Go.RowKit Go.Proofs.YtnhjidbjibehpaaGreatDoorW.PrintWords Go.Proofs.YtnhjidbjibehpaaGreatDoorW.PrintLast Go.Proofs.YtnhjidbjibehpaaGreatDoorW.PrintMore Yd
set_option linter.unusedVariables false
set_option linter.unusedSimpArgs false
attribute [local go_sem] Oper.semAt_some

theorem data_append (a b : List UInt8) : ((⟨a.toArray⟩ : ByteArray) ++ ⟨b.toArray⟩).data.toList = a ++ b := by
  rw [ByteArray.data_append]; simp
theorem text_start (w : World) (b : Bool) (A1 : Option Addr) (l1 c1 : Nat) (v : Value) :
    TSt w (((w.alloc (.cells #[.bool b, .slice A1 l1 c1] 100)).alloc (.cells #[.pointer none, .slice none 0 0] 91)).alloc (.cells #[v] 98)) b A1 l1 c1 [] ∧
    (((w.alloc (.cells #[.bool b, .slice A1 l1 c1] 100)).alloc (.cells #[.pointer none, .slice none 0 0] 91)).alloc (.cells #[v] 98)).cell? ⟨w.heap.size + 1 + 1, 0, none⟩ = some v ∧
    (((w.alloc (.cells #[.bool b, .slice A1 l1 c1] 100)).alloc (.cells #[.pointer none, .slice none 0 0] 91)).alloc (.cells #[v] 98)).heap.size = w.heap.size + 3 := by
  have h1 := alloc_here w (.cells #[.bool b, .slice A1 l1 c1] 100)
  generalize hW1 : w.alloc (.cells #[.bool b, .slice A1 l1 c1] 100) = W1 at *
  have s1 : W1.heap.size = w.heap.size + 1 := by rw [← hW1, World.size_alloc]
  have b1 : Below w.heap.size w W1 := by rw [← hW1]; exact below_alloc (Below.refl _ w) _
  have h2 := alloc_here W1 (.cells #[.pointer none, .slice none 0 0] 91)
  generalize hW2 : W1.alloc (.cells #[.pointer none, .slice none 0 0] 91) = W2 at *
  have s2 : W2.heap.size = w.heap.size + 2 := by rw [← hW2, World.size_alloc, s1]
  have b2 : Below W1.heap.size W1 W2 := by rw [← hW2]; exact below_alloc (Below.refl _ W1) _
  have b3 : Below W2.heap.size W2 (W2.alloc (.cells #[v] 98)) := below_alloc (Below.refl _ W2) _
  have hb : Lib.IsBuilderF 91 5 (w.heap.size + 1) (w.heap.size + 1) (Lib.byteCells []) W2 := by
    refine .inl ⟨Nat.le_refl _, .slice none 0 0, by rw [← s1]; exact h2, World.ownsRowF_nil _ _ _ _, by simp [Value.ownBlock]⟩
  refine ⟨⟨b1.trans ((b2.trans (b3.mono (by omega))).mono (by omega)), ?_, IsBuilderF.keptN hb (grown_of_below b3 none) (fun r e => by cases e), by rw [World.size_alloc]; omega, v, by rw [show w.heap.size + 1 + 1 = W2.heap.size by omega]; exact alloc_here W2 _⟩, ?_, by rw [World.size_alloc]; omega⟩
  · exact (b3.block _ (by omega)).trans ((b2.block _ (by omega)).trans h1)
  · have h3 := alloc_here W2 (.cells #[v] 98)
    rw [show w.heap.size + 1 + 1 = W2.heap.size by omega]
    exact blk_cell h3 0

theorem text_end {x : Int} {b : Bool} {n : Nat} {ds : List UInt8} (hx : x = if b = true then -(n : Int) else (n : Int)) (hn : 0 < n) (hd : Lib.decDigits n = ds) :
    (200 < ds.length → tres x = .tuple #[.string ⟨#[]⟩, .int .i64 30]) ∧ (ds.length ≤ 200 → tres x = .tuple #[.string ⟨(if b = true then 45 :: ds else ds).toArray⟩, .int .i64 0]) := by
  have ha : x.natAbs = n := by rw [hx]; split <;> omega
  subst hd
  unfold tres
  rw [ha]
  refine ⟨fun h => if_neg fun h' => ?_, fun h => ?_⟩
  · have := decDigits_DL.2 h'; omega
  · rw [if_pos (decDigits_DL.1 h)]
    cases b
    · rw [itoa_pos (by rw [hx]; simp), ha]; rfl
    · rw [itoa_neg (by rw [hx]; simp; omega), ha]; rfl

set_option maxRecDepth 100000 in
set_option maxHeartbeats 8000000 in
/-- text -/
theorem text_calls (v : Value) (x : Int) (w : World) (h : Sg w v x) (hT : Tab w) (hg : GL x.natAbs ≤ 1000) :
    Calls Tryz.prog 82 #[v] w fun e w' => e = .returned (tres x) ∧ Below w.heap.size w w' := by
  obtain ⟨b, u, n, rfl, ⟨A1, c1, rfl, hc1, hr1⟩, hx⟩ := h
  have HR1 := Aside0.mk hr1
  have HC1 := Aside0.mk hc1
  have HLA : Aside0 (GL n ≤ 1000) := ⟨by rw [hx] at hg; split at hg <;> simpa using hg⟩
  have HX := Aside0.mk hx
  have HT := Aside0.mk hT
  clear hr1 hc1 hg hx hT
  refine (callsIn_wide (n := 100)).1 ?_
  refine callsIn_of_wp_marks Tryz.func82 rfl trivial ?_ rfl
  simp only [Tryz.ntmps82, List.size_toArray, List.length_cons, List.length_nil, Nat.reduceAdd, Nat.reduceSub, Array.replicate_succ, Array.replicate_zero, List.push_toArray, List.append_toArray, List.nil_append, List.cons_append]
  by_cases h0 : n = 0
  · have hbd : (bd 10000 n).length = 0 := by rw [h0, bd_zero]; rfl
    rw [hbd]
    gi_wp2_with fail
    have hx0 : x = 0 := by rw [HX.out, h0]; split <;> rfl
    refine ⟨.tuple #[.string ⟨#[48]⟩, .int .i64 0], by simp [results, Tryz.f82, go_sem], ?_, below_alloc (Below.refl _ w) _⟩
    rw [hx0]
    unfold tres
    rw [if_pos (by rw [DL_eq]; exact Nat.pow_pos (by omega)), itoa_pos (by omega), show (0 : Int).natAbs = 0 from rfl, decDigits_zero]
  · have hpos : 0 < (bd 10000 n).length := bd_len_pos (by omega) (by omega)
    have b1 : (((bd 10000 n).length : Int) == 0) = false := by rw [beq_eq_false_iff_ne]; omega
    have b2 : ((bd 10000 n).length == 0) = false := by rw [beq_eq_false_iff_ne]; omega
    have HN := Aside0.mk (Nat.pos_of_ne_zero h0)
    gi_wp2_with fail
    refine ⟨trivial, (callsIn_wide.2 (back_calls _ _ _ _)).mono ?_⟩
    rintro e w' ⟨rfl, rfl⟩
    gi_wp2_with fail
    have hlb : (bd 10000 n).length ≤ 100000 := by have := HLA.out; unfold GL at this; omega
    obtain ⟨hS, hbc, hsz⟩ := text_start w b A1 (bd 10000 n).length c1 (.slice A1 (bd 10000 n).length c1)
    generalize (((w.alloc (.cells #[.bool b, .slice A1 (bd 10000 n).length c1] 100)).alloc (.cells #[.pointer none, .slice none 0 0] 91)).alloc (.cells #[.slice A1 (bd 10000 n).length c1] 98)) = W2 at *
    have HS := Aside0.mk hS
    refine wpIn_rangeFunc_ownF rfl (by omega) (gf := 137) (lb := #[.pointer (some ⟨w.heap.size + 1 + 1, 0, none⟩)]) rfl trivial (enters_of Tryz.func137 (by kernel_rfl) rfl)
      (back_stops 99 (w.heap.size + 1 + 1) w.heap.size (by omega) A1 c1 (bd 10000 n) hlb W2 (by omega) (by omega) (ReadsInt.block HR1.out) hbc (HR1.out.below hS.bl))
      KB.trans (fun W l o o' hl _ _ _ => KB.putObj W l o' (by omega) (by omega)) (Below.refl _ _) (fun _ => rfl)
      (fun pre W => TSt w W b A1 (bd 10000 n).length c1 (sb n pre) ∧ pre.length ≤ GL n)
      (fun c pre W => False)
      (fun s A B row hs hg hr => by
        obtain ⟨k3, k4⟩ := hs
        have hr' := fun r e => (hr r e).2
        exact ⟨k3.own hg hr' (k3.bl.grown hg k3.bl.size (fun k e => by have := (hr k e).1; omega)), k4⟩)
      (fun _ _ _ _ _ hs _ _ => hs)
      ⟨hS, Nat.zero_le _⟩
      (fun x => { tmps := #[.agg #[.bool b, .slice A1 (bd 10000 n).length c1], .pointer (some ⟨w.heap.size, 0, none⟩), .string ⟨#[]⟩, .int .i64 0, .pointer (some ⟨w.heap.size + 1, 0, none⟩), .int .i64 ((x.1 : Nat) : Int), .int .i64 (rd (bd 10000 n) ((x.1 : Nat) : Int)), undef, undef,
          .pointer (some ⟨w.heap.size, 1, none⟩), .slice A1 (bd 10000 n).length c1, .int .i64 ((bd 10000 n).length : Int), .bool false, .pointer (some ⟨w.heap.size, 1, none⟩), .slice A1 (bd 10000 n).length c1,
          .func (.func 137) #[] #[.pointer (some ⟨w.heap.size + 1 + 1, 0, none⟩)], .int .i64 ((x.1 : Nat) : Int), .int .i64 (rd (bd 10000 n) ((x.1 : Nat) : Int)), undef, undef, undef, undef, undef, undef, undef, undef, undef, undef, undef, undef, undef, undef, undef, undef, undef, undef, undef, undef, undef, undef, undef, undef, undef], defers := [] }) ?assign ?body ?done ?stop
    case assign =>
      intro l x W K hK
      simp only [encB]
      gi_wp2
      exact hK
    case body =>
      rintro l pre x W ⟨hS', hpl0⟩ hpl
      have hx2 : rd (bd 10000 n) ((x.1 : Nat) : Int) = ((n / 10000 ^ x.1 % 10000 : Nat) : Int) := rd_bd n x.1
      have hd := Nat.mod_lt (n / 10000 ^ x.1) (show 10000 > 0 by omega)
      have hsn := sb_snoc n pre x
      unfold grp at hsn
      have hxl := x.2
      obtain ⟨p, hp⟩ : ∃ p : Nat, x.1 = p := ⟨_, rfl⟩
      rw [hx2]
      rw [hp] at hsn hd hxl ⊢
      generalize n / 10000 ^ p % 10000 = d at *
      have hsl := sb_len n pre
      have HSN := Aside0.mk hsn
      have HD := Aside0.mk hd
      have HSL : Aside0 ((sb n pre).length ≤ 4000) := ⟨by have := HLA.out; omega⟩
      have HPL : Aside0 ((pre ++ [x]).length ≤ GL n) := ⟨by rw [List.length_append, List.length_singleton]; have h3 : pre.length < GL n := hpl; omega⟩
      have HS' := Aside0.mk hS'
      clear hsn hd hsl hx2
      generalize sb n pre = bs at *
      have hsub : IntKind.i64.wrap (((bd 10000 n).length : Int) - 1) = ((bd 10000 n).length : Int) - 1 := IntWalk.i64_in _ (by omega)
      obtain ⟨c0, c2, f0, f2⟩ := pair_facts hS'.xb
      gi_wp2_with fail
      refine ⟨trivial, (CallsIn.inRound l (callsIn_wide.2 (itoa_calls d W HD.out (HT.out.below hS'.bl (Nat.le_refl _))))).mono ?_⟩
      rintro e W3 ⟨rfl, hb3⟩
      have hS3 := hS'.below hb3
      have HB3 := Aside0.mk hb3
      have HS3 := Aside0.mk hS3
      obtain ⟨c0, c2, f0, f2⟩ := pair_facts hS3.xb
      clear hb3 hS3 hS'
      have hl4 := dec_len4 HD.out
      obtain ⟨ds, hds⟩ : ∃ ds, Lib.decDigits d = ds := ⟨_, rfl⟩
      rw [hds] at hl4 ⊢
      have HDS := Aside0.mk hds
      have HL4 := Aside0.mk hl4
      clear hds
      have hsub2 : IntKind.i64.wrap (4 - (ds.length : Int)) = 4 - (ds.length : Int) := IntWalk.i64_in _ (by omega)
      by_cases hpt : p < GL n - 1
      · have hlt : (p : Int) < ((bd 10000 n).length : Int) - 1 := by unfold GL at hpt; omega
        have b1 : decide ((p : Int) < ((bd 10000 n).length : Int) - 1) = true := decide_eq_true hlt
        rw [if_pos hpt] at HSN
        have HLT := Aside0.mk hpt
        clear hpt hlt
        gi_wp2_with fail
        have hc := repeat_calls (4 - ds.length) W3 (by omega)
        rw [show ((4 - ds.length : Nat) : Int) = 4 - (ds.length : Int) by omega] at hc
        refine ⟨trivial, (CallsIn.inRound l (callsIn_wide.2 hc)).mono ?_⟩
        clear hc
        rintro e W4 ⟨rfl, hb4⟩
        have hS4 := HS3.out.below hb4
        obtain ⟨c0, c2, f0, f2⟩ := pair_facts hS4.xb
        have HB4 := Aside0.mk (HB3.out.trans (hb4.mono HB3.out.size))
        have HS4 := Aside0.mk hS4
        have HRL := Aside0.mk (by rw [Lib.repeatL_length]; simp : (Lib.repeatL [48] (4 - ds.length)).length ≤ 4)
        clear hb4 hS4 HB3 HS3
        gi_wp2_with fail
        · rename_i hbad
          exact absurd hbad (by have := HRL.out; have := HL4.out; omega)
        · refine ⟨trivial, (CallsIn.inRound l (callsIn_wide.2 (write_calls HS4.out _ (by rw [Lib.size_eq, data_append]; have := HSL.out; have := HRL.out; have := HL4.out; simp only [List.length_append]; omega)))).mono ?_⟩
          rintro e W5 ⟨v5, rfl, hS5, hk5, hkb5⟩
          rw [data_append] at hS5
          have HS5 := Aside0.mk hS5
          have HK5 := Aside0.mk hk5
          have HKB5 := Aside0.mk hkb5
          clear hS5 hk5 hkb5
          gi_wp2_with fail
          exact ⟨(others_of_below HB4.out).trans HK5.out, (KB.of_below HB4.out HS'.out.bl.size (by have := HS'.out.sz; omega)).trans HKB5.out, by rw [HSN.out, pad4, HDS.out]; exact HS5.out, HPL.out⟩
      · have hlt : ¬ (p : Int) < ((bd 10000 n).length : Int) - 1 := by unfold GL at hpt; omega
        have b1 : decide ((p : Int) < ((bd 10000 n).length : Int) - 1) = false := decide_eq_false hlt
        rw [if_neg hpt] at HSN
        clear hpt hlt
        gi_wp2_with fail
        refine ⟨trivial, (CallsIn.inRound l (callsIn_wide.2 (write_calls HS3.out ⟨ds.toArray⟩ (by have := HSL.out; show bs.length + ds.length ≤ _; omega)))).mono ?_⟩
        rintro e W5 ⟨v5, rfl, hS5, hk5, hkb5⟩
        have HS5 := Aside0.mk hS5
        have HK5 := Aside0.mk hk5
        have HKB5 := Aside0.mk hkb5
        clear hS5 hk5 hkb5
        gi_wp2_with fail
        exact ⟨(others_of_below HB3.out).trans HK5.out, (KB.of_below HB3.out HS'.out.bl.size (by have := HS'.out.sz; omega)).trans HKB5.out, by rw [HSN.out, HDS.out]; exact HS5.out, HPL.out⟩
    case done =>
      rintro D ys W hD rfl ⟨hS', hpl0⟩ hK
      rw [sb_all HN.out] at hS'
      have HS' := Aside0.mk hS'
      clear hS' hpl0
      gi_wp2_with fail
      refine ⟨trivial, (callsIn_wide.2 (Tryz.Builder_String_any_k (w.heap.size + 1) (w.heap.size + 1) (Lib.decDigits n) W HS'.out.ob (by have := HS'.out.sz; omega))).mono ?_⟩
      rintro e W4 ⟨rfl, hb4, hbl4, ho4⟩
      obtain ⟨ds, hds⟩ : ∃ ds, Lib.decDigits n = ds := ⟨_, rfl⟩
      rw [hds]
      have hK4 : W4.heap[D]? = some (.deferred (some [])) := ho4 _ _ hK (by intro e; injection e with e; have hx := HS'.out.ob; subst e; rcases hx with h1 | h1 <;> (obtain ⟨_, v1, hv1, _⟩ := h1; rw [hK] at hv1; cases hv1)) (by intro c fz e; cases e)
      have hxb4 := (hbl4.block _ (Nat.lt_succ_self _)).trans HS'.out.xb
      obtain ⟨c0, c2, f0, f2⟩ := pair_facts hxb4
      have HDS := Aside0.mk hds
      have HK4 := Aside0.mk hK4
      have HBL := Aside0.mk (HS'.out.bl.trans (hbl4.mono (Nat.le_succ _)))
      have HDD := Aside0.mk hD
      clear hb4 hbl4 ho4 hK4 hds
      have hend := text_end HX.out HN.out HDS.out
      rcases Nat.lt_or_ge 200 ds.length with hl | hl
      · have e1 : decide (200 < (ds.length : Int)) = true := decide_eq_true (by omega)
        have e2 : decide (200 < ds.length) = true := decide_eq_true hl
        have HE := Aside0.mk (hend.1 hl)
        clear hend hl
        gi_wp2_with fail
        refine ⟨by simp, .inl ⟨_, _, rfl, run_takeDeferred HK4.out, ?_⟩⟩
        refine ⟨.tuple #[.string ⟨#[]⟩, .int .i64 30], ?_, by rw [HE.out], HBL.out.trans (belowK_b (w := w) (Nat.le_refl _) _ D _ _ (by have := HDD.out; omega) HK4.out rfl rfl)⟩
        simp [results, Tryz.f82, go_sem]
      · have e1 : decide (200 < (ds.length : Int)) = false := decide_eq_false (by omega)
        have e2 : decide (200 < ds.length) = false := decide_eq_false (by omega)
        have HL := Aside0.mk hl
        have HE := Aside0.mk (hend.2 hl)
        clear hend hl
        cases b
        · gi_wp2_with fail
          refine ⟨by simp, .inl ⟨_, _, rfl, run_takeDeferred HK4.out, ?_⟩⟩
          refine ⟨.tuple #[.string ⟨ds.toArray⟩, .int .i64 0], ?_, by rw [HE.out]; rfl, HBL.out.trans (belowK_b (w := w) (Nat.le_refl _) _ D _ _ (by have := HDD.out; omega) HK4.out rfl rfl)⟩
          simp [results, Tryz.f82, go_sem]
        · gi_wp2_with fail
          · rename_i hbad
            exact absurd hbad (by have := HL.out; omega)
          · refine ⟨by simp, .inl ⟨_, _, rfl, run_takeDeferred HK4.out, ?_⟩⟩
            refine ⟨.tuple #[.string (⟨#[45]⟩ ++ ⟨ds.toArray⟩), .int .i64 0], ?_, by rw [HE.out, show ((⟨#[45]⟩ : ByteArray) ++ ⟨ds.toArray⟩) = ⟨(45 :: ds).toArray⟩ from ba_of (data_append [45] ds)]; rfl, HBL.out.trans (belowK_b (w := w) (Nat.le_refl _) _ D _ _ (by have := HDD.out; omega) HK4.out rfl rfl)⟩
            simp [results, Tryz.f82, go_sem]
    case stop =>
      rintro D c pre W _ _ h _
      exact h.elim

end Go.Proofs.YtnhjidbjibehpaaGreatDoor.L3
