/- Layer 3, walked: both. -/
import Derived.Test.YtnhjidbjibehpaaGreatDoorIo
namespace Go.Proofs.YtnhjidbjibehpaaGreatDoor.L3
open Go.Shelf Go.RowKit Go.Proofs.YtnhjidbjibehpaaGreatDoorW.PrintWords Go.Proofs.YtnhjidbjibehpaaGreatDoorW.PrintLast Go.Proofs.YtnhjidbjibehpaaGreatDoorW.PrintMore Yd
set_option linter.unusedVariables false
set_option linter.unusedSimpArgs false

theorem pair_facts {W : World} {B : Nat} {a b : Value} {t : TypeId} (h : W.heap[B]? = some (.cells #[a, b] t)) :
    W.cell? ⟨B, 0, none⟩ = some a ∧ W.cell? ⟨B, 1, none⟩ = some b ∧ W.frozen? ⟨B, 0, none⟩ = false ∧ W.frozen? ⟨B, 1, none⟩ = false :=
  ⟨blk_cell h 0, blk_cell h 1, blk_frozen h 0, blk_frozen h 1⟩
theorem Sg.agg {w : World} {v : Value} {x : Int} (h : Sg w v x) : ∃ b A l c, v = .agg #[.bool b, .slice A l c] := by
  obtain ⟨b, u, n, rfl, ⟨A, c, rfl, _⟩, _⟩ := h
  exact ⟨b, A, _, c, rfl⟩
theorem Sp.agg {w : World} {v : Value} {x : Int} (h : Sp w v x) : ∃ b A l c, v = .agg #[.bool b, .slice A l c] := Sg.agg h.sg
theorem Sp.setPair {W : World} {B i : Nat} {ty : TypeId} {b0 : Bool} {A0 : Option Addr} {l0 c0 : Nat} {v : Value} {x : Int} (h : Sp W v x) (hb : W.heap[B]? = some (.cells #[.bool b0, .slice A0 l0 c0] ty)) (u : Value) : Sp (W.setCell ⟨B, i, none⟩ u) v x := by
  obtain ⟨u', n, h1, h2, h3⟩ := h
  exact ⟨u', n, h1, h2.setPair hb u, h3⟩
theorem Sg.setPair {W : World} {B i : Nat} {ty : TypeId} {b0 : Bool} {A0 : Option Addr} {l0 c0 : Nat} {v : Value} {x : Int} (h : Sg W v x) (hb : W.heap[B]? = some (.cells #[.bool b0, .slice A0 l0 c0] ty)) (u : Value) : Sg (W.setCell ⟨B, i, none⟩ u) v x := by
  obtain ⟨b, u', n, h1, h2, h3⟩ := h
  exact ⟨b, u', n, h1, h2.setPair hb u, h3⟩

/-- two boxes for the numbers that both returns -/
structure PB2 (w W : World) : Prop where
  bl : Below w.heap.size w W
  p0 : W.heap[w.heap.size]? = some (.cells #[.bool false, .slice none 0 0] 100)
  p1 : W.heap[w.heap.size + 1]? = some (.cells #[.bool false, .slice none 0 0] 100)
theorem PB2.start (w : World) : PB2 w ((w.alloc (.cells #[.bool false, .slice none 0 0] 100)).alloc (.cells #[.bool false, .slice none 0 0] 100)) := by
  refine ⟨below_alloc (below_alloc (Below.refl _ w) _) _, ?_, ?_⟩
  · exact (alloc_old _ _ (by rw [World.size_alloc]; omega)).trans (alloc_here w _)
  · have := alloc_here (w.alloc (.cells #[.bool false, .slice none 0 0] 100)) (.cells #[.bool false, .slice none 0 0] 100)
    rwa [World.size_alloc] at this
theorem PB2.next {w W W' : World} (h : PB2 w W) (hb : Below W.heap.size W W') : PB2 w W' :=
  ⟨h.bl.trans (hb.mono h.bl.size), (hb.block _ (blk_lt h.p0)).trans h.p0, (hb.block _ (blk_lt h.p1)).trans h.p1⟩
theorem PB2.sets {w W : World} (h : PB2 w W) (b b' : Bool) (A A' : Option Addr) (l l' c c' : Nat) {W' : World}
    (e : W' = ((((W.setCell ⟨w.heap.size, 0, none⟩ (.bool b)).setCell ⟨w.heap.size, 1, none⟩ (.slice A l c)).setCell ⟨w.heap.size + 1, 0, none⟩ (.bool b')).setCell ⟨w.heap.size + 1, 1, none⟩ (.slice A' l' c'))) :
    Below w.heap.size w W' ∧ W'.heap[w.heap.size]? = some (.cells #[.bool b, .slice A l c] 100) ∧ W'.heap[w.heap.size + 1]? = some (.cells #[.bool b', .slice A' l' c'] 100) ∧
    (∀ v x, Sp W v x → Sp W' v x) := by
  subst e
  have s1 := blk_set (blk_set h.p0 0 (.bool b)) 1 (.slice A l c)
  have s2 : ((W.setCell ⟨w.heap.size, 0, none⟩ (.bool b)).setCell ⟨w.heap.size, 1, none⟩ (.slice A l c)).heap[w.heap.size + 1]? = _ :=
    blk_far (blk_far h.p1 (p := ⟨w.heap.size, 0, none⟩) (by show w.heap.size + 1 ≠ w.heap.size; omega) _) (p := ⟨w.heap.size, 1, none⟩) (by show w.heap.size + 1 ≠ w.heap.size; omega) _
  refine ⟨?_, ?_, blk_set (blk_set s2 0 (.bool b')) 1 (.slice A' l' c'), ?_⟩
  · exact (((h.bl.setCell (p := ⟨w.heap.size, 0, none⟩) (Nat.le_refl _) _).setCell (p := ⟨w.heap.size, 1, none⟩) (Nat.le_refl _) _).setCell (p := ⟨w.heap.size + 1, 0, none⟩) (Nat.le_succ _) _).setCell (p := ⟨w.heap.size + 1, 1, none⟩) (Nat.le_succ _) _
  · exact blk_far (blk_far s1 (p := ⟨w.heap.size + 1, 0, none⟩) (by show w.heap.size ≠ w.heap.size + 1; omega) _) (p := ⟨w.heap.size + 1, 1, none⟩) (by show w.heap.size ≠ w.heap.size + 1; omega) _
  · intro v x hx
    have t1 := Sp.setPair (i := 0) hx h.p0 (.bool b)
    have t2 := Sp.setPair (i := 1) t1 (blk_set h.p0 0 (.bool b)) (.slice A l c)
    have t3 := Sp.setPair (i := 0) t2 s2 (.bool b')
    exact Sp.setPair (i := 1) t3 (blk_set s2 0 (.bool b')) _

set_option maxRecDepth 100000 in
set_option maxHeartbeats 4000000 in
/-- both, when one of the texts is no integer -/
theorem both_no (s t : ByteArray) (w : World) (h : ival s.data.toList = none ∨ ival t.data.toList = none) :
    Calls Tryz.prog 79 #[.string s, .string t] w fun e w' => e = .returned (.tuple #[.agg #[.bool false, .slice none 0 0], .agg #[.bool false, .slice none 0 0], .bool false]) ∧ Below w.heap.size w w' := by
  have hv : ivalid s.data.toList = false ∨ (ivalid s.data.toList = true ∧ ivalid t.data.toList = false) := by
    rw [ivalid_iff_isSome, ivalid_iff_isSome]
    cases h1 : ival s.data.toList <;> cases h2 : ival t.data.toList <;> simp_all
  have HP := Aside0.mk (PB2.start w)
  go_enter Tryz.func79, Tryz.ntmps79
  go_wp2_with fail
  refine (isValid_calls s _).mono ?_
  rintro e w1 ⟨rfl, hb1⟩
  rcases hv with hv | ⟨hv1, hv2⟩
  · rw [hv]
    have HQ := Aside0.mk (HP.out.next hb1)
    obtain ⟨c0, c1, f0, f1⟩ := pair_facts HQ.out.p0
    obtain ⟨d0, d1, g0, g1⟩ := pair_facts HQ.out.p1
    clear hb1 HP
    go_wp2_with fail
    obtain ⟨e1, e2, e3, e4⟩ := HQ.out.sets false false none none 0 0 0 0 rfl
    refine bodyPost_ret (results_list (rs := [.cell _ _, .cell _ _, .tmp _]) rfl (by simp) (.cell w.heap.size 100 _ (0, 0) _ rfl e2 Tryz.underlying100 rfl (by kernel_rfl) (.cell (w.heap.size + 1) 100 _ (0, 0) _ rfl e3 Tryz.underlying100 rfl (by kernel_rfl) (.tmp .nil)))) rfl ?_
    exact ⟨rfl, e1⟩
  · rw [hv1]
    have HQ := Aside0.mk (HP.out.next hb1)
    clear hb1
    go_wp2_with fail
    refine (isValid_calls t _).mono ?_
    rintro e w2 ⟨rfl, hb2⟩
    rw [hv2]
    have HQ2 := Aside0.mk (HQ.out.next hb2)
    obtain ⟨c0, c1, f0, f1⟩ := pair_facts HQ2.out.p0
    obtain ⟨d0, d1, g0, g1⟩ := pair_facts HQ2.out.p1
    clear hb2 HQ HP
    go_wp2_with fail
    obtain ⟨e1, e2, e3, e4⟩ := HQ2.out.sets false false none none 0 0 0 0 rfl
    refine bodyPost_ret (results_list (rs := [.cell _ _, .cell _ _, .tmp _]) rfl (by simp) (.cell w.heap.size 100 _ (0, 0) _ rfl e2 Tryz.underlying100 rfl (by kernel_rfl) (.cell (w.heap.size + 1) 100 _ (0, 0) _ rfl e3 Tryz.underlying100 rfl (by kernel_rfl) (.tmp .nil)))) rfl ?_
    exact ⟨rfl, e1⟩

set_option maxRecDepth 100000 in
set_option maxHeartbeats 4000000 in
/-- both -/
theorem both_yes (s t : ByteArray) (x y : Int) (w : World) (h1 : ival s.data.toList = some x) (h2 : ival t.data.toList = some y) :
    Calls Tryz.prog 79 #[.string s, .string t] w fun e w' => ∃ v v', e = .returned (.tuple #[v, v', .bool true]) ∧ Sp w' v x ∧ Sp w' v' y ∧ Below w.heap.size w w' := by
  have e1 : ivalid s.data.toList = true := by rw [ivalid_iff_isSome, h1]; rfl
  have e2 : ivalid t.data.toList = true := by rw [ivalid_iff_isSome, h2]; rfl
  have HP := Aside0.mk (PB2.start w)
  have H1 := Aside0.mk h1
  have H2 := Aside0.mk h2
  clear h1 h2
  go_enter Tryz.func79, Tryz.ntmps79
  go_wp2_with fail
  refine (isValid_calls s _).mono ?_
  rintro e w1 ⟨rfl, hb1⟩
  rw [e1]
  have HQ1 := Aside0.mk (HP.out.next hb1)
  clear hb1 HP
  go_wp2_with fail
  refine (isValid_calls t _).mono ?_
  rintro e w2 ⟨rfl, hb2⟩
  rw [e2]
  have HQ := Aside0.mk (HQ1.out.next hb2)
  clear hb2 HQ1
  go_wp2_with fail
  refine (parse_calls s x _ H1.out).mono ?_
  rintro e W3 ⟨v3, rfl, hs3, hb3⟩
  obtain ⟨b3, A3, l3, c3, rfl⟩ := hs3.agg
  have HQ3 := Aside0.mk (PB2.next HQ.out hb3)
  have HS3 := Aside0.mk hs3
  clear hs3 hb3 HQ
  go_wp2_with fail
  refine (parse_calls t y _ H2.out).mono ?_
  rintro e W4 ⟨v4, rfl, hs4, hb4⟩
  obtain ⟨b4, A4, l4, c4, rfl⟩ := hs4.agg
  have HQ4 := Aside0.mk (PB2.next HQ3.out hb4)
  have HS4 := Aside0.mk hs4
  have HS3' := Aside0.mk (HS3.out.below hb4)
  obtain ⟨c0, c1, f0, f1⟩ := pair_facts HQ4.out.p0
  obtain ⟨d0, d1, g0, g1⟩ := pair_facts HQ4.out.p1
  clear hs4 hb4 HQ3 HS3
  go_wp2_with fail
  obtain ⟨e1, e2, e3, e4⟩ := HQ4.out.sets b3 b4 A3 A4 l3 l4 c3 c4 rfl
  refine bodyPost_ret (results_list (rs := [.cell _ _, .cell _ _, .tmp _]) rfl (by simp) (.cell w.heap.size 100 _ (0, 0) _ rfl e2 Tryz.underlying100 rfl (by kernel_rfl) (.cell (w.heap.size + 1) 100 _ (0, 0) _ rfl e3 Tryz.underlying100 rfl (by kernel_rfl) (.tmp .nil)))) rfl ?_
  exact ⟨_, _, rfl, e4 _ _ HS3'.out, e4 _ _ HS4.out, e1⟩

end Go.Proofs.YtnhjidbjibehpaaGreatDoor.L3
