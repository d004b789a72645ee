/- Layer 3, walked: both. -/
import Derived.Test.YtnhjidbjibehpaaGreatDoorZe
import Derived.Test.YtnhjidbjibehpaaGreatDoorZd
import Derived.RangeFuncNested
import Derived.RangeFuncBox
import Derived.RangeFuncLeaves
import Derived.RangeFuncBound
import Derived.RangeFuncCalls
import Derived.Shelf.RegionOpen
import Derived.OwnWalkIn
import Derived.TacticsInMore
import Derived.LoopNIn
import Derived.LoopIn
import Derived.Stop.RegionWithIn
import Derived.Deep.DeepMust
namespace Go.Proofs.YtnhjidbjibehpaaGreatDoor.L3
open Go.Shelf Go.RowKit Go.Proofs.YtnhjidbjibehpaaGreatDoorW.PrintWords Go.Proofs.YtnhjidbjibehpaaGreatDoorW.PrintLast Go.Proofs.YtnhjidbjibehpaaGreatDoorW.PrintMore Yd
set_option linter.unusedVariables false
set_option linter.unusedSimpArgs false

theorem pair_facts {W : World} {B : Nat} {a b : Value} {t : TypeId} (h : W.heap[B]? = some (.cells #[a, b] t)) :
    W.cell? ⟨B, 0, none⟩ = some a ∧ W.cell? ⟨B, 1, none⟩ = some b ∧ W.frozen? ⟨B, 0, none⟩ = false ∧ W.frozen? ⟨B, 1, none⟩ = false :=
  ⟨blk_cell h 0, blk_cell h 1, blk_frozen h 0, blk_frozen h 1⟩
theorem Sg.agg {w : World} {v : Value} {x : Int} (h : Sg w v x) : ∃ b A l c, v = .agg #[.bool b, .slice A l c] := by
  obtain ⟨b, u, n, rfl, ⟨A, c, rfl, _⟩, _⟩ := h
  exact ⟨b, A, _, c, rfl⟩
theorem Sp.agg {w : World} {v : Value} {x : Int} (h : Sp w v x) : ∃ b A l c, v = .agg #[.bool b, .slice A l c] := Sg.agg h.sg
theorem Sp.setPair {W : World} {B i : Nat} {ty : TypeId} {b0 : Bool} {A0 : Option Addr} {l0 c0 : Nat} {v : Value} {x : Int} (h : Sp W v x) (hb : W.heap[B]? = some (.cells #[.bool b0, .slice A0 l0 c0] ty)) (u : Value) : Sp (W.setCell ⟨B, i, none⟩ u) v x := by
  obtain ⟨u', n, h1, h2, h3⟩ := h
  exact ⟨u', n, h1, h2.setPair hb u, h3⟩
/-- two boxes for the numbers that both returns -/
structure PB2 (w W : World) : Prop where
  bl : Below w.heap.size w W
  p0 : W.heap[w.heap.size]? = some (.cells #[.bool false, .slice none 0 0] 100)
  p1 : W.heap[w.heap.size + 1]? = some (.cells #[.bool false, .slice none 0 0] 100)
theorem PB2.start (w : World) : PB2 w ((w.alloc (.cells #[.bool false, .slice none 0 0] 100)).alloc (.cells #[.bool false, .slice none 0 0] 100)) := by
  refine ⟨below_alloc (below_alloc (Below.refl _ w) _) _, ?_, ?_⟩
  · exact (alloc_old _ _ (by rw [World.size_alloc]; omega)).trans (alloc_here w _)
  · have := alloc_here (w.alloc (.cells #[.bool false, .slice none 0 0] 100)) (.cells #[.bool false, .slice none 0 0] 100)
    rwa [World.size_alloc] at this
theorem PB2.next {w W W' : World} (h : PB2 w W) (hb : Below W.heap.size W W') : PB2 w W' :=
  ⟨h.bl.trans (hb.mono h.bl.size), (hb.block _ (blk_lt h.p0)).trans h.p0, (hb.block _ (blk_lt h.p1)).trans h.p1⟩
theorem PB2.sets {w W : World} (h : PB2 w W) (b b' : Bool) (A A' : Option Addr) (l l' c c' : Nat) {W' : World}
    (e : W' = ((((W.setCell ⟨w.heap.size, 0, none⟩ (.bool b)).setCell ⟨w.heap.size, 1, none⟩ (.slice A l c)).setCell ⟨w.heap.size + 1, 0, none⟩ (.bool b')).setCell ⟨w.heap.size + 1, 1, none⟩ (.slice A' l' c'))) :
    Below w.heap.size w W' ∧ W'.heap[w.heap.size]? = some (.cells #[.bool b, .slice A l c] 100) ∧ W'.heap[w.heap.size + 1]? = some (.cells #[.bool b', .slice A' l' c'] 100) ∧
    (∀ v x, Sp W v x → Sp W' v x) := by
  subst e
  have s1 := blk_set (blk_set h.p0 0 (.bool b)) 1 (.slice A l c)
  have s2 : ((W.setCell ⟨w.heap.size, 0, none⟩ (.bool b)).setCell ⟨w.heap.size, 1, none⟩ (.slice A l c)).heap[w.heap.size + 1]? = _ :=
    blk_far (blk_far h.p1 (p := ⟨w.heap.size, 0, none⟩) (by show w.heap.size + 1 ≠ w.heap.size; omega) _) (p := ⟨w.heap.size, 1, none⟩) (by show w.heap.size + 1 ≠ w.heap.size; omega) _
  refine ⟨?_, ?_, blk_set (blk_set s2 0 (.bool b')) 1 (.slice A' l' c'), ?_⟩
  · exact (((h.bl.setCell (p := ⟨w.heap.size, 0, none⟩) (Nat.le_refl _) _).setCell (p := ⟨w.heap.size, 1, none⟩) (Nat.le_refl _) _).setCell (p := ⟨w.heap.size + 1, 0, none⟩) (Nat.le_succ _) _).setCell (p := ⟨w.heap.size + 1, 1, none⟩) (Nat.le_succ _) _
  · exact blk_far (blk_far s1 (p := ⟨w.heap.size + 1, 0, none⟩) (by show w.heap.size ≠ w.heap.size + 1; omega) _) (p := ⟨w.heap.size + 1, 1, none⟩) (by show w.heap.size ≠ w.heap.size + 1; omega) _
  · intro v x hx
    have t1 := Sp.setPair (i := 0) hx h.p0 (.bool b)
    have t2 := Sp.setPair (i := 1) t1 (blk_set h.p0 0 (.bool b)) (.slice A l c)
    have t3 := Sp.setPair (i := 0) t2 s2 (.bool b')
    exact Sp.setPair (i := 1) t3 (blk_set s2 0 (.bool b')) _

set_option maxRecDepth 100000 in
set_option maxHeartbeats 4000000 in
/-- both, when one of the texts is no integer -/
theorem both_no (s t : ByteArray) (w : World) (h : ival s.data.toList = none ∨ ival t.data.toList = none) :
    Calls Tryz.prog 79 #[.string s, .string t] w fun e w' => e = .returned (.tuple #[.agg #[.bool false, .slice none 0 0], .agg #[.bool false, .slice none 0 0], .bool false]) ∧ Below w.heap.size w w' := by
  have hv : ivalid s.data.toList = false ∨ (ivalid s.data.toList = true ∧ ivalid t.data.toList = false) := by
    rw [ivalid_iff_isSome, ivalid_iff_isSome]
    cases h1 : ival s.data.toList <;> cases h2 : ival t.data.toList <;> simp_all
  have HP := Aside0.mk (PB2.start w)
  go_enter Tryz.func79, Tryz.ntmps79
  go_wp2_with fail
  refine (isValid_calls s _).mono ?_
  rintro e w1 ⟨rfl, hb1⟩
  rcases hv with hv | ⟨hv1, hv2⟩
  · rw [hv]
    have HQ := Aside0.mk (HP.out.next hb1)
    obtain ⟨c0, c1, f0, f1⟩ := pair_facts HQ.out.p0
    obtain ⟨d0, d1, g0, g1⟩ := pair_facts HQ.out.p1
    clear hb1 HP
    go_wp2_with fail
    obtain ⟨e1, e2, e3, e4⟩ := HQ.out.sets false false none none 0 0 0 0 rfl
    refine bodyPost_ret (results_list (rs := [.cell _ _, .cell _ _, .tmp _]) rfl (by simp) (.cell w.heap.size 100 _ (0, 0) _ rfl e2 Tryz.underlying100 rfl (by kernel_rfl) (.cell (w.heap.size + 1) 100 _ (0, 0) _ rfl e3 Tryz.underlying100 rfl (by kernel_rfl) (.tmp .nil)))) rfl ?_
    exact ⟨rfl, e1⟩
  · rw [hv1]
    have HQ := Aside0.mk (HP.out.next hb1)
    clear hb1
    go_wp2_with fail
    refine (isValid_calls t _).mono ?_
    rintro e w2 ⟨rfl, hb2⟩
    rw [hv2]
    have HQ2 := Aside0.mk (HQ.out.next hb2)
    obtain ⟨c0, c1, f0, f1⟩ := pair_facts HQ2.out.p0
    obtain ⟨d0, d1, g0, g1⟩ := pair_facts HQ2.out.p1
    clear hb2 HQ HP
    go_wp2_with fail
    obtain ⟨e1, e2, e3, e4⟩ := HQ2.out.sets false false none none 0 0 0 0 rfl
    refine bodyPost_ret (results_list (rs := [.cell _ _, .cell _ _, .tmp _]) rfl (by simp) (.cell w.heap.size 100 _ (0, 0) _ rfl e2 Tryz.underlying100 rfl (by kernel_rfl) (.cell (w.heap.size + 1) 100 _ (0, 0) _ rfl e3 Tryz.underlying100 rfl (by kernel_rfl) (.tmp .nil)))) rfl ?_
    exact ⟨rfl, e1⟩

set_option maxRecDepth 100000 in
set_option maxHeartbeats 4000000 in
/-- both -/
theorem both_yes (s t : ByteArray) (x y : Int) (w : World) (h1 : ival s.data.toList = some x) (h2 : ival t.data.toList = some y) :
    Calls Tryz.prog 79 #[.string s, .string t] w fun e w' => ∃ v v', e = .returned (.tuple #[v, v', .bool true]) ∧ Sp w' v x ∧ Sp w' v' y ∧ Below w.heap.size w w' := by
  have e1 : ivalid s.data.toList = true := by rw [ivalid_iff_isSome, h1]; rfl
  have e2 : ivalid t.data.toList = true := by rw [ivalid_iff_isSome, h2]; rfl
  have HP := Aside0.mk (PB2.start w)
  have H1 := Aside0.mk h1
  have H2 := Aside0.mk h2
  clear h1 h2
  go_enter Tryz.func79, Tryz.ntmps79
  go_wp2_with fail
  refine (isValid_calls s _).mono ?_
  rintro e w1 ⟨rfl, hb1⟩
  rw [e1]
  have HQ1 := Aside0.mk (HP.out.next hb1)
  clear hb1 HP
  go_wp2_with fail
  refine (isValid_calls t _).mono ?_
  rintro e w2 ⟨rfl, hb2⟩
  rw [e2]
  have HQ := Aside0.mk (HQ1.out.next hb2)
  clear hb2 HQ1
  go_wp2_with fail
  refine (parse_calls s x _ H1.out).mono ?_
  rintro e W3 ⟨v3, rfl, hs3, hb3⟩
  obtain ⟨b3, A3, l3, c3, rfl⟩ := hs3.agg
  have HQ3 := Aside0.mk (PB2.next HQ.out hb3)
  have HS3 := Aside0.mk hs3
  clear hs3 hb3 HQ
  go_wp2_with fail
  refine (parse_calls t y _ H2.out).mono ?_
  rintro e W4 ⟨v4, rfl, hs4, hb4⟩
  obtain ⟨b4, A4, l4, c4, rfl⟩ := hs4.agg
  have HQ4 := Aside0.mk (PB2.next HQ3.out hb4)
  have HS4 := Aside0.mk hs4
  have HS3' := Aside0.mk (HS3.out.below hb4)
  obtain ⟨c0, c1, f0, f1⟩ := pair_facts HQ4.out.p0
  obtain ⟨d0, d1, g0, g1⟩ := pair_facts HQ4.out.p1
  clear hs4 hb4 HQ3 HS3
  go_wp2_with fail
  obtain ⟨e1, e2, e3, e4⟩ := HQ4.out.sets b3 b4 A3 A4 l3 l4 c3 c4 rfl
  refine bodyPost_ret (results_list (rs := [.cell _ _, .cell _ _, .tmp _]) rfl (by simp) (.cell w.heap.size 100 _ (0, 0) _ rfl e2 Tryz.underlying100 rfl (by kernel_rfl) (.cell (w.heap.size + 1) 100 _ (0, 0) _ rfl e3 Tryz.underlying100 rfl (by kernel_rfl) (.tmp .nil)))) rfl ?_
  exact ⟨_, _, rfl, e4 _ _ HS3'.out, e4 _ _ HS4.out, e1⟩

end Go.Proofs.YtnhjidbjibehpaaGreatDoor.L3

/- Layer 3, walked: slices.Backward over the groups of a number. -/
namespace Go.Proofs.YtnhjidbjibehpaaGreatDoor.L3
open Go.Shelf Go.RowKit Go.Proofs.YtnhjidbjibehpaaGreatDoorW.PrintWords Go.Proofs.YtnhjidbjibehpaaGreatDoorW.PrintLast Go.Proofs.YtnhjidbjibehpaaGreatDoorW.PrintMore Yd
set_option linter.unusedVariables false
set_option linter.unusedSimpArgs false
attribute [local go_sem] Oper.semAt_some

/-- the places of a list, from the end -/
def down (N : Nat) : List (Fin N) := (List.finRange N).reverse
theorem down_length (N : Nat) : (down N).length = N := by simp [down]
theorem down_get (N k : Nat) (h : k < N) : (down N)[k]? = some ⟨N - 1 - k, by omega⟩ := by
  rw [List.getElem?_eq_getElem (by rw [down_length]; exact h)]
  simp [down, List.getElem_reverse]
theorem down_take_succ (N k : Nat) (h : k < N) : (down N).take (k + 1) = (down N).take k ++ [⟨N - 1 - k, by omega⟩] := by
  rw [List.take_add_one, down_get N k h]; rfl
theorem down_take_all (N : Nat) : (down N).take N = down N := List.take_of_length_le (by rw [down_length]; omega)

/-- three boxes, one behind the other -/
structure Boxes3 (w W : World) (x y z : Value) : Prop where
  below : Below w.heap.size w W
  c0 : W.cell? ⟨w.heap.size, 0, none⟩ = some x
  c1 : W.cell? ⟨w.heap.size + 1, 0, none⟩ = some y
  c2 : W.cell? ⟨w.heap.size + 1 + 1, 0, none⟩ = some z
  f0 : W.frozen? ⟨w.heap.size, 0, none⟩ = false
  f1 : W.frozen? ⟨w.heap.size + 1, 0, none⟩ = false
  f2 : W.frozen? ⟨w.heap.size + 1 + 1, 0, none⟩ = false
  size : W.heap.size = w.heap.size + 3
theorem boxes3 (w : World) (x y z : Value) (t u v : TypeId) : Boxes3 w (((w.alloc (.cells #[x] t)).alloc (.cells #[y] u)).alloc (.cells #[z] v)) x y z :=
  ⟨below_alloc (below_alloc (below_alloc (Below.refl _ _) _) _) _, by simp [go_sem], by simp [go_sem], by simp [go_sem], by simp [go_sem], by simp [go_sem], by simp [go_sem], by simp⟩

theorem Drawn0.others {w w' : World} (h : Drawn0 w w') : KeepsOthers w w' := by
  obtain ⟨n, rfl⟩ := h.out
  exact ⟨Nat.le_refl _, fun _ _ h _ => h⟩
theorem Drawn0.cell {w w' : World} (h : Drawn0 w w') (a : Addr) : w'.cell? a = w.cell? a := by
  obtain ⟨n, rfl⟩ := h.out; rfl
theorem Drawn0.frozen {w w' : World} (h : Drawn0 w w') (a : Addr) : w'.frozen? a = w.frozen? a := by
  obtain ⟨n, rfl⟩ := h.out; rfl
theorem Drawn0.below_of {w W w' : World} {B : Nat} (h : Drawn0 W w') (hb : Below B w W) : Below B w w' := by
  obtain ⟨n, rfl⟩ := h.out
  exact pw_below_drewN hb n

/-- what a round that goes on keeps: all below n₀, and one block more -/
def KB (n₀ Bs : Nat) (W W' : World) : Prop := Below n₀ W W' ∧ W'.heap[Bs]? = W.heap[Bs]?
theorem KB.refl (n₀ Bs : Nat) (W : World) : KB n₀ Bs W W := ⟨Below.refl _ _, rfl⟩
theorem KB.trans {n₀ Bs : Nat} {A B C : World} (h : KB n₀ Bs A B) (h' : KB n₀ Bs B C) : KB n₀ Bs A C := ⟨h.1.trans h'.1, h'.2.trans h.2⟩
theorem KB.cellB {n₀ Bs : Nat} {A B : World} (h : KB n₀ Bs A B) : B.cell? ⟨Bs, 0, none⟩ = A.cell? ⟨Bs, 0, none⟩ := World.cell?_of_block (w := A) h.2
theorem KB.putObj {n₀ Bs : Nat} (W : World) (l : Nat) (o : Obj) (h1 : n₀ ≤ l) (h2 : Bs < l) : KB n₀ Bs W (W.putObj l o) :=
  ⟨⟨rfl, rfl, rfl, by simp, fun k hk => World.putObj_heap_other (by omega)⟩, World.putObj_heap_other (by omega)⟩

/-- what a round over the groups is handed -/
def encB (xs : List Int) (x : Fin xs.length) : Array Value := #[.int .i64 ((x.1 : Nat) : Int), .int .i64 (rd xs ((x.1 : Nat) : Int))]

set_option maxRecDepth 100000 in
set_option maxHeartbeats 2000000 in
theorem back1_in (n l Bs n₀ : Nat) (hn1 : 1 ≤ n) (A : Option Addr) (c : Nat) (xs : List Int) (hN : xs.length ≤ 100000) (hA : ∀ ad, A = some ad → 0 < xs.length → ad.block < n₀)
    (J Jx : List (Fin xs.length) → World → Prop)
    (hY : ∀ pre x W, J pre W → pre.length < xs.length → YieldAt Fence.wide (n - 1) Tryz.prog l (encB xs x) W fun e W' =>
      (e = .returned (.bool true) ∧ J (pre ++ [x]) W' ∧ KB n₀ Bs W W') ∨ (e = .returned (.bool false) ∧ Jx (pre ++ [x]) W'))
    (W : World) (hcB : W.cell? ⟨Bs, 0, none⟩ = some (.slice A xs.length c)) (hr : ReadsInt W .i64 A xs.length xs) (h0 : J [] W) :
    CallsIn Fence.wide n Tryz.prog 137 #[.func (.yield l) #[] #[], .pointer (some ⟨Bs, 0, none⟩)] W fun e W' => (∃ v, e = .returned v) ∧
      ((∃ ys, ys = down xs.length ∧ J ys W') ∨ (∃ pre, pre <+: down xs.length ∧ Jx pre W')) := by
  have HR := Aside0.mk hr
  have HA := Aside0.mk hA
  have HY := Aside0.mk hY
  clear hr hA hY
  refine callsIn_of_wp Tryz.func137 rfl trivial ?_ rfl
  simp only [Tryz.ntmps137, List.size_toArray, List.length_cons, List.length_nil, Nat.reduceAdd, Nat.reduceSub, Array.replicate_succ, Array.replicate_zero, List.push_toArray, List.append_toArray, List.nil_append, List.cons_append]
  gi_wp2
  gi_loopw [3] (fun i wr => ∃ (t : Int) (k : Nat), i = .int .i64 t ∧ Aside0 (t = (xs.length : Int) - 1 - k) ∧ Aside0 (k ≤ xs.length) ∧ Aside0 (J ((down xs.length).take k) wr) ∧ Aside0 (KB n₀ Bs W wr))
    (fun i _ => (intOf i + 1).toNat)
  case atStart => exact ⟨(xs.length : Int) - 1, 0, by simp, ⟨by omega⟩, ⟨Nat.zero_le _⟩, ⟨by simpa using h0⟩, ⟨KB.refl _ _ _⟩⟩
  case round =>
    obtain ⟨t, k, rfl, HT, HK, HJ, HB⟩ := hrel
    have hcB' : wr.cell? ⟨Bs, 0, none⟩ = some (.slice A xs.length c) := HB.out.cellB.trans hcB
    by_cases hlt : 0 ≤ t
    · obtain ⟨j, rfl⟩ := Int.eq_ofNat_of_zero_le hlt
      have hj : j < xs.length := by have := HT.out; omega
      obtain ⟨ad, hAe, hc⟩ := HR.out.at_ (j : Int) (by omega) (by omega)
      rw [Int.toNat_natCast] at hc
      have hadb : ad.block < n₀ := HA.out ad hAe (by omega)
      have hc' : wr.cell? (ad.add j) = some (.int .i64 (rd xs (j : Int))) := by
        have hb : (ad.add j).block = ad.block := by unfold Addr.add; split <;> rfl
        exact (HB.out.1.cell (by rw [hb]; exact hadb)).trans hc
      have hjk : xs.length - 1 - k = j := by have := HT.out; omega
      have hkN : k < xs.length := by have := HT.out; omega
      obtain ⟨fn, tmps, assign, body, hy, hR⟩ := HY.out _ ⟨j, hj⟩ wr HJ.out (by rw [List.length_take, down_length]; omega)
      simp only [encB] at hy
      have HTK := Aside0.mk (by rw [down_take_succ _ k hkN]; congr 1; simp [hjk] : (down xs.length).take (k + 1) = (down xs.length).take k ++ [⟨j, hj⟩])
      have HKN := Aside0.mk hkN
      have HRR := Aside0.mk hR
      subst hAe
      have q := eq_true (by omega : (j : Int) < (xs.length : Int))
      have b1 : decide (0 ≤ (j : Int)) = true := decide_eq_true (by omega)
      clear hc hadb hjk hkN hR hlt
      gi_wp2
      refine HRR.out.mono ?_
      rintro e W3 (⟨rfl, hJ3, hk3⟩ | ⟨rfl, hJx3⟩)
      · rw [← HTK.out] at hJ3
        have HJ3 := Aside0.mk hJ3
        have HB3 := Aside0.mk (HB.out.trans hk3)
        clear hJ3 hk3 HRR HJ HB
        gi_wp2
        go_roundw
        case rel => exact ⟨(j : Int) - 1, k + 1, by simp, ⟨by have := HT.out; omega⟩, ⟨by have := HKN.out; omega⟩, HJ3, HB3⟩
        case measure => simp [intOf]
      · rw [← HTK.out] at hJx3
        have HJ3 := Aside0.mk hJx3
        clear hJx3 HRR HJ HB
        gi_wp2
        refine bodyPost_ret (results_none rfl _ _ _) rfl ?_
        exact ⟨⟨_, rfl⟩, .inr ⟨_, List.take_prefix _ _, HJ3.out⟩⟩
    · have hk : k = xs.length := by have := HT.out; have := HK.out; omega
      have HJF := Aside0.mk (by have := HJ.out; rw [hk, down_take_all] at this; exact this : J (down xs.length) wr)
      have b1 : decide (0 ≤ t) = false := decide_eq_false hlt
      clear hk HJ hlt
      gi_wp2
      go_end0
      exact ⟨⟨_, rfl⟩, .inl ⟨_, rfl, HJF.out⟩⟩

/-- slices.Backward: the slice value is boxed; the function value captures the box. -/
theorem back_calls (A : Option Addr) (len c : Nat) (w : World) :
    Calls Tryz.prog 106 #[.slice A len c] w fun e w' => e = .returned (.func (.func 137) #[] #[.pointer (some ⟨w.heap.size, 0, none⟩)]) ∧ w' = w.alloc (.cells #[.slice A len c] 98) := by
  go_enter Tryz.func106, Tryz.ntmps106
  go_wp2
  go_ret
  exact ⟨rfl, rfl⟩

/-- what Backward gives: the places from the end, or a prefix of them -/
theorem back_stops (n Bs n₀ : Nat) (hn1 : 1 ≤ n) (A : Option Addr) (c : Nat) (xs : List Int) (hN : xs.length ≤ 100000) (w : World) (hBs : Bs < w.heap.size) (hn₀ : n₀ ≤ w.heap.size) (hA : ∀ ad, A = some ad → 0 < xs.length → ad.block < n₀)
    (hcB : w.cell? ⟨Bs, 0, none⟩ = some (.slice A xs.length c)) (hr : ReadsInt w .i64 A xs.length xs) :
    SeqStopsK Fence.wide n Tryz.prog 137 #[.pointer (some ⟨Bs, 0, none⟩)] (encB xs) (KB n₀ Bs) (fun ys => ys = down xs.length) (fun pre => pre <+: down xs.length) xs.length w := fun l J Jx W hW _ _ hY h0 =>
  back1_in n l Bs n₀ hn1 A c xs hN hA J Jx hY W ((hW.cell (p := ⟨Bs, 0, none⟩) hBs).trans hcB) (hr.below hW) h0

end Go.Proofs.YtnhjidbjibehpaaGreatDoor.L3

/- Layer 3, walked: comparing absolute values. -/
namespace Go.Proofs.YtnhjidbjibehpaaGreatDoor.L3
open Go.Shelf Go.RowKit Go.Proofs.YtnhjidbjibehpaaGreatDoorW.PrintWords Go.Proofs.YtnhjidbjibehpaaGreatDoorW.PrintLast Go.Proofs.YtnhjidbjibehpaaGreatDoorW.PrintMore Yd
set_option linter.unusedVariables false
set_option linter.unusedSimpArgs false
attribute [local go_sem] Oper.semAt_some

def cmpI (a b : Int) : Int := if a < b then -1 else if a > b then 1 else 0
open Go.Proofs.YtnhjidbjibehpaaGreatDoor.Ref in
theorem cmp_calls (a b : Int) (w : World) : Calls Tryz.prog 105 #[.int .i64 a, .int .i64 b] w fun e w' => e = .returned (.int .i64 (cmpI a b)) ∧ Drawn0 w w' :=
  cmp_Compare_int.calls a b (cmpI a b) w (by
    unfold cmp_Compare_int.f cmp_isNaN_int.f cmpI
    simp only [bne_self_eq_false, Option.bind_some, Bool.false_eq_true, if_false]
    split
    · rfl
    · split <;> rfl)

/-- the comparison of two numbers by their groups, from the end -/
theorem cmp_length {a b : Nat} (h : GL a ≠ GL b) : cmpI (GL a) (GL b) = cmpI a b := by
  unfold cmpI
  rcases Nat.lt_or_gt_of_ne h with hl | hl
  · have := lt_of_length (B := 10000) (by omega) hl
    rw [if_pos (by omega), if_pos (by omega)]
  · have := lt_of_length (B := 10000) (by omega) hl
    rw [if_neg (by omega), if_pos (by omega), if_neg (by omega), if_pos (by omega)]

theorem high_eq {a b N : Nat} (hb : ∀ j, j < N → rd (bd 10000 a) (j : Int) = rd (bd 10000 b) (j : Int)) (ha : GL a ≤ N) (hb' : GL b ≤ N) : a = b := by
  have h1 := sumF_all ha
  have h2 := sumF_all hb'
  have h3 : ∀ k, k ≤ N → sumF (fun i => rd (bd 10000 a) (i : Int)) k = sumF (fun i => rd (bd 10000 b) (i : Int)) k := by
    intro k
    induction k with
    | zero => intro _; rfl
    | succ k ih => intro hk; simp only [sumF]; rw [ih (by omega), hb k (by omega)]
  have := h3 N (Nat.le_refl _)
  omega

theorem sumF_lt (n k : Nat) : 0 ≤ sumF (fun i => rd (bd 10000 n) (i : Int)) k ∧ sumF (fun i => rd (bd 10000 n) (i : Int)) k < (10000 : Int) ^ k := by
  rw [sumF_digits]
  have := Nat.mod_lt n (Nat.pow_pos (n := k) (show 0 < 10000 by omega))
  refine ⟨by omega, ?_⟩
  have h2 : (((10000 ^ k : Nat)) : Int) = (10000 : Int) ^ k := by rw [Int.natCast_pow]; rfl
  omega

theorem sumF_top {f g : Nat → Int} {j : Nat} : ∀ N, j < N → (∀ i, j < i → i < N → f i = g i) → sumF f N - sumF g N = sumF f (j + 1) - sumF g (j + 1)
  | 0, h, _ => by omega
  | N + 1, h, he => by
    rcases Nat.lt_or_ge j N with hl | hl
    · have ih := sumF_top (f := f) (g := g) N hl (fun i h1 h2 => he i h1 (by omega))
      simp only [sumF] at ih ⊢
      rw [he N hl (by omega)]
      omega
    · have : j = N := by omega
      subst this; rfl

theorem top_cmp {a b N j : Nat} (ha : GL a ≤ N) (hb : GL b ≤ N) (hj : j < N) (he : ∀ i, j < i → i < N → rd (bd 10000 a) (i : Int) = rd (bd 10000 b) (i : Int)) (hne : rd (bd 10000 a) (j : Int) ≠ rd (bd 10000 b) (j : Int)) :
    cmpI (rd (bd 10000 a) (j : Int)) (rd (bd 10000 b) (j : Int)) = cmpI a b := by
  have h := sumF_top (f := fun i => rd (bd 10000 a) (i : Int)) (g := fun i => rd (bd 10000 b) (i : Int)) N hj he
  rw [sumF_all ha, sumF_all hb] at h
  simp only [sumF] at h
  have h1 := sumF_lt a j
  have h2 := sumF_lt b j
  have hp : (0 : Int) < (10000 : Int) ^ j := Int.pow_pos (by omega)
  generalize rd (bd 10000 a) (j : Int) = x at *
  generalize rd (bd 10000 b) (j : Int) = y at *
  generalize sumF (fun i => rd (bd 10000 a) (i : Int)) j = s at *
  generalize sumF (fun i => rd (bd 10000 b) (i : Int)) j = t at *
  generalize (10000 : Int) ^ j = p at *
  have hd : (a : Int) - b = (s - t) + (x - y) * p := by rw [h, Int.sub_mul]; omega
  unfold cmpI
  rcases Int.lt_or_gt_of_ne hne with hl | hl
  · have h3 : (x - y) * p ≤ (-1) * p := Int.mul_le_mul_of_nonneg_right (by omega) (by omega)
    rw [if_pos hl, if_pos (by omega)]
  · have h3 : 1 * p ≤ (x - y) * p := Int.mul_le_mul_of_nonneg_right (by omega) (by omega)
    rw [if_neg (by omega), if_pos hl, if_neg (by omega), if_pos (by omega)]

/-- of the places from the end, those ahead of one are the greater ones -/
theorem down_prefix {N : Nat} {ini : List (Fin N)} {x : Fin N} (h : ini ++ [x] <+: down N) : (∀ i : Nat, x.1 < i → ∀ hi : i < N, (⟨i, hi⟩ : Fin N) ∈ ini) := by
  intro i hxi hi
  obtain ⟨r, hr⟩ := h
  have hl : ini.length < N := by
    have := congrArg List.length hr
    simp [down_length] at this; omega
  have hx : (down N)[ini.length]? = some x := by rw [← hr]; simp
  rw [down_get N _ hl] at hx
  have hx' : N - 1 - ini.length = x.1 := by injection hx with hx; rw [← hx]
  have hg := down_get N (N - 1 - i) (by omega)
  have he : (⟨N - 1 - (N - 1 - i), by omega⟩ : Fin N) = ⟨i, hi⟩ := by apply Fin.ext; show N - 1 - (N - 1 - i) = i; omega
  rw [he, ← hr, List.append_assoc, List.getElem?_append_left (by omega)] at hg
  exact List.mem_of_getElem? hg
theorem down_mem {N : Nat} (i : Nat) (hi : i < N) : (⟨i, hi⟩ : Fin N) ∈ down N := by simp [down]

end Go.Proofs.YtnhjidbjibehpaaGreatDoor.L3

/- Layer 3, walked: number.compare. -/
namespace Go.Proofs.YtnhjidbjibehpaaGreatDoor.L3
open Go.Shelf Go.RowKit Go.Proofs.YtnhjidbjibehpaaGreatDoorW.PrintWords Go.Proofs.YtnhjidbjibehpaaGreatDoorW.PrintLast Go.Proofs.YtnhjidbjibehpaaGreatDoorW.PrintMore Yd
set_option linter.unusedVariables false
set_option linter.unusedSimpArgs false
attribute [local go_sem] Oper.semAt_some

theorem ReadsInt.block {w : World} {A : Option Addr} {n : Nat} {xs : List Int} (h : ReadsInt w .i64 A n xs) : ∀ ad, A = some ad → 0 < n → ad.block < w.heap.size := by
  intro ad hA hn
  obtain ⟨ad', e, hc⟩ := h.2.2 hn
  have he : ad' = ad := by rw [hA] at e; injection e with e; exact e.symm
  subst he
  have := World.block_lt_of_cell? w _ (hc 0 hn)
  have hb : (ad'.add 0).block = ad'.block := by unfold Addr.add; split <;> rfl
  omega

set_option maxRecDepth 100000 in
set_option maxHeartbeats 2000000 in
theorem ncmp_calls (v1 v2 : Value) (a b : Nat) (w : World) (h1 : Nm w v1 a) (h2 : Nm w v2 b) (ha : GL a ≤ 1000) (hb : GL b ≤ 1000) :
    Calls Tryz.prog 80 #[v1, v2] w fun e w' => e = .returned (.int .i64 (cmpI a b)) ∧ Below w.heap.size w w' := by
  obtain ⟨A1, c1, rfl, hc1, hr1⟩ := h1
  obtain ⟨A2, c2, rfl, hc2, hr2⟩ := h2
  have HR1 := Aside0.mk hr1
  have HR2 := Aside0.mk hr2
  have HLA : Aside0 ((bd 10000 a).length ≤ 1000) := ⟨ha⟩
  have HLB : Aside0 ((bd 10000 b).length ≤ 1000) := ⟨hb⟩
  clear hr1 hr2 hc1 hc2 ha hb
  refine (callsIn_wide (n := 100)).1 ?_
  refine callsIn_of_wp_marks Tryz.func80 rfl trivial ?_ rfl
  simp only [Tryz.ntmps80, List.size_toArray, List.length_cons, List.length_nil, Nat.reduceAdd, Nat.reduceSub, Array.replicate_succ, Array.replicate_zero, List.push_toArray, List.append_toArray, List.nil_append, List.cons_append]
  by_cases hlen : (bd 10000 a).length = (bd 10000 b).length
  · have bl : (((bd 10000 a).length : Int) != ((bd 10000 b).length : Int)) = false := by rw [bne_eq_false_iff_eq, hlen]
    have HLEN := Aside0.mk hlen
    clear hlen
    gi_wp2_with fail
    refine ⟨trivial, (callsIn_wide.2 (back_calls _ _ _ _)).mono ?_⟩
    rintro e w' ⟨rfl, rfl⟩
    gi_wp2_with fail
    have hX := boxes3 w (.slice A2 (bd 10000 b).length c2) (.int .i64 0) (.slice A1 (bd 10000 a).length c1) 98 3 98
    generalize (((w.alloc (.cells #[.slice A2 (bd 10000 b).length c2] 98)).alloc (.cells #[.int .i64 0] 3)).alloc (.cells #[.slice A1 (bd 10000 a).length c1] 98)) = W2 at *
    have hsz := hX.size
    refine wpIn_rangeFunc_ownF rfl (by omega) (gf := 137) (lb := #[.pointer (some ⟨w.heap.size + 1 + 1, 0, none⟩)]) rfl trivial (enters_of Tryz.func137 (by kernel_rfl) rfl)
      (back_stops 99 (w.heap.size + 1 + 1) w.heap.size (by omega) A1 c1 (bd 10000 a) (by have := HLA.out; omega) W2 (by omega) (by omega) (ReadsInt.block HR1.out) hX.c2 (HR1.out.below hX.below))
      KB.trans (fun W l o o' hl _ _ _ => KB.putObj W l o' (by omega) (by omega)) (Below.refl _ _) (fun _ => rfl)
      (fun pre W => ((∀ p ∈ pre, rd (bd 10000 a) ((p.1 : Nat) : Int) = rd (bd 10000 b) ((p.1 : Nat) : Int)) ∧ W.cell? ⟨w.heap.size, 0, none⟩ = some (.slice A2 (bd 10000 b).length c2) ∧ W.cell? ⟨w.heap.size + 1, 0, none⟩ = some (.int .i64 0) ∧ W.frozen? ⟨w.heap.size + 1, 0, none⟩ = false) ∧ Below w.heap.size w W)
      (fun c pre W => (c = .ret ∧ ∃ ini last, pre = ini ++ [last] ∧ (∀ p ∈ ini, rd (bd 10000 a) ((p.1 : Nat) : Int) = rd (bd 10000 b) ((p.1 : Nat) : Int)) ∧ rd (bd 10000 a) ((last.1 : Nat) : Int) ≠ rd (bd 10000 b) ((last.1 : Nat) : Int) ∧ W.cell? ⟨w.heap.size + 1, 0, none⟩ = some (.int .i64 (cmpI (rd (bd 10000 a) ((last.1 : Nat) : Int)) (rd (bd 10000 b) ((last.1 : Nat) : Int))))) ∧ Below w.heap.size w W)
      (OwnFrom.and (Own.from (fun s A B row hs hg hr => ⟨hs.1, cell_kept hs.2.1 hg hr, cell_kept hs.2.2.1 hg hr, (frozen_kept hs.2.2.1 hg hr).trans hs.2.2.2⟩) _) (ownFrom_below (Nat.le_refl _) (by omega)))
      (fun c => OwnFrom.and (Own.from (fun s A B row hs hg hr => by obtain ⟨hc, ini, last, e1, e2, e3, e4⟩ := hs; exact ⟨hc, ini, last, e1, e2, e3, cell_kept e4 hg hr⟩) _) (ownFrom_below (Nat.le_refl _) (by omega)))
      ⟨⟨by simp, hX.c0, hX.c1, hX.f1⟩, hX.below⟩
      (fun x => { tmps := #[.slice A1 (bd 10000 a).length c1, .slice A2 (bd 10000 b).length c2, undef, .pointer (some ⟨w.heap.size, 0, none⟩), .pointer (some ⟨w.heap.size + 1, 0, none⟩), .int .i64 ((x.1 : Nat) : Int), .int .i64 (rd (bd 10000 a) ((x.1 : Nat) : Int)),
          .slice A1 (bd 10000 a).length c1, .int .i64 ((bd 10000 a).length : Int), .slice A2 (bd 10000 b).length c2, .int .i64 ((bd 10000 b).length : Int), .bool false, undef, undef, undef, undef, undef, .slice A1 (bd 10000 a).length c1,
          .func (.func 137) #[] #[.pointer (some ⟨w.heap.size + 1 + 1, 0, none⟩)], .int .i64 ((x.1 : Nat) : Int), .int .i64 (rd (bd 10000 a) ((x.1 : Nat) : Int)), undef, undef, undef, undef, undef, undef, undef, undef, undef, undef, undef, undef], defers := [] }) ?assign ?body ?done ?stop
    case assign =>
      intro l x W K hK
      simp only [encB]
      gi_wp2
      exact hK
    case body =>
      rintro l pre x W ⟨⟨hp, hc0, hc1, hf1⟩, hB⟩ _
      have hxl := x.2
      obtain ⟨ad2, rfl, hcell⟩ := HR2.out.at_ ((x.1 : Nat) : Int) (by omega) (by have := HLEN.out; omega)
      rw [Int.toNat_natCast] at hcell
      have hcW := (hB.cell (World.block_lt_of_cell? w _ hcell)).trans hcell
      have q := eq_true (by have := HLEN.out; omega : ((x.1 : Nat) : Int) < ((bd 10000 b).length : Int))
      have q' := eq_true (by have := HLEN.out; omega : x.1 < (bd 10000 b).length)
      have HP := Aside0.mk hp
      have HBW := Aside0.mk hB
      clear hcell hp hB hX HR1 HR2
      obtain ⟨ra, hra⟩ : ∃ ra, rd (bd 10000 a) ((x.1 : Nat) : Int) = ra := ⟨_, rfl⟩
      obtain ⟨rb, hrb⟩ : ∃ rb, rd (bd 10000 b) ((x.1 : Nat) : Int) = rb := ⟨_, rfl⟩
      rw [hrb] at hcW
      rw [hra]
      have HRA := Aside0.mk hra
      have HRB := Aside0.mk hrb
      clear hra hrb
      by_cases he : ra = rb
      · have b1 : (ra != rb) = false := bne_eq_false_iff_eq.2 he
        have HE := Aside0.mk he
        clear he
        gi_wp2_with fail
        refine ⟨KeepsOthers.refl _, KB.refl _ _ _, ⟨⟨fun p hpm => ?_, hc0, hc1, hf1⟩, HBW.out⟩⟩
        rcases List.mem_append.1 hpm with hm | hm
        · exact HP.out p hm
        · rw [List.mem_singleton] at hm; subst hm; rw [HRA.out, HRB.out]; exact HE.out
      · have b1 : (ra != rb) = true := bne_iff_ne.2 he
        have HE := Aside0.mk he
        clear he
        gi_wp2_with fail
        refine ⟨trivial, (CallsIn.inRound l (callsIn_wide.2 (cmp_calls ra rb W))).mono ?_⟩
        rintro e W3 ⟨rfl, hdr⟩
        have hc3 := (Drawn0.cell hdr _).trans hc1
        have hf3 := (Drawn0.frozen hdr _).trans hf1
        have HD := Aside0.mk hdr
        clear hdr hc0 hc1 hf1 hcW
        gi_wp2_with fail
        refine ⟨(Drawn0.others HD.out).trans (KeepsOthers.setCell _ _ _), ⟨rfl, pre, x, rfl, HP.out, by rw [HRA.out, HRB.out]; exact HE.out, ?_⟩, (Drawn0.below_of HD.out HBW.out).setCell (p := ⟨w.heap.size + 1, 0, none⟩) (by show _ ≤ w.heap.size + 1; omega) _⟩
        rw [HRA.out, HRB.out]
        exact World.cell?_setCell_same' _ _ _ (by rw [hc3]; rfl)
    case done =>
      rintro D ys W hD rfl ⟨⟨hne, hc0, hcr, hfr⟩, hB⟩ hK
      have hab : a = b := high_eq (N := (bd 10000 a).length) (fun j hj => hne ⟨j, hj⟩ (down_mem j hj)) (Nat.le_refl _) (by have := HLEN.out; show (bd 10000 b).length ≤ _; omega)
      gi_wp2_with fail
      have hK' := (KeepsOthers.setCell W ⟨w.heap.size + 1, 0, none⟩ (.int .i64 0)).same D _ hK rfl
      refine ⟨by simp, .inl ⟨_, _, rfl, run_takeDeferred hK', ?_⟩⟩
      have hc5 := cell_kept (World.cell?_setCell_same' W ⟨w.heap.size + 1, 0, none⟩ (.int .i64 0) (by rw [hcr]; rfl)) (grownBy_putObj' _ D (.deferred none)) (fun r e => by cases e; exact ⟨_, hK', rfl⟩)
      refine ⟨.int .i64 0, ?_, by subst hab; unfold cmpI; rw [if_neg (by omega), if_neg (by omega)], (hB.setCell (p := ⟨w.heap.size + 1, 0, none⟩) (by show _ ≤ w.heap.size + 1; omega) _).trans (belowK_b (w := w) (Nat.le_refl _) _ D _ _ (by omega) hK' rfl rfl)⟩
      simp [results, Tryz.f80, go_sem, hc5]
    case stop =>
      rintro D c pre W hD hpre ⟨⟨rfl, ini, last, e1, e2, e3, hcr⟩, hB⟩ hK
      gi_wp2_with fail
      refine ⟨by simp, .inl ⟨_, _, rfl, run_takeDeferred hK, ?_⟩⟩
      have hc5 := cell_kept hcr (grownBy_putObj' _ D (.deferred none)) (fun r e => by cases e; exact ⟨_, hK, rfl⟩)
      subst e1
      have hcm := top_cmp (a := a) (b := b) (N := (bd 10000 a).length) (j := last.1) (Nat.le_refl _) (by have := HLEN.out; show (bd 10000 b).length ≤ _; omega) last.2 (fun i h1 h2 => e2 ⟨i, h2⟩ (down_prefix hpre i h1 h2)) e3
      rw [hcm] at hc5
      refine ⟨.int .i64 (cmpI a b), ?_, rfl, hB.trans (belowK_b (w := w) (Nat.le_refl _) _ D _ _ (by omega) hK rfl rfl)⟩
      simp [results, Tryz.f80, go_sem, hc5]
  · have bl : (((bd 10000 a).length : Int) != ((bd 10000 b).length : Int)) = true := by rw [bne_iff_ne]; omega
    have HC := Aside0.mk (cmp_length (a := a) (b := b) hlen)
    clear hlen
    gi_wp2_with fail
    refine ⟨trivial, (callsIn_wide.2 (cmp_calls _ _ _)).mono ?_⟩
    rintro e W3 ⟨rfl, hdr⟩
    have hc3 : W3.cell? ⟨w.heap.size + 1, 0, none⟩ = some (.int .i64 0) := by rw [Drawn0.cell hdr]; simp [go_sem]
    have hf3 : W3.frozen? ⟨w.heap.size + 1, 0, none⟩ = false := by rw [Drawn0.frozen hdr]; simp [go_sem]
    have HB3 := Aside0.mk (Drawn0.below_of hdr (below_alloc (below_alloc (Below.refl w.heap.size w) _) _))
    clear hdr
    gi_wp2_with fail
    have hc5 := World.cell?_setCell_same' W3 ⟨w.heap.size + 1, 0, none⟩ (.int .i64 (cmpI (bd 10000 a).length (bd 10000 b).length)) (by rw [hc3]; rfl)
    refine ⟨.int .i64 (cmpI (bd 10000 a).length (bd 10000 b).length), ?_, by rw [← HC.out], HB3.out.setCell (p := ⟨w.heap.size + 1, 0, none⟩) (by show _ ≤ w.heap.size + 1; omega) _⟩
    simp [results, Tryz.f80, go_sem, hc5]

end Go.Proofs.YtnhjidbjibehpaaGreatDoor.L3

/- Layer 3, walked: number.times. -/
namespace Go.Proofs.YtnhjidbjibehpaaGreatDoor.L3
open Go.Shelf Go.RowKit Go.Proofs.YtnhjidbjibehpaaGreatDoorW.PrintWords Go.Proofs.YtnhjidbjibehpaaGreatDoorW.PrintLast Go.Proofs.YtnhjidbjibehpaaGreatDoorW.PrintMore Yd
set_option linter.unusedVariables false
set_option linter.unusedSimpArgs false
attribute [local go_sem] Oper.semAt_some

/-- the product so far -/
def tv (a b : Nat) (pre : List (Fin (GL b))) : Nat := pre.foldl (fun acc p => acc * 10000 + a * (b / 10000 ^ p.1 % 10000)) 0
theorem tv_nil (a b : Nat) : tv a b [] = 0 := rfl
theorem tv_snoc (a b : Nat) (pre : List (Fin (GL b))) (x : Fin (GL b)) : tv a b (pre ++ [x]) = tv a b pre * 10000 + a * (b / 10000 ^ x.1 % 10000) := by simp [tv]
theorem tv_lt (a b : Nat) : ∀ pre : List (Fin (GL b)), tv a b pre + a ≤ a * 10000 ^ pre.length := by
  intro pre
  suffices h : ∀ r : List (Fin (GL b)), tv a b r.reverse + a ≤ a * 10000 ^ r.length by simpa using h pre.reverse
  intro r
  induction r with
  | nil => simp [tv]
  | cons x r ih =>
    rw [List.reverse_cons, tv_snoc, List.length_cons, Nat.pow_succ, ← Nat.mul_assoc]
    have hd := Nat.mod_lt (b / 10000 ^ x.1) (show 10000 > 0 by omega)
    have h2 : a * (b / 10000 ^ x.1 % 10000) ≤ a * 9999 := Nat.mul_le_mul_left _ (by omega)
    omega
theorem tv_GL (a b : Nat) (pre : List (Fin (GL b))) : GL (tv a b pre) ≤ GL a + pre.length := by
  apply GL_lt
  rw [Nat.pow_add]
  have h1 := tv_lt a b pre
  have h2 := lt_pow_GL (n := a) (Nat.le_refl _)
  have hp : 0 < 10000 ^ pre.length := Nat.pow_pos (by omega)
  have h3 : (a + 1) * 10000 ^ pre.length ≤ 10000 ^ GL a * 10000 ^ pre.length := Nat.mul_le_mul_right _ h2
  rw [Nat.add_mul] at h3
  omega
theorem GL_mul_le {a d k : Nat} (ha : GL a ≤ k) (hd : d < 10000) : GL (a * d) ≤ k + 1 := by
  apply GL_lt
  have h := lt_pow_GL ha
  rw [Nat.pow_succ]
  have h2 : a * d ≤ a * 10000 := Nat.mul_le_mul_left _ (by omega)
  generalize 10000 ^ k = p at *
  omega
theorem tv_down (a b : Nat) : ∀ k, k ≤ GL b → tv a b ((down (GL b)).take k) = a * (b / 10000 ^ (GL b - k)) := by
  intro k
  induction k with
  | zero =>
    intro _
    have : b / 10000 ^ GL b = 0 := Nat.div_eq_of_lt (lt_pow_GL (Nat.le_refl _))
    simp [tv, this]
  | succ k ih =>
    intro hk
    rw [down_take_succ _ k (by omega), tv_snoc, ih (by omega)]
    have e : GL b - k = (GL b - (k + 1)) + 1 := by omega
    have e2 : GL b - 1 - k = GL b - (k + 1) := by omega
    simp only [e2]
    rw [e, Nat.pow_succ, ← Nat.div_div_eq_div_mul]
    have := Nat.div_add_mod (b / 10000 ^ (GL b - (k + 1))) 10000
    rw [Nat.mul_assoc, ← Nat.mul_add]
    congr 1
    omega
theorem tv_all (a b : Nat) : tv a b (down (GL b)) = a * b := by
  have := tv_down a b (GL b) (Nat.le_refl _)
  rw [down_take_all] at this
  simpa using this

theorem Nm.kept {w w1 : World} {v : Value} {n : Nat} (h : Nm w v n) {row : Option Nat} (hg : w.grownBy w1 row) (hr : ∀ r, row = some r → ∃ o : Obj, w.heap[r]? = some o ∧ o.isCells = false) : Nm w1 v n := by
  obtain ⟨A, c, e, hc, h1, h2, h3⟩ := h
  refine ⟨A, c, e, hc, h1, h2, fun hn => ?_⟩
  obtain ⟨ad, e, hcell⟩ := h3 hn
  exact ⟨ad, e, fun j hj => cell_kept (hcell j hj) hg hr⟩
theorem others_of_below {W W' : World} (h : Below W.heap.size W W') : KeepsOthers W W' :=
  ⟨h.size, fun k o hk _ => (h.block k (Array.getElem?_eq_some_iff.1 hk).1).trans hk⟩
theorem KB.of_below {n₀ Bs : Nat} {W W' : World} (h : Below W.heap.size W W') (hn : n₀ ≤ W.heap.size) (hb : Bs < W.heap.size) : KB n₀ Bs W W' := ⟨h.mono hn, h.block Bs hb⟩
theorem KB.setCell {n₀ Bs : Nat} (W : World) (k : Nat) (v : Value) (h1 : n₀ ≤ k) (h2 : k ≠ Bs) : KB n₀ Bs W (W.setCell ⟨k, 0, none⟩ v) :=
  ⟨(Below.refl n₀ W).setCell (p := ⟨k, 0, none⟩) h1 v, Below.heap_setCell W ⟨k, 0, none⟩ v Bs (by show Bs ≠ k; omega)⟩
theorem Boxed.own {W W' : World} {B : Nat} {ty : TypeId} {v : Value} (h : Boxed W B ty v) {row : Option Nat} (hg : W.grownBy W' row) (hr : ∀ r, row = some r → ∃ o : Obj, W.heap[r]? = some o ∧ o.isCells = false) : Boxed W' B ty v :=
  h.kept hg (fun e => by
    obtain ⟨o, ho, hc⟩ := hr B e.symm
    rw [show W.heap[B]? = _ from h] at ho
    injection ho with ho
    subst ho
    cases hc)
theorem Boxed.below {W W' : World} {B : Nat} {ty : TypeId} {v : Value} (h : Boxed W B ty v) (hb : Below W.heap.size W W') : Boxed W' B ty v := (hb.block B h.lt).trans h
theorem Boxed.keepB {W : World} {B k : Nat} {ty : TypeId} {v : Value} (h : Boxed W B ty v) (u : Value) (hk : B ≠ k) : Boxed (W.setCell ⟨k, 0, none⟩ u) B ty v :=
  (Below.heap_setCell W ⟨k, 0, none⟩ u B hk).trans h
/-- a number lies in no box of a slice -/
theorem Nm.setBox {W : World} {B : Nat} {ty : TypeId} {A0 : Option Addr} {l0 c0 : Nat} {v : Value} {n : Nat} (h : Nm W v n) (hb : Boxed W B ty (.slice A0 l0 c0)) (u : Value) : Nm (W.setCell ⟨B, 0, none⟩ u) v n := by
  obtain ⟨A, c, e, hc, h1, h2, h3⟩ := h
  refine ⟨A, c, e, hc, h1, h2, fun hn => ?_⟩
  obtain ⟨ad, e', hcell⟩ := h3 hn
  refine ⟨ad, e', fun j hj => ?_⟩
  rw [World.cell?_of_block (w := W)]
  · exact hcell j hj
  · apply Below.heap_setCell
    intro hB
    have hx := hcell j hj
    unfold World.cell? at hx
    rw [show (ad.add j).block = B from hB, show W.heap[B]? = _ from hb] at hx
    simp only at hx
    split at hx
    · cases hx
    · generalize (ad.add j).off = o at hx
      cases o with
      | zero => simp at hx
      | succ o => simp at hx

theorem boxed3 (w : World) (x y z : Value) (t u v : TypeId) : Boxed (((w.alloc (.cells #[x] t)).alloc (.cells #[y] u)).alloc (.cells #[z] v)) w.heap.size t x ∧ Boxed (((w.alloc (.cells #[x] t)).alloc (.cells #[y] u)).alloc (.cells #[z] v)) (w.heap.size + 1) u y := by
  refine ⟨((Boxed.new w t x).alloc _).alloc _, ?_⟩
  have h := (Boxed.new (w.alloc (.cells #[x] t)) u y).alloc (.cells #[z] v)
  rwa [World.size_alloc] at h

theorem times_close {a b : Nat} {w W W3 W4 : World} {A1 A A4 : Option Addr} {c1 l0 c c4 n : Nat} {pre : List (Fin (GL b))} (hB : Below w.heap.size w W) (hb0 : Boxed W w.heap.size 98 (.slice A1 (bd 10000 a).length c1)) (hws : w.heap.size + 3 ≤ W.heap.size)
    (h3 : Below W.heap.size W W3) (hx4 : Boxed W4 (w.heap.size + 1) 98 (.slice A l0 c)) (hn : Nm W4 (.slice A4 (bd 10000 n).length c4) n) (h4 : Below W3.heap.size W3 W4) (hn' : tv a b pre = n) :
    KeepsOthers W (W4.setCell ⟨w.heap.size + 1, 0, none⟩ (.slice A4 (bd 10000 n).length c4)) ∧ KB w.heap.size (w.heap.size + 1 + 1) W (W4.setCell ⟨w.heap.size + 1, 0, none⟩ (.slice A4 (bd 10000 n).length c4)) ∧
    ((∃ A c, Boxed (W4.setCell ⟨w.heap.size + 1, 0, none⟩ (.slice A4 (bd 10000 n).length c4)) (w.heap.size + 1) 98 (.slice A (bd 10000 (tv a b pre)).length c) ∧ Boxed (W4.setCell ⟨w.heap.size + 1, 0, none⟩ (.slice A4 (bd 10000 n).length c4)) w.heap.size 98 (.slice A1 (bd 10000 a).length c1) ∧
      Nm (W4.setCell ⟨w.heap.size + 1, 0, none⟩ (.slice A4 (bd 10000 n).length c4)) (.slice A (bd 10000 (tv a b pre)).length c) (tv a b pre) ∧ w.heap.size + 3 ≤ (W4.setCell ⟨w.heap.size + 1, 0, none⟩ (.slice A4 (bd 10000 n).length c4)).heap.size) ∧ Below w.heap.size w (W4.setCell ⟨w.heap.size + 1, 0, none⟩ (.slice A4 (bd 10000 n).length c4))) := by
  have h34 : Below W.heap.size W W4 := h3.trans (h4.mono h3.size)
  have hs := h34.size
  refine ⟨(others_of_below h34).trans (KeepsOthers.setCell _ _ _), (KB.of_below h34 hB.size (by omega)).trans (KB.setCell _ _ _ (by omega) (by omega)), ⟨A4, c4, ?_, ?_, ?_, ?_⟩, ?_⟩
  · rw [hn']; exact hx4.set _
  · exact Boxed.keepB (Boxed.below hb0 h34) _ (by omega)
  · rw [hn']; exact Nm.setBox hn hx4 _
  · simp; omega
  · exact (hB.trans (h34.mono hB.size)).setCell (p := ⟨w.heap.size + 1, 0, none⟩) (by show _ ≤ w.heap.size + 1; omega) _

theorem times_news (W : World) (o : Obj) {ad : Addr} {xs : List Int} (h : ∀ j, j < xs.length → W.cell? (ad.add j) = some (.int .i64 (xs.getD j 0))) :
    ∀ j u, (nums .i64 xs)[j]? = some u → (W.alloc o).cell? (ad.add j) = some u := by
  intro j u hu
  have hj : j < xs.length := by
    rcases Nat.lt_or_ge j xs.length with hj | hj
    · exact hj
    · rw [List.getElem?_eq_none (by rw [nums_length]; exact hj)] at hu; cases hu
  have he : u = .int .i64 (xs.getD j 0) := by
    simp [nums, List.getElem?_eq_getElem hj] at hu
    rw [← hu, List.getD_eq_getElem?_getD, List.getElem?_eq_getElem hj]; rfl
  rw [he]
  exact pw_cell_below (below_alloc (Below.refl _ _) o) (h j hj)
theorem times_grown {w1 : World} {base t : Nat} {v : Value} (ht : 0 < t) (h : w1.ownsRow base 3 1 v (1 + (bd 10000 t).length) ([.int .i64 0] ++ nums .i64 (bd 10000 t))) :
    ∃ A c, v = .slice A (bd 10000 (t * 10000)).length c ∧ Nm w1 v (t * 10000) := by
  have e : [Value.int .i64 0] ++ nums .i64 (bd 10000 t) = nums .i64 (bd 10000 (t * 10000)) := by rw [bd_mul (by omega) ht]; rfl
  have e2 : 1 + (bd 10000 t).length = (bd 10000 (t * 10000)).length := by rw [bd_mul (by omega) ht, List.length_cons]; omega
  rw [e, e2] at h
  have hn : Nm w1 v (t * 10000) := Ls.of_own h
  obtain ⟨A, c, he, _⟩ := id hn
  exact ⟨A, c, he, hn⟩
theorem times_box {W w1 : World} {o : Obj} {B : Nat} {ty : TypeId} {u : Value} {n c : Nat} (h : Boxed W B ty u) (hB : B < W.heap.size) (hg : (W.alloc o).grownBy w1 (Value.slice (some ⟨W.heap.size, 0, none⟩) n c).ownBlock) : Boxed w1 B ty u :=
  (h.alloc o).kept hg (by simp [Value.ownBlock]; omega)

theorem times_join {w W w1 : World} {A1 A5 : Option Addr} {a n c c5 m m' : Nat} {u1 : Value} {A0 : Option Addr} {l0 c0 : Nat} (hB : Below w.heap.size w W) (hb0 : Boxed W w.heap.size 98 (.slice A1 (bd 10000 a).length c)) (hws : w.heap.size + 3 ≤ W.heap.size)
    (hx : Boxed w1 (w.heap.size + 1) 98 (.slice A0 l0 c0)) (hg : (W.alloc (.cells #[u1] 3)).grownBy w1 (Value.slice (some ⟨W.heap.size, 0, none⟩) m m').ownBlock) (hn : Nm w1 (.slice A5 (bd 10000 n).length c5) n) :
    KeepsOthers W (w1.setCell ⟨w.heap.size + 1, 0, none⟩ (.slice A5 (bd 10000 n).length c5)) ∧ KB w.heap.size (w.heap.size + 1 + 1) W (w1.setCell ⟨w.heap.size + 1, 0, none⟩ (.slice A5 (bd 10000 n).length c5)) ∧
    Below w.heap.size w (w1.setCell ⟨w.heap.size + 1, 0, none⟩ (.slice A5 (bd 10000 n).length c5)) ∧ Boxed (w1.setCell ⟨w.heap.size + 1, 0, none⟩ (.slice A5 (bd 10000 n).length c5)) w.heap.size 98 (.slice A1 (bd 10000 a).length c) ∧
    Boxed (w1.setCell ⟨w.heap.size + 1, 0, none⟩ (.slice A5 (bd 10000 n).length c5)) (w.heap.size + 1) 98 (.slice A5 (bd 10000 n).length c5) ∧ Nm (w1.setCell ⟨w.heap.size + 1, 0, none⟩ (.slice A5 (bd 10000 n).length c5)) (.slice A5 (bd 10000 n).length c5) n ∧
    w.heap.size + 3 ≤ (w1.setCell ⟨w.heap.size + 1, 0, none⟩ (.slice A5 (bd 10000 n).length c5)).heap.size := by
  have h34 : Below W.heap.size W w1 := ((Below.refl _ W).alloc (Nat.le_refl _) _).grown hg (by simp) (by intro k hk; simp [Value.ownBlock] at hk; omega)
  have hs := h34.size
  refine ⟨(others_of_below h34).trans (KeepsOthers.setCell _ _ _), (KB.of_below h34 hB.size (by omega)).trans (KB.setCell _ _ _ (by omega) (by omega)), (hB.trans (h34.mono hB.size)).setCell (p := ⟨w.heap.size + 1, 0, none⟩) (by show _ ≤ w.heap.size + 1; omega) _, Boxed.keepB (Boxed.below hb0 h34) _ (by omega), hx.set _, Nm.setBox hn hx _, by simp; omega⟩

set_option maxRecDepth 100000 in
set_option maxHeartbeats 4000000 in
/-- times -/
theorem ntimes_calls (v1 v2 : Value) (a b : Nat) (w : World) (h1 : Nm w v1 a) (h2 : Nm w v2 b) (ha : GL a ≤ 300) (hb : GL b ≤ 300) :
    Calls Tryz.prog 116 #[v1, v2] w fun e w' => ∃ v, e = .returned v ∧ Nm w' v (a * b) ∧ Below w.heap.size w w' := by
  obtain ⟨A1, c1, rfl, hc1, hr1⟩ := h1
  obtain ⟨A2, c2, rfl, hc2, hr2⟩ := h2
  have HR1 := Aside0.mk hr1
  have HR2 := Aside0.mk hr2
  have HC1 := Aside0.mk hc1
  have HLA : Aside0 (GL a ≤ 300) := ⟨ha⟩
  have HLB : Aside0 (GL b ≤ 300) := ⟨hb⟩
  clear hr1 hr2 hc1 hc2 ha hb
  refine (callsIn_wide (n := 100)).1 ?_
  refine callsIn_of_wp_marks Tryz.func116 rfl trivial ?_ rfl
  simp only [Tryz.ntmps116, List.size_toArray, List.length_cons, List.length_nil, Nat.reduceAdd, Nat.reduceSub, Array.replicate_succ, Array.replicate_zero, List.push_toArray, List.append_toArray, List.nil_append, List.cons_append]
  gi_wp2_with fail
  refine ⟨trivial, (callsIn_wide.2 (back_calls _ _ _ _)).mono ?_⟩
  rintro e w' ⟨rfl, rfl⟩
  gi_wp2_with fail
  have hX := boxes3 w (.slice A1 (bd 10000 a).length c1) (.slice none 0 0) (.slice A2 (bd 10000 b).length c2) 98 98 98
  obtain ⟨hY0, hY1⟩ := boxed3 w (.slice A1 (bd 10000 a).length c1) (.slice none 0 0) (.slice A2 (bd 10000 b).length c2) 98 98 98
  generalize (((w.alloc (.cells #[.slice A1 (bd 10000 a).length c1] 98)).alloc (.cells #[.slice none 0 0] 98)).alloc (.cells #[.slice A2 (bd 10000 b).length c2] 98)) = W2 at *
  have hsz := hX.size
  have hlb : (bd 10000 b).length ≤ 100000 := by have := HLB.out; unfold GL at this; omega
  refine wpIn_rangeFunc_ownF rfl (by omega) (gf := 137) (lb := #[.pointer (some ⟨w.heap.size + 1 + 1, 0, none⟩)]) rfl trivial (enters_of Tryz.func137 (by kernel_rfl) rfl)
      (back_stops 99 (w.heap.size + 1 + 1) w.heap.size (by omega) A2 c2 (bd 10000 b) hlb W2 (by omega) (by omega) (ReadsInt.block HR2.out) hX.c2 (HR2.out.below hX.below))
      KB.trans (fun W l o o' hl _ _ _ => KB.putObj W l o' (by omega) (by omega)) (Below.refl _ _) (fun _ => rfl)
      (fun pre W => (∃ A c, Boxed W (w.heap.size + 1) 98 (.slice A (bd 10000 (tv a b pre)).length c) ∧ Boxed W w.heap.size 98 (.slice A1 (bd 10000 a).length c1) ∧ Nm W (.slice A (bd 10000 (tv a b pre)).length c) (tv a b pre) ∧ w.heap.size + 3 ≤ W.heap.size) ∧ Below w.heap.size w W)
      (fun c pre W => False)
      (OwnFrom.and (Own.from (fun s A B row hs hg hr => by obtain ⟨A, c, k1, k2, k3, k4⟩ := hs; exact ⟨A, c, Boxed.own k1 hg hr, Boxed.own k2 hg hr, Nm.kept k3 hg hr, Nat.le_trans k4 hg.size⟩) _) (ownFrom_below (Nat.le_refl _) (by omega)))
      (fun _ _ _ _ _ hs _ _ => hs)
      ⟨⟨none, 0, by rw [tv_nil, bd_zero]; exact hY1, hY0, by rw [tv_nil, Nm, bd_zero]; exact Ls.nil W2, by omega⟩, hX.below⟩
      (fun x => { tmps := #[.slice A1 (bd 10000 a).length c1, .slice A2 (bd 10000 b).length c2, .pointer (some ⟨w.heap.size, 0, none⟩), undef, .slice none 0 0, .pointer (some ⟨w.heap.size + 1, 0, none⟩), undef, .int .i64 (rd (bd 10000 b) ((x.1 : Nat) : Int)),
          .slice A2 (bd 10000 b).length c2, .func (.func 137) #[] #[.pointer (some ⟨w.heap.size + 1 + 1, 0, none⟩)], .int .i64 ((x.1 : Nat) : Int), .int .i64 (rd (bd 10000 b) ((x.1 : Nat) : Int)), undef, undef, undef, undef, undef, undef, undef, undef, undef, undef, undef, undef], defers := [] }) ?assign ?body ?done ?stop
  case assign =>
    intro l x W K hK
    simp only [encB]
    gi_wp2
    exact hK
  case body =>
    rintro l pre x W ⟨⟨A, c, hb1, hb0, hv, hws⟩, hB⟩ hpl
    have hx2 : rd (bd 10000 b) ((x.1 : Nat) : Int) = ((b / 10000 ^ x.1 % 10000 : Nat) : Int) := rd_bd b x.1
    have hd := Nat.mod_lt (b / 10000 ^ x.1) (show 10000 > 0 by omega)
    have hg := tv_GL a b pre
    have hsn := tv_snoc a b pre x
    generalize b / 10000 ^ x.1 % 10000 = d at *
    rw [hx2]
    have HSN := Aside0.mk hsn
    have HG : Aside0 (GL (tv a b pre) ≤ 600) := ⟨by have := HLA.out; have := HLB.out; have h3 : pre.length < GL b := hpl; omega⟩
    have HD : Aside0 (d < 10000) := ⟨hd⟩
    have HWS := Aside0.mk hws
    clear hsn hg hd hx2
    generalize tv a b pre = t at *
    have hc1 := hb1.cell
    have hc0 := hb0.cell
    have hf1 := hb1.frozen
    by_cases h0 : t = 0
    · have hbd : (bd 10000 t).length = 0 := by rw [h0, bd_zero]; rfl
      rw [hbd] at hb1 hc1 hv
      have HV := Aside0.mk hv
      have HB1 := Aside0.mk hb1
      have HB0 := Aside0.mk hb0
      have HB := Aside0.mk hB
      have HT := Aside0.mk h0
      clear hv hbd hB hb1 hb0 h0
      gi_wp2_with fail
      have HGL := Aside0.mk (GL_mul_le (a := a) (d := d) HLA.out HD.out)
      gi_region_with (first
        | (refine ⟨trivial, ?_⟩; gi_at_call 108; refine (CallsIn.inRound l (callsIn_wide.2 (nby_calls _ a d _ ⟨A1, c1, rfl, HC1.out, HR1.out.below (below_drew HB.out)⟩ (by have := HLA.out; omega) (by have := HD.out; omega)))).mono ?_; rintro e W3 ⟨v3, rfl, hn3, hb3⟩; have hx3 := Boxed.below (W := W.drew) HB1.out hb3; have hc3 := hx3.cell; have HX3 := Aside0.mk hx3; have HN3 := Aside0.mk hn3; have HB3 := Aside0.mk hb3; clear hn3 hb3 hx3)
        | (refine ⟨trivial, ?_⟩; gi_at_call 86; refine (CallsIn.inRound l (callsIn_wide.2 (nplus_calls _ _ t (a * d) _ (Nm.below (w := W.drew) HV.out HB3.out) HN3.out (by have := HG.out; omega) (Nat.le_trans HGL.out (by omega))))).mono ?_; rintro e W4 ⟨v4, rfl, hn4, hb4⟩; obtain ⟨A4, c4, rfl, hn4'⟩ := hn4; have hx4 := Boxed.below HX3.out hb4; have hc4 := hx4.cell; have hf4 := hx4.frozen; have HX4 := Aside0.mk hx4; have HN4 := Aside0.mk hn4'; have HB4 := Aside0.mk hb4; clear hn4' hb4 hx4))
      all_goals
        exact times_close HB.out HB0.out HWS.out (Below.trans (below_drew (Below.refl _ W)) HB3.out) HX4.out ⟨A4, c4, rfl, HN4.out⟩ HB4.out (by rw [HSN.out, HT.out])
    · have hpos : 0 < (bd 10000 t).length := bd_len_pos (by omega) (by omega)
      obtain ⟨A', c', he, hcap, hr⟩ := hv
      obtain ⟨ad, hA, hcell⟩ := hr.2.2 hpos
      obtain ⟨rfl, rfl⟩ : A = A' ∧ c = c' := by injection he with h1 h2 h3; exact ⟨h1, h3⟩
      subst hA
      have b1 : decide (0 < ((bd 10000 t).length : Int)) = true := decide_eq_true (by omega)
      have b2 : decide (0 < (bd 10000 t).length) = true := decide_eq_true hpos
      have HT := Aside0.mk (Nat.pos_of_ne_zero h0)
      have HLT : Aside0 ((bd 10000 t).length ≤ 600) := ⟨HG.out⟩
      have HCELL := Aside0.mk hcell
      have hc1' : ∀ o, (W.alloc o).cell? ⟨w.heap.size + 1, 0, none⟩ = some (.slice (some ad) (bd 10000 t).length c) := fun o => pw_cell_below (below_alloc (Below.refl _ _) o) hc1
      have HB1 := Aside0.mk hb1
      have HB0 := Aside0.mk hb0
      have HB := Aside0.mk hB
      obtain ⟨i0, hi, hz0, hz1, hz2⟩ := info_parts info3
      have HI := Aside0.mk hi
      have HZ0 := Aside0.mk hz0
      have HZ1 := Aside0.mk hz1
      have HZ2 := Aside0.mk hz2
      have HGL := Aside0.mk (GL_mul_le (a := a) (d := d) HLA.out HD.out)
      have HG' := Aside0.mk (GL_mul_le (a := t) (d := 9999) HG.out (by omega))
      clear hi hz0 hz1 hz2 hpos hcap hr he hcell hB hb1 hb0 h0 hc0 hf1
      gi_wp2_with (gi_at_builtin; go_must (refine wpListIn_append_own _ rfl (.tmp 15) (.tmp 16) 98 rfl w.heap.size 3 i0 (.int .i64 0) 1 8 Tryz.underlying98 HI.out HZ0.out HZ1.out HZ2.out rfl (by decide) _ 1 [.int .i64 0] rfl (own_lit W w.heap.size 3 .i64 [0] HB.out.size (by simp)) ad (bd 10000 t).length c (nums .i64 (bd 10000 t)) rfl (by rw [nums_length]; omega) (times_news W _ HCELL.out) (by intro u hu; simp [nums] at hu; obtain ⟨x, _, rfl⟩ := hu; rfl) (by have := HLT.out; simp only [maxLen]; omega) (by have := HLT.out; omega) (by have := HB.out.size; simp; omega) ?_); intro v' w1 hown' hgrow _; obtain ⟨A5, c5, rfl, H5⟩ := times_grown HT.out hown'; have HGR := Aside0.mk hgrow; have hx5 := times_box HB1.out (by have := HWS.out; omega) hgrow; have hc5 := hx5.cell; have hf5 := hx5.frozen; have HX5 := Aside0.mk hx5; have HV5 := Aside0.mk H5; clear hown' hgrow H5 hx5 hc1 hc1')
      obtain ⟨W6, hW6⟩ : ∃ W6, w1.setCell ⟨w.heap.size + 1, 0, none⟩ (.slice A5 (bd 10000 (t * 10000)).length c5) = W6 := ⟨_, rfl⟩
      have hj := times_join HB.out HB0.out HWS.out HX5.out HGR.out HV5.out
      rw [hW6] at hj ⊢
      obtain ⟨j1, j2, j3, j4, j5, j6, j7⟩ := hj
      have hc1 := j5.cell
      have hc0 := j4.cell
      have J1 := Aside0.mk j1
      have J2 := Aside0.mk j2
      have HV := Aside0.mk j6
      have HB1 := Aside0.mk j5
      have HB0 := Aside0.mk j4
      have HB := Aside0.mk j3
      have HWS := Aside0.mk j7
      have HG2 : Aside0 (GL (t * 10000) ≤ 1000) := ⟨by have h1 : (bd 10000 (t * 10000)).length = (bd 10000 t).length + 1 := (by rw [bd_mul (by omega) HT.out]; rfl); have h2 := HLT.out; show (bd 10000 (t * 10000)).length ≤ 1000; omega⟩
      clear j1 j2 j3 j4 j5 j6 j7 hW6 hc5 hf5 HX5 HV5 HGR
      gi_wp2_with fail
      gi_region_with (first
        | (refine ⟨trivial, ?_⟩; gi_at_call 108; refine (CallsIn.inRound l (callsIn_wide.2 (nby_calls _ a d _ ⟨A1, c1, rfl, HC1.out, HR1.out.below (below_drew HB.out)⟩ (by have := HLA.out; omega) (by have := HD.out; omega)))).mono ?_; rintro e W3 ⟨v3, rfl, hn3, hb3⟩; have hx3 := Boxed.below (W := W6.drew) HB1.out hb3; have hc3 := hx3.cell; have HX3 := Aside0.mk hx3; have HN3 := Aside0.mk hn3; have HB3 := Aside0.mk hb3; clear hn3 hb3 hx3)
        | (refine ⟨trivial, ?_⟩; gi_at_call 86; refine (CallsIn.inRound l (callsIn_wide.2 (nplus_calls _ _ (t * 10000) (a * d) _ (Nm.below (w := W6.drew) HV.out HB3.out) HN3.out HG2.out (Nat.le_trans HGL.out (by omega))))).mono ?_; rintro e W4 ⟨v4, rfl, hn4, hb4⟩; obtain ⟨A4, c4, rfl, hn4'⟩ := hn4; have hx4 := Boxed.below HX3.out hb4; have hc4 := hx4.cell; have hf4 := hx4.frozen; have HX4 := Aside0.mk hx4; have HN4 := Aside0.mk hn4'; have HB4 := Aside0.mk hb4; clear hn4' hb4 hx4))
      all_goals
        obtain ⟨z1, z2, z3⟩ := times_close HB.out HB0.out HWS.out (Below.trans (below_drew (Below.refl _ W6)) HB3.out) HX4.out ⟨A4, c4, rfl, HN4.out⟩ HB4.out HSN.out
        exact ⟨J1.out.trans z1, J2.out.trans z2, z3⟩
  case done =>
    rintro D ys W hD rfl ⟨⟨A, c, hb1, hb0, hv, _⟩, hB⟩ hK
    have hc1 := hb1.cell
    have HV := Aside0.mk hv
    clear hv
    gi_wp2_with fail
    refine ⟨by simp, .inl ⟨_, _, rfl, run_takeDeferred hK, ?_⟩⟩
    have hn := Nm.kept HV.out (grownBy_putObj' W D (.deferred none)) (fun r e => by cases e; exact ⟨_, hK, rfl⟩)
    rw [tv_all] at hn
    exact ⟨_, results_tmp rfl _ _ _, _, rfl, by rw [tv_all]; exact hn, hB.trans (belowK_b (w := w) (Nat.le_refl _) W D _ _ (by omega) hK rfl rfl)⟩
  case stop =>
    rintro D c pre W _ _ h _
    exact h.elim

end Go.Proofs.YtnhjidbjibehpaaGreatDoor.L3
