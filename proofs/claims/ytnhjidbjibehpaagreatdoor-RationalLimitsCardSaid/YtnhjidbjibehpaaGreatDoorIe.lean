/- Layer 3, walked: slices.Backward over the groups of a number. -/
import Derived.Test.YtnhjidbjibehpaaGreatDoorId
import Derived.RangeFuncNested
import Derived.RangeFuncBox
import Derived.RangeFuncLeaves
import Derived.RangeFuncBound
import Derived.RangeFuncCalls
import Derived.Shelf.RegionOpen
import Derived.OwnWalkIn
import Derived.TacticsInMore
import Derived.LoopNIn
import Derived.LoopIn
namespace Go.Proofs.YtnhjidbjibehpaaGreatDoor.L3
open Go.Shelf Go.RowKit Go.Proofs.YtnhjidbjibehpaaGreatDoorW.PrintWords Go.Proofs.YtnhjidbjibehpaaGreatDoorW.PrintLast Go.Proofs.YtnhjidbjibehpaaGreatDoorW.PrintMore Yd
set_option linter.unusedVariables false
set_option linter.unusedSimpArgs false
attribute [local go_sem] Oper.semAt_some

/-- the places of a list, from the end -/
def down (N : Nat) : List (Fin N) := (List.finRange N).reverse
theorem down_length (N : Nat) : (down N).length = N := by simp [down]
theorem down_get (N k : Nat) (h : k < N) : (down N)[k]? = some ⟨N - 1 - k, by omega⟩ := by
  rw [List.getElem?_eq_getElem (by rw [down_length]; exact h)]
  simp [down, List.getElem_reverse]
theorem down_take_succ (N k : Nat) (h : k < N) : (down N).take (k + 1) = (down N).take k ++ [⟨N - 1 - k, by omega⟩] := by
  rw [List.take_add_one, down_get N k h]; rfl
theorem down_take_all (N : Nat) : (down N).take N = down N := List.take_of_length_le (by rw [down_length]; omega)

/-- three boxes, one behind the other -/
structure Boxes3 (w W : World) (x y z : Value) : Prop where
  below : Below w.heap.size w W
  c0 : W.cell? ⟨w.heap.size, 0, none⟩ = some x
  c1 : W.cell? ⟨w.heap.size + 1, 0, none⟩ = some y
  c2 : W.cell? ⟨w.heap.size + 1 + 1, 0, none⟩ = some z
  f0 : W.frozen? ⟨w.heap.size, 0, none⟩ = false
  f1 : W.frozen? ⟨w.heap.size + 1, 0, none⟩ = false
  f2 : W.frozen? ⟨w.heap.size + 1 + 1, 0, none⟩ = false
  size : W.heap.size = w.heap.size + 3
theorem boxes3 (w : World) (x y z : Value) (t u v : TypeId) : Boxes3 w (((w.alloc (.cells #[x] t)).alloc (.cells #[y] u)).alloc (.cells #[z] v)) x y z :=
  ⟨below_alloc (below_alloc (below_alloc (Below.refl _ _) _) _) _, by simp [go_sem], by simp [go_sem], by simp [go_sem], by simp [go_sem], by simp [go_sem], by simp [go_sem], by simp⟩

theorem Drawn0.others {w w' : World} (h : Drawn0 w w') : KeepsOthers w w' := by
  obtain ⟨n, rfl⟩ := h.out
  exact ⟨Nat.le_refl _, fun _ _ h _ => h⟩
theorem Drawn0.cell {w w' : World} (h : Drawn0 w w') (a : Addr) : w'.cell? a = w.cell? a := by
  obtain ⟨n, rfl⟩ := h.out; rfl
theorem Drawn0.frozen {w w' : World} (h : Drawn0 w w') (a : Addr) : w'.frozen? a = w.frozen? a := by
  obtain ⟨n, rfl⟩ := h.out; rfl
theorem Drawn0.below_of {w W w' : World} {B : Nat} (h : Drawn0 W w') (hb : Below B w W) : Below B w w' := by
  obtain ⟨n, rfl⟩ := h.out
  exact pw_below_drewN hb n

/-- what a round that goes on keeps: all below n₀, and one block more -/
def KB (n₀ Bs : Nat) (W W' : World) : Prop := Below n₀ W W' ∧ W'.heap[Bs]? = W.heap[Bs]?
theorem KB.refl (n₀ Bs : Nat) (W : World) : KB n₀ Bs W W := ⟨Below.refl _ _, rfl⟩
theorem KB.trans {n₀ Bs : Nat} {A B C : World} (h : KB n₀ Bs A B) (h' : KB n₀ Bs B C) : KB n₀ Bs A C := ⟨h.1.trans h'.1, h'.2.trans h.2⟩
theorem KB.cellB {n₀ Bs : Nat} {A B : World} (h : KB n₀ Bs A B) : B.cell? ⟨Bs, 0, none⟩ = A.cell? ⟨Bs, 0, none⟩ := World.cell?_of_block (w := A) h.2
theorem KB.putObj {n₀ Bs : Nat} (W : World) (l : Nat) (o : Obj) (h1 : n₀ ≤ l) (h2 : Bs < l) : KB n₀ Bs W (W.putObj l o) :=
  ⟨⟨rfl, rfl, rfl, by simp, fun k hk => World.putObj_heap_other (by omega)⟩, World.putObj_heap_other (by omega)⟩

/-- what a round over the groups is handed -/
def encB (xs : List Int) (x : Fin xs.length) : Array Value := #[.int .i64 ((x.1 : Nat) : Int), .int .i64 (rd xs ((x.1 : Nat) : Int))]

set_option maxRecDepth 100000 in
set_option maxHeartbeats 2000000 in
theorem back1_in (n l Bs n₀ : Nat) (hn1 : 1 ≤ n) (A : Option Addr) (c : Nat) (xs : List Int) (hN : xs.length ≤ 100000) (hA : ∀ ad, A = some ad → 0 < xs.length → ad.block < n₀)
    (J Jx : List (Fin xs.length) → World → Prop)
    (hY : ∀ pre x W, J pre W → pre.length < xs.length → YieldAt Fence.wide (n - 1) Tryz.prog l (encB xs x) W fun e W' =>
      (e = .returned (.bool true) ∧ J (pre ++ [x]) W' ∧ KB n₀ Bs W W') ∨ (e = .returned (.bool false) ∧ Jx (pre ++ [x]) W'))
    (W : World) (hcB : W.cell? ⟨Bs, 0, none⟩ = some (.slice A xs.length c)) (hr : ReadsInt W .i64 A xs.length xs) (h0 : J [] W) :
    CallsIn Fence.wide n Tryz.prog 137 #[.func (.yield l) #[] #[], .pointer (some ⟨Bs, 0, none⟩)] W fun e W' => (∃ v, e = .returned v) ∧
      ((∃ ys, ys = down xs.length ∧ J ys W') ∨ (∃ pre, pre <+: down xs.length ∧ Jx pre W')) := by
  have HR := Aside0.mk hr
  have HA := Aside0.mk hA
  have HY := Aside0.mk hY
  clear hr hA hY
  refine callsIn_of_wp Tryz.func137 rfl trivial ?_ rfl
  simp only [Tryz.ntmps137, List.size_toArray, List.length_cons, List.length_nil, Nat.reduceAdd, Nat.reduceSub, Array.replicate_succ, Array.replicate_zero, List.push_toArray, List.append_toArray, List.nil_append, List.cons_append]
  gi_wp2
  gi_loopw [3] (fun i wr => ∃ (t : Int) (k : Nat), i = .int .i64 t ∧ Aside0 (t = (xs.length : Int) - 1 - k) ∧ Aside0 (k ≤ xs.length) ∧ Aside0 (J ((down xs.length).take k) wr) ∧ Aside0 (KB n₀ Bs W wr))
    (fun i _ => (intOf i + 1).toNat)
  case atStart => exact ⟨(xs.length : Int) - 1, 0, by simp, ⟨by omega⟩, ⟨Nat.zero_le _⟩, ⟨by simpa using h0⟩, ⟨KB.refl _ _ _⟩⟩
  case round =>
    obtain ⟨t, k, rfl, HT, HK, HJ, HB⟩ := hrel
    have hcB' : wr.cell? ⟨Bs, 0, none⟩ = some (.slice A xs.length c) := HB.out.cellB.trans hcB
    by_cases hlt : 0 ≤ t
    · obtain ⟨j, rfl⟩ := Int.eq_ofNat_of_zero_le hlt
      have hj : j < xs.length := by have := HT.out; omega
      obtain ⟨ad, hAe, hc⟩ := HR.out.at_ (j : Int) (by omega) (by omega)
      rw [Int.toNat_natCast] at hc
      have hadb : ad.block < n₀ := HA.out ad hAe (by omega)
      have hc' : wr.cell? (ad.add j) = some (.int .i64 (rd xs (j : Int))) := by
        have hb : (ad.add j).block = ad.block := by unfold Addr.add; split <;> rfl
        exact (HB.out.1.cell (by rw [hb]; exact hadb)).trans hc
      have hjk : xs.length - 1 - k = j := by have := HT.out; omega
      have hkN : k < xs.length := by have := HT.out; omega
      obtain ⟨fn, tmps, assign, body, hy, hR⟩ := HY.out _ ⟨j, hj⟩ wr HJ.out (by rw [List.length_take, down_length]; omega)
      simp only [encB] at hy
      have HTK := Aside0.mk (by rw [down_take_succ _ k hkN]; congr 1; simp [hjk] : (down xs.length).take (k + 1) = (down xs.length).take k ++ [⟨j, hj⟩])
      have HKN := Aside0.mk hkN
      have HRR := Aside0.mk hR
      subst hAe
      have q := eq_true (by omega : (j : Int) < (xs.length : Int))
      have b1 : decide (0 ≤ (j : Int)) = true := decide_eq_true (by omega)
      clear hc hadb hjk hkN hR hlt
      gi_wp2
      refine HRR.out.mono ?_
      rintro e W3 (⟨rfl, hJ3, hk3⟩ | ⟨rfl, hJx3⟩)
      · rw [← HTK.out] at hJ3
        have HJ3 := Aside0.mk hJ3
        have HB3 := Aside0.mk (HB.out.trans hk3)
        clear hJ3 hk3 HRR HJ HB
        gi_wp2
        go_roundw
        case rel => exact ⟨(j : Int) - 1, k + 1, by simp, ⟨by have := HT.out; omega⟩, ⟨by have := HKN.out; omega⟩, HJ3, HB3⟩
        case measure => simp [intOf]
      · rw [← HTK.out] at hJx3
        have HJ3 := Aside0.mk hJx3
        clear hJx3 HRR HJ HB
        gi_wp2
        refine bodyPost_ret (results_none rfl _ _ _) rfl ?_
        exact ⟨⟨_, rfl⟩, .inr ⟨_, List.take_prefix _ _, HJ3.out⟩⟩
    · have hk : k = xs.length := by have := HT.out; have := HK.out; omega
      have HJF := Aside0.mk (by have := HJ.out; rw [hk, down_take_all] at this; exact this : J (down xs.length) wr)
      have b1 : decide (0 ≤ t) = false := decide_eq_false hlt
      clear hk HJ hlt
      gi_wp2
      go_end0
      exact ⟨⟨_, rfl⟩, .inl ⟨_, rfl, HJF.out⟩⟩

/-- slices.Backward: the slice value is boxed; the function value captures the box. -/
theorem back_calls (A : Option Addr) (len c : Nat) (w : World) :
    Calls Tryz.prog 106 #[.slice A len c] w fun e w' => e = .returned (.func (.func 137) #[] #[.pointer (some ⟨w.heap.size, 0, none⟩)]) ∧ w' = w.alloc (.cells #[.slice A len c] 98) := by
  go_enter Tryz.func106, Tryz.ntmps106
  go_wp2
  go_ret
  exact ⟨rfl, rfl⟩

/-- what Backward gives: the places from the end, or a prefix of them -/
theorem back_stops (n Bs n₀ : Nat) (hn1 : 1 ≤ n) (A : Option Addr) (c : Nat) (xs : List Int) (hN : xs.length ≤ 100000) (w : World) (hBs : Bs < w.heap.size) (hn₀ : n₀ ≤ w.heap.size) (hA : ∀ ad, A = some ad → 0 < xs.length → ad.block < n₀)
    (hcB : w.cell? ⟨Bs, 0, none⟩ = some (.slice A xs.length c)) (hr : ReadsInt w .i64 A xs.length xs) :
    SeqStopsK Fence.wide n Tryz.prog 137 #[.pointer (some ⟨Bs, 0, none⟩)] (encB xs) (KB n₀ Bs) (fun ys => ys = down xs.length) (fun pre => pre <+: down xs.length) xs.length w := fun l J Jx W hW _ _ hY h0 =>
  back1_in n l Bs n₀ hn1 A c xs hN hA J Jx hY W ((hW.cell (p := ⟨Bs, 0, none⟩) hBs).trans hcB) (hr.below hW) h0

end Go.Proofs.YtnhjidbjibehpaaGreatDoor.L3
