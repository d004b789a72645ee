/- Layer 3, walked: Add, Sub, Mul, Compare. -/
import Derived.Test.YtnhjidbjibehpaaGreatDoorIs
namespace Go.Proofs.YtnhjidbjibehpaaGreatDoor.L3
open Go.Shelf Go.RowKit Go.Proofs.YtnhjidbjibehpaaGreatDoorW.PrintWords Go.Proofs.YtnhjidbjibehpaaGreatDoorW.PrintLast Go.Proofs.YtnhjidbjibehpaaGreatDoorW.PrintMore Yd
set_option linter.unusedVariables false
set_option linter.unusedSimpArgs false

def bad2 : Value := .tuple #[.string ⟨#[]⟩, .int .i64 30]
/-- what an operation on two integers returns -/
def bin (f : Int → Int → Int) (s t : List UInt8) : Value := match ival s, ival t with
  | some x, some y => tres (f x y)
  | _, _ => bad2
theorem bin_no {f : Int → Int → Int} {s t : List UInt8} (h : ival s = none ∨ ival t = none) : bin f s t = bad2 := by
  unfold bin
  rcases h with h | h
  · rw [h]
  · rw [h]; cases ival s <;> rfl
theorem bin_yes {f : Int → Int → Int} {s t : List UInt8} {x y : Int} (h1 : ival s = some x) (h2 : ival t = some y) : bin f s t = tres (f x y) := by
  unfold bin; rw [h1, h2]
theorem GL_DL {n : Nat} (h : n < DL) : GL n ≤ 50 := by
  apply GL_lt
  rw [DL_eq, show 200 = 4 * 50 from rfl, Nat.pow_mul] at h
  exact h
theorem GL_ival {s : List UInt8} {x : Int} (h : ival s = some x) : GL x.natAbs ≤ 50 := GL_DL (ival_iff.1 h).2
theorem ival_cases (s t : List UInt8) : (ival s = none ∨ ival t = none) ∨ ∃ x y, ival s = some x ∧ ival t = some y := by
  cases h1 : ival s with
  | none => exact .inl (.inl rfl)
  | some x => cases h2 : ival t with
    | none => exact .inl (.inr rfl)
    | some y => exact .inr ⟨x, y, rfl, rfl⟩

theorem tres_tuple (z : Int) : ∃ r e, tres z = .tuple #[.string r, .int .i64 e] := by
  unfold tres; split <;> exact ⟨_, _, rfl⟩
theorem GL_add {x y : Int} (h1 : GL x.natAbs ≤ 50) (h2 : GL y.natAbs ≤ 50) : GL (x + y).natAbs ≤ 51 := by
  apply GL_lt
  have a := lt_pow_GL h1
  have b := lt_pow_GL h2
  rw [Nat.pow_succ]
  generalize 10000 ^ 50 = p at *
  omega
theorem GL_sub {x y : Int} (h1 : GL x.natAbs ≤ 50) (h2 : GL y.natAbs ≤ 50) : GL (x - y).natAbs ≤ 51 := by
  apply GL_lt
  have a := lt_pow_GL h1
  have b := lt_pow_GL h2
  rw [Nat.pow_succ]
  generalize 10000 ^ 50 = p at *
  omega
theorem GL_mulI {x y : Int} (h1 : GL x.natAbs ≤ 50) (h2 : GL y.natAbs ≤ 50) : GL (x * y).natAbs ≤ 100 := by
  apply GL_lt
  have a := lt_pow_GL h1
  have b := lt_pow_GL h2
  rw [Int.natAbs_mul, show 100 = 50 + 50 from rfl, Nat.pow_add]
  exact Nat.mul_lt_mul_of_lt_of_le a (Nat.le_of_lt b) (Nat.pow_pos (by omega))
theorem alloc2 {w w1 : World} (h : Below w.heap.size w w1) (o o' : Obj) : Below w.heap.size w ((w1.alloc o).alloc o') := below_alloc (below_alloc h o) o'
theorem alloc2' (w1 : World) (o o' : Obj) : Below w1.heap.size w1 ((w1.alloc o).alloc o') := below_alloc (below_alloc (Below.refl _ w1) o) o'

structure PBx (w W : World) (a b : Array Value) : Prop where
  bl : Below w.heap.size w W
  p0 : W.heap[w.heap.size]? = some (.cells a 100)
  p1 : W.heap[w.heap.size + 1]? = some (.cells b 100)
theorem PBx.start (w : World) (a b : Array Value) : PBx w ((w.alloc (.cells a 100)).alloc (.cells b 100)) a b := by
  refine ⟨alloc2' w _ _, ?_, ?_⟩
  · exact (alloc_old _ _ (by rw [World.size_alloc]; omega)).trans (alloc_here w _)
  · have := alloc_here (w.alloc (.cells a 100)) (.cells b 100)
    rwa [World.size_alloc] at this
theorem PBx.next {w W W' : World} {a b : Array Value} (h : PBx w W a b) (hb : Below W.heap.size W W') : PBx w W' a b :=
  ⟨h.bl.trans (hb.mono h.bl.size), (hb.block _ (blk_lt h.p0)).trans h.p0, (hb.block _ (blk_lt h.p1)).trans h.p1⟩
theorem Sg.negate {w : World} {b : Bool} {u : Value} {x : Int} (h : Sg w (.agg #[.bool b, u]) x) : Sg w (.agg #[.bool (!b), u]) (-x) := by
  obtain ⟨b', u', n, e, h2, h3⟩ := h
  injection e with e
  obtain ⟨rfl, rfl⟩ : b = b' ∧ u = u' := by
    simp at e; exact e
  refine ⟨!b, u, n, rfl, h2, ?_⟩
  rw [h3]; cases b <;> simp

set_option maxRecDepth 100000 in
set_option maxHeartbeats 4000000 in
/-- Add -/
theorem add_calls (s t : ByteArray) (w : World) (hT : Tab w) :
    Calls Tryz.prog 62 #[.string s, .string t] w fun e w' => e = .returned (bin (· + ·) s.data.toList t.data.toList) ∧ Below w.heap.size w w' := by
  have HT := Aside0.mk hT
  clear hT
  go_enter Tryz.func62, Tryz.ntmps62
  go_wp2_with fail
  rcases ival_cases s.data.toList t.data.toList with h | ⟨x, y, h1, h2⟩
  · refine (both_no s t _ h).mono ?_
    rintro e w1 ⟨rfl, hb⟩
    have HE := Aside0.mk (bin_no (f := (· + ·)) h)
    have HB := Aside0.mk hb
    clear hb h
    go_wp2_with fail
    go_ret2
    exact ⟨by rw [HE.out]; rfl, alloc2 HB.out _ _⟩
  · refine (both_yes s t x y _ h1 h2).mono ?_
    rintro e w1 ⟨v, v', rfl, hx, hy, hb⟩
    have HE := Aside0.mk (bin_yes (f := (· + ·)) h1 h2)
    have HB := Aside0.mk hb
    have HX := Aside0.mk hx.sg
    have HY := Aside0.mk hy.sg
    have HGX := Aside0.mk (GL_ival h1)
    have HGY := Aside0.mk (GL_ival h2)
    obtain ⟨r, er, hr⟩ := tres_tuple ((· + ·) x y)
    have HR := Aside0.mk hr
    obtain ⟨b1, A1, l1, c1, rfl⟩ := hx.agg
    obtain ⟨b2, A2, l2, c2, rfl⟩ := hy.agg
    clear hb h1 h2 hx hy hr
    go_wp2_with fail
    refine (splus_calls _ _ x y _ (HX.out.below (alloc2' w1 _ _)) (HY.out.below (alloc2' w1 _ _)) (Nat.le_trans HGX.out (by omega)) (Nat.le_trans HGY.out (by omega))).mono ?_
    rintro e W3 ⟨v3, rfl, hs3, hb3⟩
    have HB3 := Aside0.mk ((alloc2' w1 _ _).trans (hb3.mono (alloc2' w1 _ _).size))
    have HS3 := Aside0.mk hs3
    clear hs3 hb3
    go_wp2_with fail
    refine (text_calls _ (x + y) _ HS3.out (HT.out.below (HB.out.trans (HB3.out.mono HB.out.size)) (Nat.le_refl _)) (Nat.le_trans (GL_add HGX.out HGY.out) (by omega))).mono ?_
    rintro e W4 ⟨rfl, hb4⟩
    rw [HR.out]
    have HB4 := Aside0.mk (HB.out.trans ((HB3.out.trans (hb4.mono HB3.out.size)).mono HB.out.size))
    clear hb4
    go_wp2_with fail
    go_ret2
    exact ⟨by rw [HE.out, HR.out]; rfl, HB4.out⟩

set_option maxRecDepth 100000 in
set_option maxHeartbeats 4000000 in
/-- Sub -/
theorem sub_calls (s t : ByteArray) (w : World) (hT : Tab w) :
    Calls Tryz.prog 73 #[.string s, .string t] w fun e w' => e = .returned (bin (· - ·) s.data.toList t.data.toList) ∧ Below w.heap.size w w' := by
  have HT := Aside0.mk hT
  clear hT
  go_enter Tryz.func73, Tryz.ntmps73
  go_wp2_with fail
  rcases ival_cases s.data.toList t.data.toList with h | ⟨x, y, h1, h2⟩
  · refine (both_no s t _ h).mono ?_
    rintro e w1 ⟨rfl, hb⟩
    have HE := Aside0.mk (bin_no (f := (· - ·)) h)
    have HB := Aside0.mk hb
    clear hb h
    go_wp2_with fail
    go_ret2
    exact ⟨by rw [HE.out]; rfl, alloc2 HB.out _ _⟩
  · refine (both_yes s t x y _ h1 h2).mono ?_
    rintro e w1 ⟨v, v', rfl, hx, hy, hb⟩
    have HE := Aside0.mk (bin_yes (f := (· - ·)) h1 h2)
    have HB := Aside0.mk hb
    have HX := Aside0.mk hx.sg
    have HY := Aside0.mk hy.sg
    have HGX := Aside0.mk (GL_ival h1)
    have HGY := Aside0.mk (GL_ival h2)
    obtain ⟨r, er, hr⟩ := tres_tuple ((· - ·) x y)
    have HR := Aside0.mk hr
    obtain ⟨b1, A1, l1, c1, rfl⟩ := hx.agg
    obtain ⟨b2, A2, l2, c2, rfl⟩ := hy.agg
    clear hb h1 h2 hx hy hr
    go_wp2_with fail
    have HYN := Aside0.mk (HY.out.negate)
    refine (splus_calls _ _ x (-y) _ (HX.out.below (alloc2' w1 _ _)) (HYN.out.below (alloc2' w1 _ _)) (Nat.le_trans HGX.out (by omega)) (by rw [Int.natAbs_neg]; exact Nat.le_trans HGY.out (by omega))).mono ?_
    rintro e W3 ⟨v3, rfl, hs3, hb3⟩
    have HB3 := Aside0.mk ((alloc2' w1 _ _).trans (hb3.mono (alloc2' w1 _ _).size))
    rw [show x + -y = x - y by omega] at hs3
    have HS3 := Aside0.mk hs3
    clear hs3 hb3
    go_wp2_with fail
    refine (text_calls _ (x - y) _ HS3.out (HT.out.below (HB.out.trans (HB3.out.mono HB.out.size)) (Nat.le_refl _)) (Nat.le_trans (GL_sub HGX.out HGY.out) (by omega))).mono ?_
    rintro e W4 ⟨rfl, hb4⟩
    rw [HR.out]
    have HB4 := Aside0.mk (HB.out.trans ((HB3.out.trans (hb4.mono HB3.out.size)).mono HB.out.size))
    clear hb4
    go_wp2_with fail
    go_ret2
    exact ⟨by rw [HE.out, HR.out]; rfl, HB4.out⟩

end Go.Proofs.YtnhjidbjibehpaaGreatDoor.L3
