/- Layer 3, walked: number.times. -/
import Derived.Test.YtnhjidbjibehpaaGreatDoorIg
import Derived.Stop.RegionWithIn
import Derived.Deep.DeepMust
namespace Go.Proofs.YtnhjidbjibehpaaGreatDoor.L3
open Go.Shelf Go.RowKit Go.Proofs.YtnhjidbjibehpaaGreatDoorW.PrintWords Go.Proofs.YtnhjidbjibehpaaGreatDoorW.PrintLast Go.Proofs.YtnhjidbjibehpaaGreatDoorW.PrintMore Yd
set_option linter.unusedVariables false
set_option linter.unusedSimpArgs false
attribute [local go_sem] Oper.semAt_some

/-- the product so far -/
def tv (a b : Nat) (pre : List (Fin (GL b))) : Nat := pre.foldl (fun acc p => acc * 10000 + a * (b / 10000 ^ p.1 % 10000)) 0
theorem tv_nil (a b : Nat) : tv a b [] = 0 := rfl
theorem tv_snoc (a b : Nat) (pre : List (Fin (GL b))) (x : Fin (GL b)) : tv a b (pre ++ [x]) = tv a b pre * 10000 + a * (b / 10000 ^ x.1 % 10000) := by simp [tv]
theorem tv_lt (a b : Nat) : ∀ pre : List (Fin (GL b)), tv a b pre + a ≤ a * 10000 ^ pre.length := by
  intro pre
  suffices h : ∀ r : List (Fin (GL b)), tv a b r.reverse + a ≤ a * 10000 ^ r.length by simpa using h pre.reverse
  intro r
  induction r with
  | nil => simp [tv]
  | cons x r ih =>
    rw [List.reverse_cons, tv_snoc, List.length_cons, Nat.pow_succ, ← Nat.mul_assoc]
    have hd := Nat.mod_lt (b / 10000 ^ x.1) (show 10000 > 0 by omega)
    have h2 : a * (b / 10000 ^ x.1 % 10000) ≤ a * 9999 := Nat.mul_le_mul_left _ (by omega)
    omega
theorem tv_GL (a b : Nat) (pre : List (Fin (GL b))) : GL (tv a b pre) ≤ GL a + pre.length := by
  apply GL_lt
  rw [Nat.pow_add]
  have h1 := tv_lt a b pre
  have h2 := lt_pow_GL (n := a) (Nat.le_refl _)
  have hp : 0 < 10000 ^ pre.length := Nat.pow_pos (by omega)
  have h3 : (a + 1) * 10000 ^ pre.length ≤ 10000 ^ GL a * 10000 ^ pre.length := Nat.mul_le_mul_right _ h2
  rw [Nat.add_mul] at h3
  omega
theorem GL_mul_le {a d k : Nat} (ha : GL a ≤ k) (hd : d < 10000) : GL (a * d) ≤ k + 1 := by
  apply GL_lt
  have h := lt_pow_GL ha
  rw [Nat.pow_succ]
  have h2 : a * d ≤ a * 10000 := Nat.mul_le_mul_left _ (by omega)
  generalize 10000 ^ k = p at *
  omega
theorem tv_down (a b : Nat) : ∀ k, k ≤ GL b → tv a b ((down (GL b)).take k) = a * (b / 10000 ^ (GL b - k)) := by
  intro k
  induction k with
  | zero =>
    intro _
    have : b / 10000 ^ GL b = 0 := Nat.div_eq_of_lt (lt_pow_GL (Nat.le_refl _))
    simp [tv, this]
  | succ k ih =>
    intro hk
    rw [down_take_succ _ k (by omega), tv_snoc, ih (by omega)]
    have e : GL b - k = (GL b - (k + 1)) + 1 := by omega
    have e2 : GL b - 1 - k = GL b - (k + 1) := by omega
    simp only [e2]
    rw [e, Nat.pow_succ, ← Nat.div_div_eq_div_mul]
    have := Nat.div_add_mod (b / 10000 ^ (GL b - (k + 1))) 10000
    rw [Nat.mul_assoc, ← Nat.mul_add]
    congr 1
    omega
theorem tv_all (a b : Nat) : tv a b (down (GL b)) = a * b := by
  have := tv_down a b (GL b) (Nat.le_refl _)
  rw [down_take_all] at this
  simpa using this

theorem Nm.kept {w w1 : World} {v : Value} {n : Nat} (h : Nm w v n) {row : Option Nat} (hg : w.grownBy w1 row) (hr : ∀ r, row = some r → ∃ o : Obj, w.heap[r]? = some o ∧ o.isCells = false) : Nm w1 v n := by
  obtain ⟨A, c, e, hc, h1, h2, h3⟩ := h
  refine ⟨A, c, e, hc, h1, h2, fun hn => ?_⟩
  obtain ⟨ad, e, hcell⟩ := h3 hn
  exact ⟨ad, e, fun j hj => cell_kept (hcell j hj) hg hr⟩
theorem others_of_below {W W' : World} (h : Below W.heap.size W W') : KeepsOthers W W' :=
  ⟨h.size, fun k o hk _ => (h.block k (Array.getElem?_eq_some_iff.1 hk).1).trans hk⟩
theorem KB.of_below {n₀ Bs : Nat} {W W' : World} (h : Below W.heap.size W W') (hn : n₀ ≤ W.heap.size) (hb : Bs < W.heap.size) : KB n₀ Bs W W' := ⟨h.mono hn, h.block Bs hb⟩
theorem KB.setCell {n₀ Bs : Nat} (W : World) (k : Nat) (v : Value) (h1 : n₀ ≤ k) (h2 : k ≠ Bs) : KB n₀ Bs W (W.setCell ⟨k, 0, none⟩ v) :=
  ⟨(Below.refl n₀ W).setCell (p := ⟨k, 0, none⟩) h1 v, Below.heap_setCell W ⟨k, 0, none⟩ v Bs (by show Bs ≠ k; omega)⟩
theorem Boxed.own {W W' : World} {B : Nat} {ty : TypeId} {v : Value} (h : Boxed W B ty v) {row : Option Nat} (hg : W.grownBy W' row) (hr : ∀ r, row = some r → ∃ o : Obj, W.heap[r]? = some o ∧ o.isCells = false) : Boxed W' B ty v :=
  h.kept hg (fun e => by
    obtain ⟨o, ho, hc⟩ := hr B e.symm
    rw [show W.heap[B]? = _ from h] at ho
    injection ho with ho
    subst ho
    cases hc)
theorem Boxed.below {W W' : World} {B : Nat} {ty : TypeId} {v : Value} (h : Boxed W B ty v) (hb : Below W.heap.size W W') : Boxed W' B ty v := (hb.block B h.lt).trans h
theorem Boxed.keepB {W : World} {B k : Nat} {ty : TypeId} {v : Value} (h : Boxed W B ty v) (u : Value) (hk : B ≠ k) : Boxed (W.setCell ⟨k, 0, none⟩ u) B ty v :=
  (Below.heap_setCell W ⟨k, 0, none⟩ u B hk).trans h
/-- a number lies in no box of a slice -/
theorem Nm.setBox {W : World} {B : Nat} {ty : TypeId} {A0 : Option Addr} {l0 c0 : Nat} {v : Value} {n : Nat} (h : Nm W v n) (hb : Boxed W B ty (.slice A0 l0 c0)) (u : Value) : Nm (W.setCell ⟨B, 0, none⟩ u) v n := by
  obtain ⟨A, c, e, hc, h1, h2, h3⟩ := h
  refine ⟨A, c, e, hc, h1, h2, fun hn => ?_⟩
  obtain ⟨ad, e', hcell⟩ := h3 hn
  refine ⟨ad, e', fun j hj => ?_⟩
  rw [World.cell?_of_block (w := W)]
  · exact hcell j hj
  · apply Below.heap_setCell
    intro hB
    have hx := hcell j hj
    unfold World.cell? at hx
    rw [show (ad.add j).block = B from hB, show W.heap[B]? = _ from hb] at hx
    simp only at hx
    split at hx
    · cases hx
    · generalize (ad.add j).off = o at hx
      cases o with
      | zero => simp at hx
      | succ o => simp at hx

theorem boxed3 (w : World) (x y z : Value) (t u v : TypeId) : Boxed (((w.alloc (.cells #[x] t)).alloc (.cells #[y] u)).alloc (.cells #[z] v)) w.heap.size t x ∧ Boxed (((w.alloc (.cells #[x] t)).alloc (.cells #[y] u)).alloc (.cells #[z] v)) (w.heap.size + 1) u y := by
  refine ⟨((Boxed.new w t x).alloc _).alloc _, ?_⟩
  have h := (Boxed.new (w.alloc (.cells #[x] t)) u y).alloc (.cells #[z] v)
  rwa [World.size_alloc] at h

theorem times_close {a b : Nat} {w W W3 W4 : World} {A1 A A4 : Option Addr} {c1 l0 c c4 n : Nat} {pre : List (Fin (GL b))} (hB : Below w.heap.size w W) (hb0 : Boxed W w.heap.size 98 (.slice A1 (bd 10000 a).length c1)) (hws : w.heap.size + 3 ≤ W.heap.size)
    (h3 : Below W.heap.size W W3) (hx4 : Boxed W4 (w.heap.size + 1) 98 (.slice A l0 c)) (hn : Nm W4 (.slice A4 (bd 10000 n).length c4) n) (h4 : Below W3.heap.size W3 W4) (hn' : tv a b pre = n) :
    KeepsOthers W (W4.setCell ⟨w.heap.size + 1, 0, none⟩ (.slice A4 (bd 10000 n).length c4)) ∧ KB w.heap.size (w.heap.size + 1 + 1) W (W4.setCell ⟨w.heap.size + 1, 0, none⟩ (.slice A4 (bd 10000 n).length c4)) ∧
    ((∃ A c, Boxed (W4.setCell ⟨w.heap.size + 1, 0, none⟩ (.slice A4 (bd 10000 n).length c4)) (w.heap.size + 1) 98 (.slice A (bd 10000 (tv a b pre)).length c) ∧ Boxed (W4.setCell ⟨w.heap.size + 1, 0, none⟩ (.slice A4 (bd 10000 n).length c4)) w.heap.size 98 (.slice A1 (bd 10000 a).length c1) ∧
      Nm (W4.setCell ⟨w.heap.size + 1, 0, none⟩ (.slice A4 (bd 10000 n).length c4)) (.slice A (bd 10000 (tv a b pre)).length c) (tv a b pre) ∧ w.heap.size + 3 ≤ (W4.setCell ⟨w.heap.size + 1, 0, none⟩ (.slice A4 (bd 10000 n).length c4)).heap.size) ∧ Below w.heap.size w (W4.setCell ⟨w.heap.size + 1, 0, none⟩ (.slice A4 (bd 10000 n).length c4))) := by
  have h34 : Below W.heap.size W W4 := h3.trans (h4.mono h3.size)
  have hs := h34.size
  refine ⟨(others_of_below h34).trans (KeepsOthers.setCell _ _ _), (KB.of_below h34 hB.size (by omega)).trans (KB.setCell _ _ _ (by omega) (by omega)), ⟨A4, c4, ?_, ?_, ?_, ?_⟩, ?_⟩
  · rw [hn']; exact hx4.set _
  · exact Boxed.keepB (Boxed.below hb0 h34) _ (by omega)
  · rw [hn']; exact Nm.setBox hn hx4 _
  · simp; omega
  · exact (hB.trans (h34.mono hB.size)).setCell (p := ⟨w.heap.size + 1, 0, none⟩) (by show _ ≤ w.heap.size + 1; omega) _

theorem times_news (W : World) (o : Obj) {ad : Addr} {xs : List Int} (h : ∀ j, j < xs.length → W.cell? (ad.add j) = some (.int .i64 (xs.getD j 0))) :
    ∀ j u, (nums .i64 xs)[j]? = some u → (W.alloc o).cell? (ad.add j) = some u := by
  intro j u hu
  have hj : j < xs.length := by
    rcases Nat.lt_or_ge j xs.length with hj | hj
    · exact hj
    · rw [List.getElem?_eq_none (by rw [nums_length]; exact hj)] at hu; cases hu
  have he : u = .int .i64 (xs.getD j 0) := by
    simp [nums, List.getElem?_eq_getElem hj] at hu
    rw [← hu, List.getD_eq_getElem?_getD, List.getElem?_eq_getElem hj]; rfl
  rw [he]
  exact pw_cell_below (below_alloc (Below.refl _ _) o) (h j hj)
theorem times_grown {w1 : World} {base t : Nat} {v : Value} (ht : 0 < t) (h : w1.ownsRow base 3 1 v (1 + (bd 10000 t).length) ([.int .i64 0] ++ nums .i64 (bd 10000 t))) :
    ∃ A c, v = .slice A (bd 10000 (t * 10000)).length c ∧ Nm w1 v (t * 10000) := by
  have e : [Value.int .i64 0] ++ nums .i64 (bd 10000 t) = nums .i64 (bd 10000 (t * 10000)) := by rw [bd_mul (by omega) ht]; rfl
  have e2 : 1 + (bd 10000 t).length = (bd 10000 (t * 10000)).length := by rw [bd_mul (by omega) ht, List.length_cons]; omega
  rw [e, e2] at h
  have hn : Nm w1 v (t * 10000) := Ls.of_own h
  obtain ⟨A, c, he, _⟩ := id hn
  exact ⟨A, c, he, hn⟩
theorem times_box {W w1 : World} {o : Obj} {B : Nat} {ty : TypeId} {u : Value} {n c : Nat} (h : Boxed W B ty u) (hB : B < W.heap.size) (hg : (W.alloc o).grownBy w1 (Value.slice (some ⟨W.heap.size, 0, none⟩) n c).ownBlock) : Boxed w1 B ty u :=
  (h.alloc o).kept hg (by simp [Value.ownBlock]; omega)

theorem times_join {w W w1 : World} {A1 A5 : Option Addr} {a n c c5 m m' : Nat} {u1 : Value} {A0 : Option Addr} {l0 c0 : Nat} (hB : Below w.heap.size w W) (hb0 : Boxed W w.heap.size 98 (.slice A1 (bd 10000 a).length c)) (hws : w.heap.size + 3 ≤ W.heap.size)
    (hx : Boxed w1 (w.heap.size + 1) 98 (.slice A0 l0 c0)) (hg : (W.alloc (.cells #[u1] 3)).grownBy w1 (Value.slice (some ⟨W.heap.size, 0, none⟩) m m').ownBlock) (hn : Nm w1 (.slice A5 (bd 10000 n).length c5) n) :
    KeepsOthers W (w1.setCell ⟨w.heap.size + 1, 0, none⟩ (.slice A5 (bd 10000 n).length c5)) ∧ KB w.heap.size (w.heap.size + 1 + 1) W (w1.setCell ⟨w.heap.size + 1, 0, none⟩ (.slice A5 (bd 10000 n).length c5)) ∧
    Below w.heap.size w (w1.setCell ⟨w.heap.size + 1, 0, none⟩ (.slice A5 (bd 10000 n).length c5)) ∧ Boxed (w1.setCell ⟨w.heap.size + 1, 0, none⟩ (.slice A5 (bd 10000 n).length c5)) w.heap.size 98 (.slice A1 (bd 10000 a).length c) ∧
    Boxed (w1.setCell ⟨w.heap.size + 1, 0, none⟩ (.slice A5 (bd 10000 n).length c5)) (w.heap.size + 1) 98 (.slice A5 (bd 10000 n).length c5) ∧ Nm (w1.setCell ⟨w.heap.size + 1, 0, none⟩ (.slice A5 (bd 10000 n).length c5)) (.slice A5 (bd 10000 n).length c5) n ∧
    w.heap.size + 3 ≤ (w1.setCell ⟨w.heap.size + 1, 0, none⟩ (.slice A5 (bd 10000 n).length c5)).heap.size := by
  have h34 : Below W.heap.size W w1 := ((Below.refl _ W).alloc (Nat.le_refl _) _).grown hg (by simp) (by intro k hk; simp [Value.ownBlock] at hk; omega)
  have hs := h34.size
  refine ⟨(others_of_below h34).trans (KeepsOthers.setCell _ _ _), (KB.of_below h34 hB.size (by omega)).trans (KB.setCell _ _ _ (by omega) (by omega)), (hB.trans (h34.mono hB.size)).setCell (p := ⟨w.heap.size + 1, 0, none⟩) (by show _ ≤ w.heap.size + 1; omega) _, Boxed.keepB (Boxed.below hb0 h34) _ (by omega), hx.set _, Nm.setBox hn hx _, by simp; omega⟩

set_option maxRecDepth 100000 in
set_option maxHeartbeats 4000000 in
/-- times -/
theorem ntimes_calls (v1 v2 : Value) (a b : Nat) (w : World) (h1 : Nm w v1 a) (h2 : Nm w v2 b) (ha : GL a ≤ 300) (hb : GL b ≤ 300) :
    Calls Tryz.prog 116 #[v1, v2] w fun e w' => ∃ v, e = .returned v ∧ Nm w' v (a * b) ∧ Below w.heap.size w w' := by
  obtain ⟨A1, c1, rfl, hc1, hr1⟩ := h1
  obtain ⟨A2, c2, rfl, hc2, hr2⟩ := h2
  have HR1 := Aside0.mk hr1
  have HR2 := Aside0.mk hr2
  have HC1 := Aside0.mk hc1
  have HLA : Aside0 (GL a ≤ 300) := ⟨ha⟩
  have HLB : Aside0 (GL b ≤ 300) := ⟨hb⟩
  clear hr1 hr2 hc1 hc2 ha hb
  refine (callsIn_wide (n := 100)).1 ?_
  refine callsIn_of_wp_marks Tryz.func116 rfl trivial ?_ rfl
  simp only [Tryz.ntmps116, List.size_toArray, List.length_cons, List.length_nil, Nat.reduceAdd, Nat.reduceSub, Array.replicate_succ, Array.replicate_zero, List.push_toArray, List.append_toArray, List.nil_append, List.cons_append]
  gi_wp2_with fail
  refine ⟨trivial, (callsIn_wide.2 (back_calls _ _ _ _)).mono ?_⟩
  rintro e w' ⟨rfl, rfl⟩
  gi_wp2_with fail
  have hX := boxes3 w (.slice A1 (bd 10000 a).length c1) (.slice none 0 0) (.slice A2 (bd 10000 b).length c2) 98 98 98
  obtain ⟨hY0, hY1⟩ := boxed3 w (.slice A1 (bd 10000 a).length c1) (.slice none 0 0) (.slice A2 (bd 10000 b).length c2) 98 98 98
  generalize (((w.alloc (.cells #[.slice A1 (bd 10000 a).length c1] 98)).alloc (.cells #[.slice none 0 0] 98)).alloc (.cells #[.slice A2 (bd 10000 b).length c2] 98)) = W2 at *
  have hsz := hX.size
  have hlb : (bd 10000 b).length ≤ 100000 := by have := HLB.out; unfold GL at this; omega
  refine wpIn_rangeFunc_ownF rfl (by omega) (gf := 137) (lb := #[.pointer (some ⟨w.heap.size + 1 + 1, 0, none⟩)]) rfl trivial (enters_of Tryz.func137 (by kernel_rfl) rfl)
      (back_stops 99 (w.heap.size + 1 + 1) w.heap.size (by omega) A2 c2 (bd 10000 b) hlb W2 (by omega) (by omega) (ReadsInt.block HR2.out) hX.c2 (HR2.out.below hX.below))
      KB.trans (fun W l o o' hl _ _ _ => KB.putObj W l o' (by omega) (by omega)) (Below.refl _ _) (fun _ => rfl)
      (fun pre W => (∃ A c, Boxed W (w.heap.size + 1) 98 (.slice A (bd 10000 (tv a b pre)).length c) ∧ Boxed W w.heap.size 98 (.slice A1 (bd 10000 a).length c1) ∧ Nm W (.slice A (bd 10000 (tv a b pre)).length c) (tv a b pre) ∧ w.heap.size + 3 ≤ W.heap.size) ∧ Below w.heap.size w W)
      (fun c pre W => False)
      (OwnFrom.and (Own.from (fun s A B row hs hg hr => by obtain ⟨A, c, k1, k2, k3, k4⟩ := hs; exact ⟨A, c, Boxed.own k1 hg hr, Boxed.own k2 hg hr, Nm.kept k3 hg hr, Nat.le_trans k4 hg.size⟩) _) (ownFrom_below (Nat.le_refl _) (by omega)))
      (fun _ _ _ _ _ hs _ _ => hs)
      ⟨⟨none, 0, by rw [tv_nil, bd_zero]; exact hY1, hY0, by rw [tv_nil, Nm, bd_zero]; exact Ls.nil W2, by omega⟩, hX.below⟩
      (fun x => { tmps := #[.slice A1 (bd 10000 a).length c1, .slice A2 (bd 10000 b).length c2, .pointer (some ⟨w.heap.size, 0, none⟩), undef, .slice none 0 0, .pointer (some ⟨w.heap.size + 1, 0, none⟩), undef, .int .i64 (rd (bd 10000 b) ((x.1 : Nat) : Int)),
          .slice A2 (bd 10000 b).length c2, .func (.func 137) #[] #[.pointer (some ⟨w.heap.size + 1 + 1, 0, none⟩)], .int .i64 ((x.1 : Nat) : Int), .int .i64 (rd (bd 10000 b) ((x.1 : Nat) : Int)), undef, undef, undef, undef, undef, undef, undef, undef, undef, undef, undef, undef], defers := [] }) ?assign ?body ?done ?stop
  case assign =>
    intro l x W K hK
    simp only [encB]
    gi_wp2
    exact hK
  case body =>
    rintro l pre x W ⟨⟨A, c, hb1, hb0, hv, hws⟩, hB⟩ hpl
    have hx2 : rd (bd 10000 b) ((x.1 : Nat) : Int) = ((b / 10000 ^ x.1 % 10000 : Nat) : Int) := rd_bd b x.1
    have hd := Nat.mod_lt (b / 10000 ^ x.1) (show 10000 > 0 by omega)
    have hg := tv_GL a b pre
    have hsn := tv_snoc a b pre x
    generalize b / 10000 ^ x.1 % 10000 = d at *
    rw [hx2]
    have HSN := Aside0.mk hsn
    have HG : Aside0 (GL (tv a b pre) ≤ 600) := ⟨by have := HLA.out; have := HLB.out; have h3 : pre.length < GL b := hpl; omega⟩
    have HD : Aside0 (d < 10000) := ⟨hd⟩
    have HWS := Aside0.mk hws
    clear hsn hg hd hx2
    generalize tv a b pre = t at *
    have hc1 := hb1.cell
    have hc0 := hb0.cell
    have hf1 := hb1.frozen
    by_cases h0 : t = 0
    · have hbd : (bd 10000 t).length = 0 := by rw [h0, bd_zero]; rfl
      rw [hbd] at hb1 hc1 hv
      have HV := Aside0.mk hv
      have HB1 := Aside0.mk hb1
      have HB0 := Aside0.mk hb0
      have HB := Aside0.mk hB
      have HT := Aside0.mk h0
      clear hv hbd hB hb1 hb0 h0
      gi_wp2_with fail
      have HGL := Aside0.mk (GL_mul_le (a := a) (d := d) HLA.out HD.out)
      gi_region_with (first
        | (refine ⟨trivial, ?_⟩; gi_at_call 108; refine (CallsIn.inRound l (callsIn_wide.2 (nby_calls _ a d _ ⟨A1, c1, rfl, HC1.out, HR1.out.below (below_drew HB.out)⟩ (by have := HLA.out; omega) (by have := HD.out; omega)))).mono ?_; rintro e W3 ⟨v3, rfl, hn3, hb3⟩; have hx3 := Boxed.below (W := W.drew) HB1.out hb3; have hc3 := hx3.cell; have HX3 := Aside0.mk hx3; have HN3 := Aside0.mk hn3; have HB3 := Aside0.mk hb3; clear hn3 hb3 hx3)
        | (refine ⟨trivial, ?_⟩; gi_at_call 86; refine (CallsIn.inRound l (callsIn_wide.2 (nplus_calls _ _ t (a * d) _ (Nm.below (w := W.drew) HV.out HB3.out) HN3.out (by have := HG.out; omega) (Nat.le_trans HGL.out (by omega))))).mono ?_; rintro e W4 ⟨v4, rfl, hn4, hb4⟩; obtain ⟨A4, c4, rfl, hn4'⟩ := hn4; have hx4 := Boxed.below HX3.out hb4; have hc4 := hx4.cell; have hf4 := hx4.frozen; have HX4 := Aside0.mk hx4; have HN4 := Aside0.mk hn4'; have HB4 := Aside0.mk hb4; clear hn4' hb4 hx4))
      all_goals
        exact times_close HB.out HB0.out HWS.out (Below.trans (below_drew (Below.refl _ W)) HB3.out) HX4.out ⟨A4, c4, rfl, HN4.out⟩ HB4.out (by rw [HSN.out, HT.out])
    · have hpos : 0 < (bd 10000 t).length := bd_len_pos (by omega) (by omega)
      obtain ⟨A', c', he, hcap, hr⟩ := hv
      obtain ⟨ad, hA, hcell⟩ := hr.2.2 hpos
      obtain ⟨rfl, rfl⟩ : A = A' ∧ c = c' := by injection he with h1 h2 h3; exact ⟨h1, h3⟩
      subst hA
      have b1 : decide (0 < ((bd 10000 t).length : Int)) = true := decide_eq_true (by omega)
      have b2 : decide (0 < (bd 10000 t).length) = true := decide_eq_true hpos
      have HT := Aside0.mk (Nat.pos_of_ne_zero h0)
      have HLT : Aside0 ((bd 10000 t).length ≤ 600) := ⟨HG.out⟩
      have HCELL := Aside0.mk hcell
      have hc1' : ∀ o, (W.alloc o).cell? ⟨w.heap.size + 1, 0, none⟩ = some (.slice (some ad) (bd 10000 t).length c) := fun o => pw_cell_below (below_alloc (Below.refl _ _) o) hc1
      have HB1 := Aside0.mk hb1
      have HB0 := Aside0.mk hb0
      have HB := Aside0.mk hB
      obtain ⟨i0, hi, hz0, hz1, hz2⟩ := info_parts info3
      have HI := Aside0.mk hi
      have HZ0 := Aside0.mk hz0
      have HZ1 := Aside0.mk hz1
      have HZ2 := Aside0.mk hz2
      have HGL := Aside0.mk (GL_mul_le (a := a) (d := d) HLA.out HD.out)
      have HG' := Aside0.mk (GL_mul_le (a := t) (d := 9999) HG.out (by omega))
      clear hi hz0 hz1 hz2 hpos hcap hr he hcell hB hb1 hb0 h0 hc0 hf1
      gi_wp2_with (gi_at_builtin; go_must (refine wpListIn_append_own _ rfl (.tmp 15) (.tmp 16) 98 rfl w.heap.size 3 i0 (.int .i64 0) 1 8 Tryz.underlying98 HI.out HZ0.out HZ1.out HZ2.out rfl (by decide) _ 1 [.int .i64 0] rfl (own_lit W w.heap.size 3 .i64 [0] HB.out.size (by simp)) ad (bd 10000 t).length c (nums .i64 (bd 10000 t)) rfl (by rw [nums_length]; omega) (times_news W _ HCELL.out) (by intro u hu; simp [nums] at hu; obtain ⟨x, _, rfl⟩ := hu; rfl) (by have := HLT.out; simp only [maxLen]; omega) (by have := HLT.out; omega) (by have := HB.out.size; simp; omega) ?_); intro v' w1 hown' hgrow _; obtain ⟨A5, c5, rfl, H5⟩ := times_grown HT.out hown'; have HGR := Aside0.mk hgrow; have hx5 := times_box HB1.out (by have := HWS.out; omega) hgrow; have hc5 := hx5.cell; have hf5 := hx5.frozen; have HX5 := Aside0.mk hx5; have HV5 := Aside0.mk H5; clear hown' hgrow H5 hx5 hc1 hc1')
      obtain ⟨W6, hW6⟩ : ∃ W6, w1.setCell ⟨w.heap.size + 1, 0, none⟩ (.slice A5 (bd 10000 (t * 10000)).length c5) = W6 := ⟨_, rfl⟩
      have hj := times_join HB.out HB0.out HWS.out HX5.out HGR.out HV5.out
      rw [hW6] at hj ⊢
      obtain ⟨j1, j2, j3, j4, j5, j6, j7⟩ := hj
      have hc1 := j5.cell
      have hc0 := j4.cell
      have J1 := Aside0.mk j1
      have J2 := Aside0.mk j2
      have HV := Aside0.mk j6
      have HB1 := Aside0.mk j5
      have HB0 := Aside0.mk j4
      have HB := Aside0.mk j3
      have HWS := Aside0.mk j7
      have HG2 : Aside0 (GL (t * 10000) ≤ 1000) := ⟨by have h1 : (bd 10000 (t * 10000)).length = (bd 10000 t).length + 1 := (by rw [bd_mul (by omega) HT.out]; rfl); have h2 := HLT.out; show (bd 10000 (t * 10000)).length ≤ 1000; omega⟩
      clear j1 j2 j3 j4 j5 j6 j7 hW6 hc5 hf5 HX5 HV5 HGR
      gi_wp2_with fail
      gi_region_with (first
        | (refine ⟨trivial, ?_⟩; gi_at_call 108; refine (CallsIn.inRound l (callsIn_wide.2 (nby_calls _ a d _ ⟨A1, c1, rfl, HC1.out, HR1.out.below (below_drew HB.out)⟩ (by have := HLA.out; omega) (by have := HD.out; omega)))).mono ?_; rintro e W3 ⟨v3, rfl, hn3, hb3⟩; have hx3 := Boxed.below (W := W6.drew) HB1.out hb3; have hc3 := hx3.cell; have HX3 := Aside0.mk hx3; have HN3 := Aside0.mk hn3; have HB3 := Aside0.mk hb3; clear hn3 hb3 hx3)
        | (refine ⟨trivial, ?_⟩; gi_at_call 86; refine (CallsIn.inRound l (callsIn_wide.2 (nplus_calls _ _ (t * 10000) (a * d) _ (Nm.below (w := W6.drew) HV.out HB3.out) HN3.out HG2.out (Nat.le_trans HGL.out (by omega))))).mono ?_; rintro e W4 ⟨v4, rfl, hn4, hb4⟩; obtain ⟨A4, c4, rfl, hn4'⟩ := hn4; have hx4 := Boxed.below HX3.out hb4; have hc4 := hx4.cell; have hf4 := hx4.frozen; have HX4 := Aside0.mk hx4; have HN4 := Aside0.mk hn4'; have HB4 := Aside0.mk hb4; clear hn4' hb4 hx4))
      all_goals
        obtain ⟨z1, z2, z3⟩ := times_close HB.out HB0.out HWS.out (Below.trans (below_drew (Below.refl _ W6)) HB3.out) HX4.out ⟨A4, c4, rfl, HN4.out⟩ HB4.out HSN.out
        exact ⟨J1.out.trans z1, J2.out.trans z2, z3⟩
  case done =>
    rintro D ys W hD rfl ⟨⟨A, c, hb1, hb0, hv, _⟩, hB⟩ hK
    have hc1 := hb1.cell
    have HV := Aside0.mk hv
    clear hv
    gi_wp2_with fail
    refine ⟨by simp, .inl ⟨_, _, rfl, run_takeDeferred hK, ?_⟩⟩
    have hn := Nm.kept HV.out (grownBy_putObj' W D (.deferred none)) (fun r e => by cases e; exact ⟨_, hK, rfl⟩)
    rw [tv_all] at hn
    exact ⟨_, results_tmp rfl _ _ _, _, rfl, by rw [tv_all]; exact hn, hB.trans (belowK_b (w := w) (Nat.le_refl _) W D _ _ (by omega) hK rfl rfl)⟩
  case stop =>
    rintro D c pre W _ _ h _
    exact h.elim

end Go.Proofs.YtnhjidbjibehpaaGreatDoor.L3
