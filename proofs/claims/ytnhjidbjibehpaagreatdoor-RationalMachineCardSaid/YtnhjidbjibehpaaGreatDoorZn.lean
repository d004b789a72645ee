/- Layer 4: the contracts of the program's functions and of the reference's, in rational numbers. -/
import Derived.Test.YtnhjidbjibehpaaGreatDoorZm
namespace Go.Proofs.YtnhjidbjibehpaaGreatDoor.L4
open Go.Shelf Go.RowKit Go.Proofs.YtnhjidbjibehpaaGreatDoorW.PrintWords Go.Proofs.YtnhjidbjibehpaaGreatDoorW.PrintLast Go.Proofs.YtnhjidbjibehpaaGreatDoorW.PrintMore Yd L3
set_option linter.unusedVariables false
set_option linter.unusedSimpArgs false

/-- what the laws need of the world -/
structure Env (w : World) : Prop where
  tab : Tab w
  mx : Mx w
theorem Env.below {w W : World} (h : Env w) (hb : Below w.heap.size w W) : Env W := ⟨tabB h.tab hb, h.mx.below hb⟩
theorem p_add (s1 t1 s2 t2 : ByteArray) (w : World) (hT : Env w) :
    Calls Tryz.prog 27 #[.agg #[.string s1, .string t1], .agg #[.string s2, .string t2]] w fun e w' => e = .returned (ratO (rbin radd (rvalB s1 t1) (rvalB s2 t2))) ∧ Below w.heap.size w w' := by
  rw [← raddV_eq]; exact radd_calls s1 t1 s2 t2 w hT.tab
theorem p_sub (s1 t1 s2 t2 : ByteArray) (w : World) (hT : Env w) :
    Calls Tryz.prog 44 #[.agg #[.string s1, .string t1], .agg #[.string s2, .string t2]] w fun e w' => e = .returned (ratO (rbin rsub (rvalB s1 t1) (rvalB s2 t2))) ∧ Below w.heap.size w w' := by
  rw [← rsubV_eq]; exact rsub_calls s1 t1 s2 t2 w hT.tab
theorem p_mul (s1 t1 s2 t2 : ByteArray) (w : World) (hT : Env w) :
    Calls Tryz.prog 25 #[.agg #[.string s1, .string t1], .agg #[.string s2, .string t2]] w fun e w' => e = .returned (ratO (rbin rmul (rvalB s1 t1) (rvalB s2 t2))) ∧ Below w.heap.size w w' := by
  rw [← rmulV_eq]; exact rmul_calls s1 t1 s2 t2 w hT.tab
theorem p_div (s1 t1 s2 t2 : ByteArray) (w : World) (hT : Env w) :
    Calls Tryz.prog 26 #[.agg #[.string s1, .string t1], .agg #[.string s2, .string t2]] w fun e w' => e = .returned (ratO (rbin rdiv (rvalB s1 t1) (rvalB s2 t2))) ∧ Below w.heap.size w w' := by
  rw [← rdivV_eq]; exact rdiv_calls s1 t1 s2 t2 w hT.tab
theorem p_cmp (s1 t1 s2 t2 : ByteArray) (w : World) (hT : Env w) :
    Calls Tryz.prog 23 #[.agg #[.string s1, .string t1], .agg #[.string s2, .string t2]] w fun e w' => e = .returned (.int .i64 (rcmpO (rvalB s1 t1) (rvalB s2 t2))) ∧ Below w.heap.size w w' := rcompare_calls s1 t1 s2 t2 w hT.tab
theorem p_valid (s t : ByteArray) (w : World) (hT : Env w) :
    Calls Tryz.prog 17 #[.agg #[.string s, .string t]] w fun e w' => e = .returned (.bool (rvalB s t).isSome) ∧ Below w.heap.size w w' := by
  have := rvalid_calls s t w hT.tab
  rw [rvalid_rval] at this; exact this
theorem p_make (s t : ByteArray) (w : World) (hT : Env w) :
    Calls Tryz.prog 22 #[.string s, .string t] w fun e w' => e = .returned (ratO (mkO s.data.toList t.data.toList)) ∧ Below w.heap.size w w' := by
  rw [← mkT_ratO]; exact make_calls s t w hT.tab
theorem p_of (x y : Int) (w : World) (hT : Env w) (hx0 : -9223372036854775808 ≤ x) (hx1 : x ≤ 9223372036854775807) (hy0 : -9223372036854775808 ≤ y) (hy1 : y ≤ 9223372036854775807) :
    Calls Tryz.prog 41 #[.int .i64 x, .int .i64 y] w fun e w' => e = .returned (ratO (mk2 x y)) ∧ Below w.heap.size w w' := by
  rw [← mkV_ratO]; exact of_calls x y w hT.tab hx0 hx1 hy0 hy1
theorem p_down (s t : ByteArray) (p : Int) (w : World) (hT : Env w) :
    Calls Tryz.prog 35 #[.agg #[.string s, .string t], .int .i64 p] w fun e w' => e = .returned (ratO (Ref.rgridP false (rvalB s t) p)) ∧ Below w.heap.size w w' := rdown_calls s t p w hT.tab
theorem p_up (s t : ByteArray) (p : Int) (w : World) (hT : Env w) :
    Calls Tryz.prog 37 #[.agg #[.string s, .string t], .int .i64 p] w fun e w' => e = .returned (ratO (Ref.rgridP true (rvalB s t) p)) ∧ Below w.heap.size w w' := rup_calls s t p w hT.tab
theorem p_print (s t : ByteArray) (w : World) (hT : Env w) :
    Calls Tryz.prog 14 #[.agg #[.string s, .string t]] w fun e w' => e = .returned (.string (Ref.strL (rprintO (rvalB s t)))) ∧ Below w.heap.size w w' := rprint_calls s t w hT.tab
theorem p_parse (s : ByteArray) (w : World) (hT : Env w) (hs : s.size < 4294967281) :
    Calls Tryz.prog 15 #[.string s] w fun e w' => e = .returned (ratO (rparse s.data.toList)) ∧ Below w.heap.size w w' := rparse_calls s w hT.tab hT.mx hs
theorem p_is (s t : ByteArray) (w : World) :
    Calls Tryz.prog 24 #[.string s, .string t] w fun e w' => e = .returned (.agg #[.string s, .string t]) ∧ Below w.heap.size w w' := Ref.yardsticklaw04_is.calls s t s t w rfl
/-- pick -/
def pk (c n : Int) : Int := if c < 0 then (-(c + 1)) % n else c % n
theorem pk_range (c : Int) {n : Int} (h : 0 < n) : 0 ≤ pk c n ∧ pk c n < n := by
  unfold pk
  split
  · exact ⟨Int.emod_nonneg _ (by omega), Int.emod_lt_of_pos _ h⟩
  · exact ⟨Int.emod_nonneg _ (by omega), Int.emod_lt_of_pos _ h⟩
theorem pick_some {c n : Int} (h0 : -9223372036854775808 ≤ c) (h1 : c ≤ 9223372036854775807) (hn : 0 < n) :
    (if c < 0 then (if n = 0 then (none : Option Int) else some (Int.tmod (wrap64 (-(wrap64 (c + 1)))) n)) else if n = 0 then none else some (Int.tmod c n)) = some (pk c n) := by
  unfold pk
  have h0' : ¬ n = 0 := by omega
  by_cases hc : c < 0
  · rw [if_pos hc, if_pos hc, if_neg h0', Ref.w64 (x := c + 1) (by omega) (by omega), Ref.w64 (by omega) (by omega), Int.tmod_eq_emod_of_nonneg (by omega)]
  · rw [if_neg hc, if_neg hc, if_neg h0', Int.tmod_eq_emod_of_nonneg (by omega)]
theorem p_pick (c n : Int) (w : World) (h0 : -9223372036854775808 ≤ c) (h1 : c ≤ 9223372036854775807) (hn : 0 < n) :
    Calls Tryz.prog 18 #[.int .i64 c, .int .i64 n] w fun e w' => e = .returned (.int .i64 (pk c n)) ∧ Below w.heap.size w w' :=
  (Ref.yardsticklaw04_pick.calls c n (pk c n) w (pick_some h0 h1 hn)).mono fun _ _ ⟨a, b⟩ => ⟨a, b.below⟩
theorem q_pick (c n : Int) (w : World) (h0 : -9223372036854775808 ≤ c) (h1 : c ≤ 9223372036854775807) (hn : 0 < n) :
    Calls Tryz.prog 46 #[.int .i64 c, .int .i64 n] w fun e w' => e = .returned (.int .i64 (pk c n)) ∧ Below w.heap.size w w' :=
  (Ref.yardstickref04_pick.calls c n (pk c n) w (pick_some h0 h1 hn)).mono fun _ _ ⟨a, b⟩ => ⟨a, b.below⟩

end Go.Proofs.YtnhjidbjibehpaaGreatDoor.L4

/- Blocks that are known. -/
namespace Go.Proofs.YtnhjidbjibehpaaGreatDoor.L4
open Go.Shelf Go.RowKit Go.Proofs.YtnhjidbjibehpaaGreatDoorW.PrintWords Go.Proofs.YtnhjidbjibehpaaGreatDoorW.PrintLast Go.Proofs.YtnhjidbjibehpaaGreatDoorW.PrintMore Yd L3
set_option linter.unusedVariables false
set_option linter.unusedSimpArgs false
attribute [local go_sem ↓] Go.wp_at_zero Go.wp_at_succ

/-- what lies in the world's blocks -/
structure Hp (l : List (Nat × Obj)) (w W : World) : Prop where
  bl : Below w.heap.size w W
  bx : ∀ x ∈ l, W.heap[x.1]? = some x.2
theorem obj_lt {W : World} {b : Nat} {o : Obj} (h : W.heap[b]? = some o) : b < W.heap.size := by
  rcases Nat.lt_or_ge b W.heap.size with h' | h'
  · exact h'
  · rw [Array.getElem?_eq_none h'] at h; cases h
theorem Hp.nil (w : World) : Hp [] w w := ⟨Below.refl _ w, fun _ h => by cases h⟩
theorem Hp.next {l : List (Nat × Obj)} {w W W' : World} (h : Hp l w W) (hb : Below W.heap.size W W') : Hp l w W' :=
  ⟨h.bl.trans (hb.mono h.bl.size), fun x hx => (hb.block _ (obj_lt (h.bx x hx))).trans (h.bx x hx)⟩
theorem Hp.push {l : List (Nat × Obj)} {w W : World} (h : Hp l w W) (o : Obj) : Hp ((W.heap.size, o) :: l) w (W.alloc o) := by
  refine ⟨(h.next (below_alloc (Below.refl _ W) _)).bl, fun x hx => ?_⟩
  rcases List.mem_cons.1 hx with rfl | hx
  · exact alloc_here W _
  · exact (h.next (below_alloc (Below.refl _ W) _)).bx x hx
theorem Hp.tail {x : Nat × Obj} {l : List (Nat × Obj)} {w W : World} (h : Hp (x :: l) w W) : Hp l w W := ⟨h.bl, fun y hy => h.bx y (List.mem_cons_of_mem _ hy)⟩
theorem Hp.head {x : Nat × Obj} {l : List (Nat × Obj)} {w W : World} (h : Hp (x :: l) w W) : W.heap[x.1]? = some x.2 := h.bx x (List.mem_cons_self ..)
theorem Hp.sub {l l' : List (Nat × Obj)} {w W : World} (h : Hp l w W) (hs : ∀ x ∈ l', x ∈ l) : Hp l' w W := ⟨h.bl, fun y hy => h.bx y (hs y hy)⟩
theorem Hp.apart {l : List (Nat × Obj)} {w W : World} (h : Hp l w W) : w.heap.size ≤ W.heap.size ∧ ∀ x ∈ l, x.1 ≠ W.heap.size := ⟨h.bl.size, fun x hx => Nat.ne_of_lt (obj_lt (h.bx x hx))⟩
/-- a cell of the first block written -/
theorem Hp.put {a : Nat} {cs : Array Value} {T : TypeId} {l : List (Nat × Obj)} {w W : World} (h : Hp ((a, .cells cs T) :: l) w W) (ha : w.heap.size ≤ a ∧ ∀ x ∈ l, x.1 ≠ a) (i : Nat) (v : Value) : Hp ((a, .cells (cs.setIfInBounds i v) T) :: l) w (W.setCell ⟨a, i, none⟩ v) := by
  refine ⟨h.bl.setCell (p := ⟨a, i, none⟩) ha.1 _, fun x hx => ?_⟩
  rcases List.mem_cons.1 hx with rfl | hx
  · exact blk_set h.head i v
  · exact (Below.heap_setCell _ ⟨a, i, none⟩ _ _ (ha.2 x hx)).trans (h.bx x (List.mem_cons_of_mem _ hx))
theorem sub2 {a b c : Nat × Obj} : ∀ x ∈ [a, b], x ∈ [a, b, c] := fun x hx => by
  simp only [List.mem_cons, List.mem_nil_iff, or_false] at hx ⊢
  rcases hx with h | h <;> simp [h]
/-- a fraction's block -/
abbrev Rb (s t : ByteArray) : Obj := .cells #[.string s, .string t] 23
abbrev Zb : Obj := Rb ⟨#[]⟩ ⟨#[]⟩

end Go.Proofs.YtnhjidbjibehpaaGreatDoor.L4

/- Blocks that are known, each at a place of its own: what is written into one leaves the others. -/
namespace Go.Proofs.YtnhjidbjibehpaaGreatDoor.L4
open Go.Shelf Go.RowKit Go.Proofs.YtnhjidbjibehpaaGreatDoorW.PrintWords Go.Proofs.YtnhjidbjibehpaaGreatDoorW.PrintLast Go.Proofs.YtnhjidbjibehpaaGreatDoorW.PrintMore Yd L3
set_option linter.unusedVariables false
set_option linter.unusedSimpArgs false

/-- what lies in the world's blocks, no two of them one -/
structure Hq (l : List (Nat × Obj)) (w W : World) : Prop where
  bl : Below w.heap.size w W
  bx : ∀ x ∈ l, W.heap[x.1]? = some x.2
  lo : ∀ x ∈ l, w.heap.size ≤ x.1
  nd : ∀ (i j : Nat) (x y : Nat × Obj), l[i]? = some x → l[j]? = some y → x.1 = y.1 → i = j
theorem Hq.nil (w : World) : Hq [] w w := ⟨Below.refl _ w, fun _ h => (by cases h), fun _ h => (by cases h), fun _ _ _ _ h => (by cases h)⟩
theorem Hq.next {l : List (Nat × Obj)} {w W W' : World} (h : Hq l w W) (hb : Below W.heap.size W W') : Hq l w W' :=
  ⟨h.bl.trans (hb.mono h.bl.size), fun x hx => (hb.block _ (obj_lt (h.bx x hx))).trans (h.bx x hx), h.lo, h.nd⟩
theorem Hq.push {l : List (Nat × Obj)} {w W : World} (h : Hq l w W) (o : Obj) : Hq ((W.heap.size, o) :: l) w (W.alloc o) := by
  have hn := h.next (below_alloc (Below.refl _ W) o)
  refine ⟨hn.bl, fun x hx => ?_, fun x hx => ?_, fun i j x y hi hj he => ?_⟩
  · rcases List.mem_cons.1 hx with rfl | hx
    · exact alloc_here W _
    · exact hn.bx x hx
  · rcases List.mem_cons.1 hx with rfl | hx
    · exact h.bl.size
    · exact h.lo x hx
  · cases i with
    | zero => cases j with
      | zero => rfl
      | succ j =>
        rw [List.getElem?_cons_zero] at hi
        rw [List.getElem?_cons_succ] at hj
        injection hi with hi
        subst hi
        have := obj_lt (h.bx y (List.mem_of_getElem? hj))
        simp only at he
        omega
    | succ i => cases j with
      | zero =>
        rw [List.getElem?_cons_zero] at hj
        rw [List.getElem?_cons_succ] at hi
        injection hj with hj
        subst hj
        have := obj_lt (h.bx x (List.mem_of_getElem? hi))
        simp only at he
        omega
      | succ j =>
        rw [List.getElem?_cons_succ] at hi hj
        rw [h.nd i j x y hi hj he]
theorem Hq.set {l : List (Nat × Obj)} {w W : World} (h : Hq l w W) (k : Nat) {a : Nat} {cs : Array Value} {T : TypeId} (hk : l[k]? = some (a, .cells cs T)) (i : Nat) (v : Value) : Hq (l.set k (a, .cells (cs.setIfInBounds i v) T)) w (W.setCell ⟨a, i, none⟩ v) := by
  have hm := List.mem_of_getElem? hk
  have key : ∀ (j : Nat) x, (l.set k (a, .cells (cs.setIfInBounds i v) T))[j]? = some x → (j = k ∧ x = (a, .cells (cs.setIfInBounds i v) T)) ∨ (j ≠ k ∧ l[j]? = some x) := by
    intro j x hx
    rw [List.getElem?_set] at hx
    split at hx
    · rename_i e
      split at hx
      · injection hx with hx; exact .inl ⟨e.symm, hx.symm⟩
      · cases hx
    · rename_i e; exact .inr ⟨fun h => e h.symm, hx⟩
  refine ⟨h.bl.setCell (p := ⟨a, i, none⟩) (h.lo _ hm) _, fun x hx => ?_, fun x hx => ?_, fun i' j x y hi hj he => ?_⟩
  · obtain ⟨j, hj⟩ := List.mem_iff_getElem?.1 hx
    rcases key j x hj with ⟨_, rfl⟩ | ⟨hne, hj'⟩
    · exact blk_set (h.bx _ hm) i v
    · refine (Below.heap_setCell _ ⟨a, i, none⟩ _ _ (fun he => hne (h.nd j k x _ hj' hk he))).trans (h.bx x (List.mem_of_getElem? hj'))
  · obtain ⟨j, hj⟩ := List.mem_iff_getElem?.1 hx
    rcases key j x hj with ⟨_, rfl⟩ | ⟨hne, hj'⟩
    · exact h.lo (a, .cells cs T) hm
    · exact h.lo _ (List.mem_of_getElem? hj')
  · rcases key i' x hi with ⟨rfl, rfl⟩ | ⟨h1, hi'⟩
    · rcases key j y hj with ⟨rfl, rfl⟩ | ⟨h2, hj'⟩
      · rfl
      · exact h.nd _ _ _ _ hk hj' he
    · rcases key j y hj with ⟨rfl, rfl⟩ | ⟨h2, hj'⟩
      · exact h.nd _ _ _ _ hi' hk he
      · exact h.nd _ _ _ _ hi' hj' he
theorem Hq.env {l : List (Nat × Obj)} {w W : World} (h : Hq l w W) (he : Env w) : Env W := he.below h.bl
theorem Hq.at {l : List (Nat × Obj)} {w W : World} (h : Hq l w W) (k : Nat) {a : Nat} {o : Obj} (hk : l[k]? = some (a, o)) : W.heap[a]? = some o := h.bx _ (List.mem_of_getElem? hk)
theorem Hq.ne {l : List (Nat × Obj)} {w W : World} (h : Hq l w W) (i j : Nat) (hij : i ≠ j) {a b : Nat} {o p : Obj} (hi : l[i]? = some (a, o)) (hj : l[j]? = some (b, p)) : a ≠ b := fun he => hij (h.nd i j _ _ hi hj he)
theorem Hq.drew {l : List (Nat × Obj)} {w W : World} (h : Hq l w W) : Hq l w W.drew := h.next (below_drew (Below.refl _ W))
/-- a block's cells -/
theorem quad_facts {W : World} {B : Nat} {a b c d : Value} {t : TypeId} (h : W.heap[B]? = some (.cells #[a, b, c, d] t)) :
    (W.cell? ⟨B, 0, none⟩ = some a ∧ W.cell? ⟨B, 1, none⟩ = some b ∧ W.cell? ⟨B, 2, none⟩ = some c ∧ W.cell? ⟨B, 3, none⟩ = some d) ∧ (W.frozen? ⟨B, 0, none⟩ = false ∧ W.frozen? ⟨B, 1, none⟩ = false ∧ W.frozen? ⟨B, 2, none⟩ = false ∧ W.frozen? ⟨B, 3, none⟩ = false) :=
  ⟨⟨blk_cell h 0, blk_cell h 1, blk_cell h 2, blk_cell h 3⟩, blk_frozen h 0, blk_frozen h 1, blk_frozen h 2, blk_frozen h 3⟩
theorem oct_facts {W : World} {B : Nat} {a b c d e f g i : Value} {t : TypeId} (h : W.heap[B]? = some (.cells #[a, b, c, d, e, f, g, i] t)) :
    (W.cell? ⟨B, 0, none⟩ = some a ∧ W.cell? ⟨B, 1, none⟩ = some b ∧ W.cell? ⟨B, 2, none⟩ = some c ∧ W.cell? ⟨B, 3, none⟩ = some d ∧ W.cell? ⟨B, 4, none⟩ = some e ∧ W.cell? ⟨B, 5, none⟩ = some f ∧ W.cell? ⟨B, 6, none⟩ = some g ∧ W.cell? ⟨B, 7, none⟩ = some i) ∧ (W.frozen? ⟨B, 0, none⟩ = false ∧ W.frozen? ⟨B, 1, none⟩ = false ∧ W.frozen? ⟨B, 2, none⟩ = false ∧ W.frozen? ⟨B, 3, none⟩ = false ∧ W.frozen? ⟨B, 4, none⟩ = false ∧ W.frozen? ⟨B, 5, none⟩ = false ∧ W.frozen? ⟨B, 6, none⟩ = false ∧ W.frozen? ⟨B, 7, none⟩ = false) :=
  ⟨⟨blk_cell h 0, blk_cell h 1, blk_cell h 2, blk_cell h 3, blk_cell h 4, blk_cell h 5, blk_cell h 6, blk_cell h 7⟩, blk_frozen h 0, blk_frozen h 1, blk_frozen h 2, blk_frozen h 3, blk_frozen h 4, blk_frozen h 5, blk_frozen h 6, blk_frozen h 7⟩

/-- the parts of what an operation returns -/
def oS (o : Option Rat) : ByteArray := match o with
  | some r => tx r.num
  | none => ⟨#[]⟩
def oT (o : Option Rat) : ByteArray := match o with
  | some r => tx r.den
  | none => ⟨#[]⟩
def oK (o : Option Rat) : Int := match o with
  | some _ => 0
  | none => 40
theorem ratO_parts (o : Option Rat) : ratO o = ratV (oS o) (oT o) (oK o) := by cases o <;> rfl
theorem oK_zero {o : Option Rat} (h : oK o = 0) : ∃ r, o = some r := by
  cases o with
  | none => exact absurd h (by decide)
  | some r => exact ⟨r, rfl⟩
/-- four results, as arrays -/
def fourV (p q r s : Option Rat) : Value := .tuple #[.agg #[.string (oS p), .string (oT p), .string (oS q), .string (oT q), .string (oS r), .string (oT r), .string (oS s), .string (oT s)], .agg #[.int .i64 (oK p), .int .i64 (oK q), .int .i64 (oK r), .int .i64 (oK s)]]

end Go.Proofs.YtnhjidbjibehpaaGreatDoor.L4

/- The laws' four operations, walked. -/
namespace Go.Proofs.YtnhjidbjibehpaaGreatDoor.L4
open Go.Shelf Go.RowKit Go.Proofs.YtnhjidbjibehpaaGreatDoorW.PrintWords Go.Proofs.YtnhjidbjibehpaaGreatDoorW.PrintLast Go.Proofs.YtnhjidbjibehpaaGreatDoorW.PrintMore Yd L3
set_option linter.unusedVariables false
set_option linter.unusedSimpArgs false
attribute [local go_sem ↓] Go.wp_at_zero Go.wp_at_succ

set_option maxRecDepth 100000 in
set_option maxHeartbeats 16000000 in
/-- four -/
theorem four_calls (s1 t1 s2 t2 : ByteArray) (w : World) (hE : Env w) :
    Calls Tryz.prog 29 #[.agg #[.string s1, .string t1], .agg #[.string s2, .string t2]] w fun e w' => e = .returned (fourV (rbin radd (rvalB s1 t1) (rvalB s2 t2)) (rbin rsub (rvalB s1 t1) (rvalB s2 t2)) (rbin rmul (rvalB s1 t1) (rvalB s2 t2)) (rbin rdiv (rvalB s1 t1) (rvalB s2 t2))) ∧ Below w.heap.size w w' := by
  have HE := Aside0.mk hE
  clear hE
  unfold fourV
  obtain ⟨q0, hq0⟩ : ∃ q, rbin radd (rvalB s1 t1) (rvalB s2 t2) = q := ⟨_, rfl⟩
  obtain ⟨u0, hu0⟩ : ∃ u, oS q0 = u := ⟨_, rfl⟩
  obtain ⟨v0, hv0⟩ : ∃ u, oT q0 = u := ⟨_, rfl⟩
  obtain ⟨k0, hk0⟩ : ∃ u, oK q0 = u := ⟨_, rfl⟩
  have HQ0 : Aside0 (ratO (rbin radd (rvalB s1 t1) (rvalB s2 t2)) = .tuple #[.agg #[.string u0, .string v0], .int .i64 k0]) := ⟨by rw [hq0, ratO_parts, hu0, hv0, hk0]; rfl⟩
  rw [hq0, hu0, hv0, hk0]
  clear hq0 hu0 hv0 hk0
  obtain ⟨q1, hq1⟩ : ∃ q, rbin rsub (rvalB s1 t1) (rvalB s2 t2) = q := ⟨_, rfl⟩
  obtain ⟨u1, hu1⟩ : ∃ u, oS q1 = u := ⟨_, rfl⟩
  obtain ⟨v1, hv1⟩ : ∃ u, oT q1 = u := ⟨_, rfl⟩
  obtain ⟨k1, hk1⟩ : ∃ u, oK q1 = u := ⟨_, rfl⟩
  have HQ1 : Aside0 (ratO (rbin rsub (rvalB s1 t1) (rvalB s2 t2)) = .tuple #[.agg #[.string u1, .string v1], .int .i64 k1]) := ⟨by rw [hq1, ratO_parts, hu1, hv1, hk1]; rfl⟩
  rw [hq1, hu1, hv1, hk1]
  clear hq1 hu1 hv1 hk1
  obtain ⟨q2, hq2⟩ : ∃ q, rbin rmul (rvalB s1 t1) (rvalB s2 t2) = q := ⟨_, rfl⟩
  obtain ⟨u2, hu2⟩ : ∃ u, oS q2 = u := ⟨_, rfl⟩
  obtain ⟨v2, hv2⟩ : ∃ u, oT q2 = u := ⟨_, rfl⟩
  obtain ⟨k2, hk2⟩ : ∃ u, oK q2 = u := ⟨_, rfl⟩
  have HQ2 : Aside0 (ratO (rbin rmul (rvalB s1 t1) (rvalB s2 t2)) = .tuple #[.agg #[.string u2, .string v2], .int .i64 k2]) := ⟨by rw [hq2, ratO_parts, hu2, hv2, hk2]; rfl⟩
  rw [hq2, hu2, hv2, hk2]
  clear hq2 hu2 hv2 hk2
  obtain ⟨q3, hq3⟩ : ∃ q, rbin rdiv (rvalB s1 t1) (rvalB s2 t2) = q := ⟨_, rfl⟩
  obtain ⟨u3, hu3⟩ : ∃ u, oS q3 = u := ⟨_, rfl⟩
  obtain ⟨v3, hv3⟩ : ∃ u, oT q3 = u := ⟨_, rfl⟩
  obtain ⟨k3, hk3⟩ : ∃ u, oK q3 = u := ⟨_, rfl⟩
  have HQ3 : Aside0 (ratO (rbin rdiv (rvalB s1 t1) (rvalB s2 t2)) = .tuple #[.agg #[.string u3, .string v3], .int .i64 k3]) := ⟨by rw [hq3, ratO_parts, hu3, hv3, hk3]; rfl⟩
  rw [hq3, hu3, hv3, hk3]
  clear hq3 hu3 hv3 hk3
  go_enter Tryz.func29, Tryz.ntmps29
  go_wp2_with fail
  have hl0 := (((((((Hq.nil w).push (.cells #[.string s1, .string t1] 23)).push (.cells #[.string s2, .string t2] 23)).push (.cells #[.string ⟨#[]⟩, .string ⟨#[]⟩, .string ⟨#[]⟩, .string ⟨#[]⟩, .string ⟨#[]⟩, .string ⟨#[]⟩, .string ⟨#[]⟩, .string ⟨#[]⟩] 49)).push (.cells #[.int .i64 0, .int .i64 0, .int .i64 0, .int .i64 0] 50)).push (.cells #[.string ⟨#[]⟩, .string ⟨#[]⟩, .string ⟨#[]⟩, .string ⟨#[]⟩, .string ⟨#[]⟩, .string ⟨#[]⟩, .string ⟨#[]⟩, .string ⟨#[]⟩] 49)).push (.cells #[.int .i64 0, .int .i64 0, .int .i64 0, .int .i64 0] 50))
  simp only [World.size_alloc] at hl0
  have hl : Hq [(w.heap.size + 1 + 1 + 1 + 1 + 1, .cells #[.int .i64 0, .int .i64 0, .int .i64 0, .int .i64 0] 50), (w.heap.size + 1 + 1 + 1 + 1, .cells #[.string ⟨#[]⟩, .string ⟨#[]⟩, .string ⟨#[]⟩, .string ⟨#[]⟩, .string ⟨#[]⟩, .string ⟨#[]⟩, .string ⟨#[]⟩, .string ⟨#[]⟩] 49), (w.heap.size + 1 + 1 + 1, .cells #[.int .i64 0, .int .i64 0, .int .i64 0, .int .i64 0] 50), (w.heap.size + 1 + 1, .cells #[.string ⟨#[]⟩, .string ⟨#[]⟩, .string ⟨#[]⟩, .string ⟨#[]⟩, .string ⟨#[]⟩, .string ⟨#[]⟩, .string ⟨#[]⟩, .string ⟨#[]⟩] 49), (w.heap.size + 1, .cells #[.string s2, .string t2] 23), (w.heap.size, .cells #[.string s1, .string t1] 23)] w ((((((w.alloc (.cells #[.string s1, .string t1] 23)).alloc (.cells #[.string s2, .string t2] 23)).alloc (.cells #[.string ⟨#[]⟩, .string ⟨#[]⟩, .string ⟨#[]⟩, .string ⟨#[]⟩, .string ⟨#[]⟩, .string ⟨#[]⟩, .string ⟨#[]⟩, .string ⟨#[]⟩] 49)).alloc (.cells #[.int .i64 0, .int .i64 0, .int .i64 0, .int .i64 0] 50)).alloc (.cells #[.string ⟨#[]⟩, .string ⟨#[]⟩, .string ⟨#[]⟩, .string ⟨#[]⟩, .string ⟨#[]⟩, .string ⟨#[]⟩, .string ⟨#[]⟩, .string ⟨#[]⟩] 49)).alloc (.cells #[.int .i64 0, .int .i64 0, .int .i64 0, .int .i64 0] 50)) := hl0
  clear hl0
  have HL := Aside0.mk hl
  clear hl
  generalize ((((((w.alloc (.cells #[.string s1, .string t1] 23)).alloc (.cells #[.string s2, .string t2] 23)).alloc (.cells #[.string ⟨#[]⟩, .string ⟨#[]⟩, .string ⟨#[]⟩, .string ⟨#[]⟩, .string ⟨#[]⟩, .string ⟨#[]⟩, .string ⟨#[]⟩, .string ⟨#[]⟩] 49)).alloc (.cells #[.int .i64 0, .int .i64 0, .int .i64 0, .int .i64 0] 50)).alloc (.cells #[.string ⟨#[]⟩, .string ⟨#[]⟩, .string ⟨#[]⟩, .string ⟨#[]⟩, .string ⟨#[]⟩, .string ⟨#[]⟩, .string ⟨#[]⟩, .string ⟨#[]⟩] 49)).alloc (.cells #[.int .i64 0, .int .i64 0, .int .i64 0, .int .i64 0] 50)) = W0 at *
  refine (p_add s1 t1 s2 t2 _ (HL.out.env HE.out)).mono ?_
  rintro e V1 ⟨rfl, hb⟩
  rw [HQ0.out]
  have hl := HL.out.next hb
  clear HL hb
  obtain ⟨c_a0, c_a1, -, -⟩ := pair_facts (hl.at 5 rfl)
  obtain ⟨c_b0, c_b1, -, -⟩ := pair_facts (hl.at 4 rfl)
  obtain ⟨⟨c_r0, c_r1, c_r2, c_r3, c_r4, c_r5, c_r6, c_r7⟩, ⟨f_r0, f_r1, f_r2, f_r3, f_r4, f_r5, f_r6, f_r7⟩⟩ := oct_facts (hl.at 1 rfl)
  obtain ⟨⟨c_e0, c_e1, c_e2, c_e3⟩, ⟨f_e0, f_e1, f_e2, f_e3⟩⟩ := quad_facts (hl.at 0 rfl)
  have HL := Aside0.mk hl
  clear hl
  go_wp2_with fail
  have hl : Hq [(w.heap.size + 1 + 1 + 1 + 1 + 1, .cells #[.int .i64 0, .int .i64 0, .int .i64 0, .int .i64 0] 50), (w.heap.size + 1 + 1 + 1 + 1, .cells #[.string u0, .string ⟨#[]⟩, .string ⟨#[]⟩, .string ⟨#[]⟩, .string ⟨#[]⟩, .string ⟨#[]⟩, .string ⟨#[]⟩, .string ⟨#[]⟩] 49), (w.heap.size + 1 + 1 + 1, .cells #[.int .i64 0, .int .i64 0, .int .i64 0, .int .i64 0] 50), (w.heap.size + 1 + 1, .cells #[.string ⟨#[]⟩, .string ⟨#[]⟩, .string ⟨#[]⟩, .string ⟨#[]⟩, .string ⟨#[]⟩, .string ⟨#[]⟩, .string ⟨#[]⟩, .string ⟨#[]⟩] 49), (w.heap.size + 1, .cells #[.string s2, .string t2] 23), (w.heap.size, .cells #[.string s1, .string t1] 23)] w (V1.setCell ⟨w.heap.size + 1 + 1 + 1 + 1, 0, none⟩ (.string u0)) := HL.out.set 1 rfl 0 (.string u0)
  have hl : Hq [(w.heap.size + 1 + 1 + 1 + 1 + 1, .cells #[.int .i64 0, .int .i64 0, .int .i64 0, .int .i64 0] 50), (w.heap.size + 1 + 1 + 1 + 1, .cells #[.string u0, .string v0, .string ⟨#[]⟩, .string ⟨#[]⟩, .string ⟨#[]⟩, .string ⟨#[]⟩, .string ⟨#[]⟩, .string ⟨#[]⟩] 49), (w.heap.size + 1 + 1 + 1, .cells #[.int .i64 0, .int .i64 0, .int .i64 0, .int .i64 0] 50), (w.heap.size + 1 + 1, .cells #[.string ⟨#[]⟩, .string ⟨#[]⟩, .string ⟨#[]⟩, .string ⟨#[]⟩, .string ⟨#[]⟩, .string ⟨#[]⟩, .string ⟨#[]⟩, .string ⟨#[]⟩] 49), (w.heap.size + 1, .cells #[.string s2, .string t2] 23), (w.heap.size, .cells #[.string s1, .string t1] 23)] w ((V1.setCell ⟨w.heap.size + 1 + 1 + 1 + 1, 0, none⟩ (.string u0)).setCell ⟨w.heap.size + 1 + 1 + 1 + 1, 1, none⟩ (.string v0)) := hl.set 1 rfl 1 (.string v0)
  have hl : Hq [(w.heap.size + 1 + 1 + 1 + 1 + 1, .cells #[.int .i64 k0, .int .i64 0, .int .i64 0, .int .i64 0] 50), (w.heap.size + 1 + 1 + 1 + 1, .cells #[.string u0, .string v0, .string ⟨#[]⟩, .string ⟨#[]⟩, .string ⟨#[]⟩, .string ⟨#[]⟩, .string ⟨#[]⟩, .string ⟨#[]⟩] 49), (w.heap.size + 1 + 1 + 1, .cells #[.int .i64 0, .int .i64 0, .int .i64 0, .int .i64 0] 50), (w.heap.size + 1 + 1, .cells #[.string ⟨#[]⟩, .string ⟨#[]⟩, .string ⟨#[]⟩, .string ⟨#[]⟩, .string ⟨#[]⟩, .string ⟨#[]⟩, .string ⟨#[]⟩, .string ⟨#[]⟩] 49), (w.heap.size + 1, .cells #[.string s2, .string t2] 23), (w.heap.size, .cells #[.string s1, .string t1] 23)] w (((V1.setCell ⟨w.heap.size + 1 + 1 + 1 + 1, 0, none⟩ (.string u0)).setCell ⟨w.heap.size + 1 + 1 + 1 + 1, 1, none⟩ (.string v0)).setCell ⟨w.heap.size + 1 + 1 + 1 + 1 + 1, 0, none⟩ (.int .i64 k0)) := hl.set 0 rfl 0 (.int .i64 k0)
  clear c_a0 c_a1 c_b0 c_b1 c_r0 c_r1 c_r2 c_r3 c_r4 c_r5 c_r6 c_r7 f_r0 f_r1 f_r2 f_r3 f_r4 f_r5 f_r6 f_r7 c_e0 c_e1 c_e2 c_e3 f_e0 f_e1 f_e2 f_e3
  clear HL
  have HL := Aside0.mk hl
  clear hl
  generalize (((V1.setCell ⟨w.heap.size + 1 + 1 + 1 + 1, 0, none⟩ (.string u0)).setCell ⟨w.heap.size + 1 + 1 + 1 + 1, 1, none⟩ (.string v0)).setCell ⟨w.heap.size + 1 + 1 + 1 + 1 + 1, 0, none⟩ (.int .i64 k0)) = W1 at *
  refine (p_sub s1 t1 s2 t2 _ (HL.out.env HE.out)).mono ?_
  rintro e V2 ⟨rfl, hb⟩
  rw [HQ1.out]
  have hl := HL.out.next hb
  clear HL hb
  obtain ⟨c_a0, c_a1, -, -⟩ := pair_facts (hl.at 5 rfl)
  obtain ⟨c_b0, c_b1, -, -⟩ := pair_facts (hl.at 4 rfl)
  obtain ⟨⟨c_r0, c_r1, c_r2, c_r3, c_r4, c_r5, c_r6, c_r7⟩, ⟨f_r0, f_r1, f_r2, f_r3, f_r4, f_r5, f_r6, f_r7⟩⟩ := oct_facts (hl.at 1 rfl)
  obtain ⟨⟨c_e0, c_e1, c_e2, c_e3⟩, ⟨f_e0, f_e1, f_e2, f_e3⟩⟩ := quad_facts (hl.at 0 rfl)
  have HL := Aside0.mk hl
  clear hl
  go_wp2_with fail
  have hl : Hq [(w.heap.size + 1 + 1 + 1 + 1 + 1, .cells #[.int .i64 k0, .int .i64 0, .int .i64 0, .int .i64 0] 50), (w.heap.size + 1 + 1 + 1 + 1, .cells #[.string u0, .string v0, .string u1, .string ⟨#[]⟩, .string ⟨#[]⟩, .string ⟨#[]⟩, .string ⟨#[]⟩, .string ⟨#[]⟩] 49), (w.heap.size + 1 + 1 + 1, .cells #[.int .i64 0, .int .i64 0, .int .i64 0, .int .i64 0] 50), (w.heap.size + 1 + 1, .cells #[.string ⟨#[]⟩, .string ⟨#[]⟩, .string ⟨#[]⟩, .string ⟨#[]⟩, .string ⟨#[]⟩, .string ⟨#[]⟩, .string ⟨#[]⟩, .string ⟨#[]⟩] 49), (w.heap.size + 1, .cells #[.string s2, .string t2] 23), (w.heap.size, .cells #[.string s1, .string t1] 23)] w (V2.setCell ⟨w.heap.size + 1 + 1 + 1 + 1, 2, none⟩ (.string u1)) := HL.out.set 1 rfl 2 (.string u1)
  have hl : Hq [(w.heap.size + 1 + 1 + 1 + 1 + 1, .cells #[.int .i64 k0, .int .i64 0, .int .i64 0, .int .i64 0] 50), (w.heap.size + 1 + 1 + 1 + 1, .cells #[.string u0, .string v0, .string u1, .string v1, .string ⟨#[]⟩, .string ⟨#[]⟩, .string ⟨#[]⟩, .string ⟨#[]⟩] 49), (w.heap.size + 1 + 1 + 1, .cells #[.int .i64 0, .int .i64 0, .int .i64 0, .int .i64 0] 50), (w.heap.size + 1 + 1, .cells #[.string ⟨#[]⟩, .string ⟨#[]⟩, .string ⟨#[]⟩, .string ⟨#[]⟩, .string ⟨#[]⟩, .string ⟨#[]⟩, .string ⟨#[]⟩, .string ⟨#[]⟩] 49), (w.heap.size + 1, .cells #[.string s2, .string t2] 23), (w.heap.size, .cells #[.string s1, .string t1] 23)] w ((V2.setCell ⟨w.heap.size + 1 + 1 + 1 + 1, 2, none⟩ (.string u1)).setCell ⟨w.heap.size + 1 + 1 + 1 + 1, 3, none⟩ (.string v1)) := hl.set 1 rfl 3 (.string v1)
  have hl : Hq [(w.heap.size + 1 + 1 + 1 + 1 + 1, .cells #[.int .i64 k0, .int .i64 k1, .int .i64 0, .int .i64 0] 50), (w.heap.size + 1 + 1 + 1 + 1, .cells #[.string u0, .string v0, .string u1, .string v1, .string ⟨#[]⟩, .string ⟨#[]⟩, .string ⟨#[]⟩, .string ⟨#[]⟩] 49), (w.heap.size + 1 + 1 + 1, .cells #[.int .i64 0, .int .i64 0, .int .i64 0, .int .i64 0] 50), (w.heap.size + 1 + 1, .cells #[.string ⟨#[]⟩, .string ⟨#[]⟩, .string ⟨#[]⟩, .string ⟨#[]⟩, .string ⟨#[]⟩, .string ⟨#[]⟩, .string ⟨#[]⟩, .string ⟨#[]⟩] 49), (w.heap.size + 1, .cells #[.string s2, .string t2] 23), (w.heap.size, .cells #[.string s1, .string t1] 23)] w (((V2.setCell ⟨w.heap.size + 1 + 1 + 1 + 1, 2, none⟩ (.string u1)).setCell ⟨w.heap.size + 1 + 1 + 1 + 1, 3, none⟩ (.string v1)).setCell ⟨w.heap.size + 1 + 1 + 1 + 1 + 1, 1, none⟩ (.int .i64 k1)) := hl.set 0 rfl 1 (.int .i64 k1)
  clear c_a0 c_a1 c_b0 c_b1 c_r0 c_r1 c_r2 c_r3 c_r4 c_r5 c_r6 c_r7 f_r0 f_r1 f_r2 f_r3 f_r4 f_r5 f_r6 f_r7 c_e0 c_e1 c_e2 c_e3 f_e0 f_e1 f_e2 f_e3
  clear HL
  have HL := Aside0.mk hl
  clear hl
  generalize (((V2.setCell ⟨w.heap.size + 1 + 1 + 1 + 1, 2, none⟩ (.string u1)).setCell ⟨w.heap.size + 1 + 1 + 1 + 1, 3, none⟩ (.string v1)).setCell ⟨w.heap.size + 1 + 1 + 1 + 1 + 1, 1, none⟩ (.int .i64 k1)) = W2 at *
  refine (p_mul s1 t1 s2 t2 _ (HL.out.env HE.out)).mono ?_
  rintro e V3 ⟨rfl, hb⟩
  rw [HQ2.out]
  have hl := HL.out.next hb
  clear HL hb
  obtain ⟨c_a0, c_a1, -, -⟩ := pair_facts (hl.at 5 rfl)
  obtain ⟨c_b0, c_b1, -, -⟩ := pair_facts (hl.at 4 rfl)
  obtain ⟨⟨c_r0, c_r1, c_r2, c_r3, c_r4, c_r5, c_r6, c_r7⟩, ⟨f_r0, f_r1, f_r2, f_r3, f_r4, f_r5, f_r6, f_r7⟩⟩ := oct_facts (hl.at 1 rfl)
  obtain ⟨⟨c_e0, c_e1, c_e2, c_e3⟩, ⟨f_e0, f_e1, f_e2, f_e3⟩⟩ := quad_facts (hl.at 0 rfl)
  have HL := Aside0.mk hl
  clear hl
  go_wp2_with fail
  have hl : Hq [(w.heap.size + 1 + 1 + 1 + 1 + 1, .cells #[.int .i64 k0, .int .i64 k1, .int .i64 0, .int .i64 0] 50), (w.heap.size + 1 + 1 + 1 + 1, .cells #[.string u0, .string v0, .string u1, .string v1, .string u2, .string ⟨#[]⟩, .string ⟨#[]⟩, .string ⟨#[]⟩] 49), (w.heap.size + 1 + 1 + 1, .cells #[.int .i64 0, .int .i64 0, .int .i64 0, .int .i64 0] 50), (w.heap.size + 1 + 1, .cells #[.string ⟨#[]⟩, .string ⟨#[]⟩, .string ⟨#[]⟩, .string ⟨#[]⟩, .string ⟨#[]⟩, .string ⟨#[]⟩, .string ⟨#[]⟩, .string ⟨#[]⟩] 49), (w.heap.size + 1, .cells #[.string s2, .string t2] 23), (w.heap.size, .cells #[.string s1, .string t1] 23)] w (V3.setCell ⟨w.heap.size + 1 + 1 + 1 + 1, 4, none⟩ (.string u2)) := HL.out.set 1 rfl 4 (.string u2)
  have hl : Hq [(w.heap.size + 1 + 1 + 1 + 1 + 1, .cells #[.int .i64 k0, .int .i64 k1, .int .i64 0, .int .i64 0] 50), (w.heap.size + 1 + 1 + 1 + 1, .cells #[.string u0, .string v0, .string u1, .string v1, .string u2, .string v2, .string ⟨#[]⟩, .string ⟨#[]⟩] 49), (w.heap.size + 1 + 1 + 1, .cells #[.int .i64 0, .int .i64 0, .int .i64 0, .int .i64 0] 50), (w.heap.size + 1 + 1, .cells #[.string ⟨#[]⟩, .string ⟨#[]⟩, .string ⟨#[]⟩, .string ⟨#[]⟩, .string ⟨#[]⟩, .string ⟨#[]⟩, .string ⟨#[]⟩, .string ⟨#[]⟩] 49), (w.heap.size + 1, .cells #[.string s2, .string t2] 23), (w.heap.size, .cells #[.string s1, .string t1] 23)] w ((V3.setCell ⟨w.heap.size + 1 + 1 + 1 + 1, 4, none⟩ (.string u2)).setCell ⟨w.heap.size + 1 + 1 + 1 + 1, 5, none⟩ (.string v2)) := hl.set 1 rfl 5 (.string v2)
  have hl : Hq [(w.heap.size + 1 + 1 + 1 + 1 + 1, .cells #[.int .i64 k0, .int .i64 k1, .int .i64 k2, .int .i64 0] 50), (w.heap.size + 1 + 1 + 1 + 1, .cells #[.string u0, .string v0, .string u1, .string v1, .string u2, .string v2, .string ⟨#[]⟩, .string ⟨#[]⟩] 49), (w.heap.size + 1 + 1 + 1, .cells #[.int .i64 0, .int .i64 0, .int .i64 0, .int .i64 0] 50), (w.heap.size + 1 + 1, .cells #[.string ⟨#[]⟩, .string ⟨#[]⟩, .string ⟨#[]⟩, .string ⟨#[]⟩, .string ⟨#[]⟩, .string ⟨#[]⟩, .string ⟨#[]⟩, .string ⟨#[]⟩] 49), (w.heap.size + 1, .cells #[.string s2, .string t2] 23), (w.heap.size, .cells #[.string s1, .string t1] 23)] w (((V3.setCell ⟨w.heap.size + 1 + 1 + 1 + 1, 4, none⟩ (.string u2)).setCell ⟨w.heap.size + 1 + 1 + 1 + 1, 5, none⟩ (.string v2)).setCell ⟨w.heap.size + 1 + 1 + 1 + 1 + 1, 2, none⟩ (.int .i64 k2)) := hl.set 0 rfl 2 (.int .i64 k2)
  clear c_a0 c_a1 c_b0 c_b1 c_r0 c_r1 c_r2 c_r3 c_r4 c_r5 c_r6 c_r7 f_r0 f_r1 f_r2 f_r3 f_r4 f_r5 f_r6 f_r7 c_e0 c_e1 c_e2 c_e3 f_e0 f_e1 f_e2 f_e3
  clear HL
  have HL := Aside0.mk hl
  clear hl
  generalize (((V3.setCell ⟨w.heap.size + 1 + 1 + 1 + 1, 4, none⟩ (.string u2)).setCell ⟨w.heap.size + 1 + 1 + 1 + 1, 5, none⟩ (.string v2)).setCell ⟨w.heap.size + 1 + 1 + 1 + 1 + 1, 2, none⟩ (.int .i64 k2)) = W3 at *
  refine (p_div s1 t1 s2 t2 _ (HL.out.env HE.out)).mono ?_
  rintro e V4 ⟨rfl, hb⟩
  rw [HQ3.out]
  have hl := HL.out.next hb
  clear HL hb
  obtain ⟨c_a0, c_a1, -, -⟩ := pair_facts (hl.at 5 rfl)
  obtain ⟨c_b0, c_b1, -, -⟩ := pair_facts (hl.at 4 rfl)
  obtain ⟨⟨c_r0, c_r1, c_r2, c_r3, c_r4, c_r5, c_r6, c_r7⟩, ⟨f_r0, f_r1, f_r2, f_r3, f_r4, f_r5, f_r6, f_r7⟩⟩ := oct_facts (hl.at 1 rfl)
  obtain ⟨⟨c_e0, c_e1, c_e2, c_e3⟩, ⟨f_e0, f_e1, f_e2, f_e3⟩⟩ := quad_facts (hl.at 0 rfl)
  have HL := Aside0.mk hl
  clear hl
  go_wp2_with fail
  have hl : Hq [(w.heap.size + 1 + 1 + 1 + 1 + 1, .cells #[.int .i64 k0, .int .i64 k1, .int .i64 k2, .int .i64 0] 50), (w.heap.size + 1 + 1 + 1 + 1, .cells #[.string u0, .string v0, .string u1, .string v1, .string u2, .string v2, .string u3, .string ⟨#[]⟩] 49), (w.heap.size + 1 + 1 + 1, .cells #[.int .i64 0, .int .i64 0, .int .i64 0, .int .i64 0] 50), (w.heap.size + 1 + 1, .cells #[.string ⟨#[]⟩, .string ⟨#[]⟩, .string ⟨#[]⟩, .string ⟨#[]⟩, .string ⟨#[]⟩, .string ⟨#[]⟩, .string ⟨#[]⟩, .string ⟨#[]⟩] 49), (w.heap.size + 1, .cells #[.string s2, .string t2] 23), (w.heap.size, .cells #[.string s1, .string t1] 23)] w (V4.setCell ⟨w.heap.size + 1 + 1 + 1 + 1, 6, none⟩ (.string u3)) := HL.out.set 1 rfl 6 (.string u3)
  have hl : Hq [(w.heap.size + 1 + 1 + 1 + 1 + 1, .cells #[.int .i64 k0, .int .i64 k1, .int .i64 k2, .int .i64 0] 50), (w.heap.size + 1 + 1 + 1 + 1, .cells #[.string u0, .string v0, .string u1, .string v1, .string u2, .string v2, .string u3, .string v3] 49), (w.heap.size + 1 + 1 + 1, .cells #[.int .i64 0, .int .i64 0, .int .i64 0, .int .i64 0] 50), (w.heap.size + 1 + 1, .cells #[.string ⟨#[]⟩, .string ⟨#[]⟩, .string ⟨#[]⟩, .string ⟨#[]⟩, .string ⟨#[]⟩, .string ⟨#[]⟩, .string ⟨#[]⟩, .string ⟨#[]⟩] 49), (w.heap.size + 1, .cells #[.string s2, .string t2] 23), (w.heap.size, .cells #[.string s1, .string t1] 23)] w ((V4.setCell ⟨w.heap.size + 1 + 1 + 1 + 1, 6, none⟩ (.string u3)).setCell ⟨w.heap.size + 1 + 1 + 1 + 1, 7, none⟩ (.string v3)) := hl.set 1 rfl 7 (.string v3)
  have hl : Hq [(w.heap.size + 1 + 1 + 1 + 1 + 1, .cells #[.int .i64 k0, .int .i64 k1, .int .i64 k2, .int .i64 k3] 50), (w.heap.size + 1 + 1 + 1 + 1, .cells #[.string u0, .string v0, .string u1, .string v1, .string u2, .string v2, .string u3, .string v3] 49), (w.heap.size + 1 + 1 + 1, .cells #[.int .i64 0, .int .i64 0, .int .i64 0, .int .i64 0] 50), (w.heap.size + 1 + 1, .cells #[.string ⟨#[]⟩, .string ⟨#[]⟩, .string ⟨#[]⟩, .string ⟨#[]⟩, .string ⟨#[]⟩, .string ⟨#[]⟩, .string ⟨#[]⟩, .string ⟨#[]⟩] 49), (w.heap.size + 1, .cells #[.string s2, .string t2] 23), (w.heap.size, .cells #[.string s1, .string t1] 23)] w (((V4.setCell ⟨w.heap.size + 1 + 1 + 1 + 1, 6, none⟩ (.string u3)).setCell ⟨w.heap.size + 1 + 1 + 1 + 1, 7, none⟩ (.string v3)).setCell ⟨w.heap.size + 1 + 1 + 1 + 1 + 1, 3, none⟩ (.int .i64 k3)) := hl.set 0 rfl 3 (.int .i64 k3)
  clear c_a0 c_a1 c_b0 c_b1 c_r0 c_r1 c_r2 c_r3 c_r4 c_r5 c_r6 c_r7 f_r0 f_r1 f_r2 f_r3 f_r4 f_r5 f_r6 f_r7 c_e0 c_e1 c_e2 c_e3 f_e0 f_e1 f_e2 f_e3
  clear HL
  have HL := Aside0.mk hl
  clear hl
  generalize (((V4.setCell ⟨w.heap.size + 1 + 1 + 1 + 1, 6, none⟩ (.string u3)).setCell ⟨w.heap.size + 1 + 1 + 1 + 1, 7, none⟩ (.string v3)).setCell ⟨w.heap.size + 1 + 1 + 1 + 1 + 1, 3, none⟩ (.int .i64 k3)) = W4 at *
  have hl := HL.out
  obtain ⟨⟨c_r0, c_r1, c_r2, c_r3, c_r4, c_r5, c_r6, c_r7⟩, -⟩ := oct_facts (hl.at 1 rfl)
  obtain ⟨⟨c_e0, c_e1, c_e2, c_e3⟩, -⟩ := quad_facts (hl.at 0 rfl)
  obtain ⟨⟨c_R0, c_R1, c_R2, c_R3, c_R4, c_R5, c_R6, c_R7⟩, ⟨f_R0, f_R1, f_R2, f_R3, f_R4, f_R5, f_R6, f_R7⟩⟩ := oct_facts (hl.at 3 rfl)
  obtain ⟨⟨c_E0, c_E1, c_E2, c_E3⟩, ⟨f_E0, f_E1, f_E2, f_E3⟩⟩ := quad_facts (hl.at 2 rfl)
  clear hl
  go_region
  go_wp2_with fail
  have hl : Hq [(w.heap.size + 1 + 1 + 1 + 1 + 1, .cells #[.int .i64 k0, .int .i64 k1, .int .i64 k2, .int .i64 k3] 50), (w.heap.size + 1 + 1 + 1 + 1, .cells #[.string u0, .string v0, .string u1, .string v1, .string u2, .string v2, .string u3, .string v3] 49), (w.heap.size + 1 + 1 + 1, .cells #[.int .i64 0, .int .i64 0, .int .i64 0, .int .i64 0] 50), (w.heap.size + 1 + 1, .cells #[.string u0, .string ⟨#[]⟩, .string ⟨#[]⟩, .string ⟨#[]⟩, .string ⟨#[]⟩, .string ⟨#[]⟩, .string ⟨#[]⟩, .string ⟨#[]⟩] 49), (w.heap.size + 1, .cells #[.string s2, .string t2] 23), (w.heap.size, .cells #[.string s1, .string t1] 23)] w (W4.setCell ⟨w.heap.size + 1 + 1, 0, none⟩ (.string u0)) := HL.out.set 3 rfl 0 (.string u0)
  have hl : Hq [(w.heap.size + 1 + 1 + 1 + 1 + 1, .cells #[.int .i64 k0, .int .i64 k1, .int .i64 k2, .int .i64 k3] 50), (w.heap.size + 1 + 1 + 1 + 1, .cells #[.string u0, .string v0, .string u1, .string v1, .string u2, .string v2, .string u3, .string v3] 49), (w.heap.size + 1 + 1 + 1, .cells #[.int .i64 0, .int .i64 0, .int .i64 0, .int .i64 0] 50), (w.heap.size + 1 + 1, .cells #[.string u0, .string v0, .string ⟨#[]⟩, .string ⟨#[]⟩, .string ⟨#[]⟩, .string ⟨#[]⟩, .string ⟨#[]⟩, .string ⟨#[]⟩] 49), (w.heap.size + 1, .cells #[.string s2, .string t2] 23), (w.heap.size, .cells #[.string s1, .string t1] 23)] w ((W4.setCell ⟨w.heap.size + 1 + 1, 0, none⟩ (.string u0)).setCell ⟨w.heap.size + 1 + 1, 1, none⟩ (.string v0)) := hl.set 3 rfl 1 (.string v0)
  have hl : Hq [(w.heap.size + 1 + 1 + 1 + 1 + 1, .cells #[.int .i64 k0, .int .i64 k1, .int .i64 k2, .int .i64 k3] 50), (w.heap.size + 1 + 1 + 1 + 1, .cells #[.string u0, .string v0, .string u1, .string v1, .string u2, .string v2, .string u3, .string v3] 49), (w.heap.size + 1 + 1 + 1, .cells #[.int .i64 0, .int .i64 0, .int .i64 0, .int .i64 0] 50), (w.heap.size + 1 + 1, .cells #[.string u0, .string v0, .string u1, .string ⟨#[]⟩, .string ⟨#[]⟩, .string ⟨#[]⟩, .string ⟨#[]⟩, .string ⟨#[]⟩] 49), (w.heap.size + 1, .cells #[.string s2, .string t2] 23), (w.heap.size, .cells #[.string s1, .string t1] 23)] w (((W4.setCell ⟨w.heap.size + 1 + 1, 0, none⟩ (.string u0)).setCell ⟨w.heap.size + 1 + 1, 1, none⟩ (.string v0)).setCell ⟨w.heap.size + 1 + 1, 2, none⟩ (.string u1)) := hl.set 3 rfl 2 (.string u1)
  have hl : Hq [(w.heap.size + 1 + 1 + 1 + 1 + 1, .cells #[.int .i64 k0, .int .i64 k1, .int .i64 k2, .int .i64 k3] 50), (w.heap.size + 1 + 1 + 1 + 1, .cells #[.string u0, .string v0, .string u1, .string v1, .string u2, .string v2, .string u3, .string v3] 49), (w.heap.size + 1 + 1 + 1, .cells #[.int .i64 0, .int .i64 0, .int .i64 0, .int .i64 0] 50), (w.heap.size + 1 + 1, .cells #[.string u0, .string v0, .string u1, .string v1, .string ⟨#[]⟩, .string ⟨#[]⟩, .string ⟨#[]⟩, .string ⟨#[]⟩] 49), (w.heap.size + 1, .cells #[.string s2, .string t2] 23), (w.heap.size, .cells #[.string s1, .string t1] 23)] w ((((W4.setCell ⟨w.heap.size + 1 + 1, 0, none⟩ (.string u0)).setCell ⟨w.heap.size + 1 + 1, 1, none⟩ (.string v0)).setCell ⟨w.heap.size + 1 + 1, 2, none⟩ (.string u1)).setCell ⟨w.heap.size + 1 + 1, 3, none⟩ (.string v1)) := hl.set 3 rfl 3 (.string v1)
  have hl : Hq [(w.heap.size + 1 + 1 + 1 + 1 + 1, .cells #[.int .i64 k0, .int .i64 k1, .int .i64 k2, .int .i64 k3] 50), (w.heap.size + 1 + 1 + 1 + 1, .cells #[.string u0, .string v0, .string u1, .string v1, .string u2, .string v2, .string u3, .string v3] 49), (w.heap.size + 1 + 1 + 1, .cells #[.int .i64 0, .int .i64 0, .int .i64 0, .int .i64 0] 50), (w.heap.size + 1 + 1, .cells #[.string u0, .string v0, .string u1, .string v1, .string u2, .string ⟨#[]⟩, .string ⟨#[]⟩, .string ⟨#[]⟩] 49), (w.heap.size + 1, .cells #[.string s2, .string t2] 23), (w.heap.size, .cells #[.string s1, .string t1] 23)] w (((((W4.setCell ⟨w.heap.size + 1 + 1, 0, none⟩ (.string u0)).setCell ⟨w.heap.size + 1 + 1, 1, none⟩ (.string v0)).setCell ⟨w.heap.size + 1 + 1, 2, none⟩ (.string u1)).setCell ⟨w.heap.size + 1 + 1, 3, none⟩ (.string v1)).setCell ⟨w.heap.size + 1 + 1, 4, none⟩ (.string u2)) := hl.set 3 rfl 4 (.string u2)
  have hl : Hq [(w.heap.size + 1 + 1 + 1 + 1 + 1, .cells #[.int .i64 k0, .int .i64 k1, .int .i64 k2, .int .i64 k3] 50), (w.heap.size + 1 + 1 + 1 + 1, .cells #[.string u0, .string v0, .string u1, .string v1, .string u2, .string v2, .string u3, .string v3] 49), (w.heap.size + 1 + 1 + 1, .cells #[.int .i64 0, .int .i64 0, .int .i64 0, .int .i64 0] 50), (w.heap.size + 1 + 1, .cells #[.string u0, .string v0, .string u1, .string v1, .string u2, .string v2, .string ⟨#[]⟩, .string ⟨#[]⟩] 49), (w.heap.size + 1, .cells #[.string s2, .string t2] 23), (w.heap.size, .cells #[.string s1, .string t1] 23)] w ((((((W4.setCell ⟨w.heap.size + 1 + 1, 0, none⟩ (.string u0)).setCell ⟨w.heap.size + 1 + 1, 1, none⟩ (.string v0)).setCell ⟨w.heap.size + 1 + 1, 2, none⟩ (.string u1)).setCell ⟨w.heap.size + 1 + 1, 3, none⟩ (.string v1)).setCell ⟨w.heap.size + 1 + 1, 4, none⟩ (.string u2)).setCell ⟨w.heap.size + 1 + 1, 5, none⟩ (.string v2)) := hl.set 3 rfl 5 (.string v2)
  have hl : Hq [(w.heap.size + 1 + 1 + 1 + 1 + 1, .cells #[.int .i64 k0, .int .i64 k1, .int .i64 k2, .int .i64 k3] 50), (w.heap.size + 1 + 1 + 1 + 1, .cells #[.string u0, .string v0, .string u1, .string v1, .string u2, .string v2, .string u3, .string v3] 49), (w.heap.size + 1 + 1 + 1, .cells #[.int .i64 0, .int .i64 0, .int .i64 0, .int .i64 0] 50), (w.heap.size + 1 + 1, .cells #[.string u0, .string v0, .string u1, .string v1, .string u2, .string v2, .string u3, .string ⟨#[]⟩] 49), (w.heap.size + 1, .cells #[.string s2, .string t2] 23), (w.heap.size, .cells #[.string s1, .string t1] 23)] w (((((((W4.setCell ⟨w.heap.size + 1 + 1, 0, none⟩ (.string u0)).setCell ⟨w.heap.size + 1 + 1, 1, none⟩ (.string v0)).setCell ⟨w.heap.size + 1 + 1, 2, none⟩ (.string u1)).setCell ⟨w.heap.size + 1 + 1, 3, none⟩ (.string v1)).setCell ⟨w.heap.size + 1 + 1, 4, none⟩ (.string u2)).setCell ⟨w.heap.size + 1 + 1, 5, none⟩ (.string v2)).setCell ⟨w.heap.size + 1 + 1, 6, none⟩ (.string u3)) := hl.set 3 rfl 6 (.string u3)
  have hl : Hq [(w.heap.size + 1 + 1 + 1 + 1 + 1, .cells #[.int .i64 k0, .int .i64 k1, .int .i64 k2, .int .i64 k3] 50), (w.heap.size + 1 + 1 + 1 + 1, .cells #[.string u0, .string v0, .string u1, .string v1, .string u2, .string v2, .string u3, .string v3] 49), (w.heap.size + 1 + 1 + 1, .cells #[.int .i64 0, .int .i64 0, .int .i64 0, .int .i64 0] 50), (w.heap.size + 1 + 1, .cells #[.string u0, .string v0, .string u1, .string v1, .string u2, .string v2, .string u3, .string v3] 49), (w.heap.size + 1, .cells #[.string s2, .string t2] 23), (w.heap.size, .cells #[.string s1, .string t1] 23)] w ((((((((W4.setCell ⟨w.heap.size + 1 + 1, 0, none⟩ (.string u0)).setCell ⟨w.heap.size + 1 + 1, 1, none⟩ (.string v0)).setCell ⟨w.heap.size + 1 + 1, 2, none⟩ (.string u1)).setCell ⟨w.heap.size + 1 + 1, 3, none⟩ (.string v1)).setCell ⟨w.heap.size + 1 + 1, 4, none⟩ (.string u2)).setCell ⟨w.heap.size + 1 + 1, 5, none⟩ (.string v2)).setCell ⟨w.heap.size + 1 + 1, 6, none⟩ (.string u3)).setCell ⟨w.heap.size + 1 + 1, 7, none⟩ (.string v3)) := hl.set 3 rfl 7 (.string v3)
  have hl : Hq [(w.heap.size + 1 + 1 + 1 + 1 + 1, .cells #[.int .i64 k0, .int .i64 k1, .int .i64 k2, .int .i64 k3] 50), (w.heap.size + 1 + 1 + 1 + 1, .cells #[.string u0, .string v0, .string u1, .string v1, .string u2, .string v2, .string u3, .string v3] 49), (w.heap.size + 1 + 1 + 1, .cells #[.int .i64 k0, .int .i64 0, .int .i64 0, .int .i64 0] 50), (w.heap.size + 1 + 1, .cells #[.string u0, .string v0, .string u1, .string v1, .string u2, .string v2, .string u3, .string v3] 49), (w.heap.size + 1, .cells #[.string s2, .string t2] 23), (w.heap.size, .cells #[.string s1, .string t1] 23)] w (((((((((W4.setCell ⟨w.heap.size + 1 + 1, 0, none⟩ (.string u0)).setCell ⟨w.heap.size + 1 + 1, 1, none⟩ (.string v0)).setCell ⟨w.heap.size + 1 + 1, 2, none⟩ (.string u1)).setCell ⟨w.heap.size + 1 + 1, 3, none⟩ (.string v1)).setCell ⟨w.heap.size + 1 + 1, 4, none⟩ (.string u2)).setCell ⟨w.heap.size + 1 + 1, 5, none⟩ (.string v2)).setCell ⟨w.heap.size + 1 + 1, 6, none⟩ (.string u3)).setCell ⟨w.heap.size + 1 + 1, 7, none⟩ (.string v3)).setCell ⟨w.heap.size + 1 + 1 + 1, 0, none⟩ (.int .i64 k0)) := hl.set 2 rfl 0 (.int .i64 k0)
  have hl : Hq [(w.heap.size + 1 + 1 + 1 + 1 + 1, .cells #[.int .i64 k0, .int .i64 k1, .int .i64 k2, .int .i64 k3] 50), (w.heap.size + 1 + 1 + 1 + 1, .cells #[.string u0, .string v0, .string u1, .string v1, .string u2, .string v2, .string u3, .string v3] 49), (w.heap.size + 1 + 1 + 1, .cells #[.int .i64 k0, .int .i64 k1, .int .i64 0, .int .i64 0] 50), (w.heap.size + 1 + 1, .cells #[.string u0, .string v0, .string u1, .string v1, .string u2, .string v2, .string u3, .string v3] 49), (w.heap.size + 1, .cells #[.string s2, .string t2] 23), (w.heap.size, .cells #[.string s1, .string t1] 23)] w ((((((((((W4.setCell ⟨w.heap.size + 1 + 1, 0, none⟩ (.string u0)).setCell ⟨w.heap.size + 1 + 1, 1, none⟩ (.string v0)).setCell ⟨w.heap.size + 1 + 1, 2, none⟩ (.string u1)).setCell ⟨w.heap.size + 1 + 1, 3, none⟩ (.string v1)).setCell ⟨w.heap.size + 1 + 1, 4, none⟩ (.string u2)).setCell ⟨w.heap.size + 1 + 1, 5, none⟩ (.string v2)).setCell ⟨w.heap.size + 1 + 1, 6, none⟩ (.string u3)).setCell ⟨w.heap.size + 1 + 1, 7, none⟩ (.string v3)).setCell ⟨w.heap.size + 1 + 1 + 1, 0, none⟩ (.int .i64 k0)).setCell ⟨w.heap.size + 1 + 1 + 1, 1, none⟩ (.int .i64 k1)) := hl.set 2 rfl 1 (.int .i64 k1)
  have hl : Hq [(w.heap.size + 1 + 1 + 1 + 1 + 1, .cells #[.int .i64 k0, .int .i64 k1, .int .i64 k2, .int .i64 k3] 50), (w.heap.size + 1 + 1 + 1 + 1, .cells #[.string u0, .string v0, .string u1, .string v1, .string u2, .string v2, .string u3, .string v3] 49), (w.heap.size + 1 + 1 + 1, .cells #[.int .i64 k0, .int .i64 k1, .int .i64 k2, .int .i64 0] 50), (w.heap.size + 1 + 1, .cells #[.string u0, .string v0, .string u1, .string v1, .string u2, .string v2, .string u3, .string v3] 49), (w.heap.size + 1, .cells #[.string s2, .string t2] 23), (w.heap.size, .cells #[.string s1, .string t1] 23)] w (((((((((((W4.setCell ⟨w.heap.size + 1 + 1, 0, none⟩ (.string u0)).setCell ⟨w.heap.size + 1 + 1, 1, none⟩ (.string v0)).setCell ⟨w.heap.size + 1 + 1, 2, none⟩ (.string u1)).setCell ⟨w.heap.size + 1 + 1, 3, none⟩ (.string v1)).setCell ⟨w.heap.size + 1 + 1, 4, none⟩ (.string u2)).setCell ⟨w.heap.size + 1 + 1, 5, none⟩ (.string v2)).setCell ⟨w.heap.size + 1 + 1, 6, none⟩ (.string u3)).setCell ⟨w.heap.size + 1 + 1, 7, none⟩ (.string v3)).setCell ⟨w.heap.size + 1 + 1 + 1, 0, none⟩ (.int .i64 k0)).setCell ⟨w.heap.size + 1 + 1 + 1, 1, none⟩ (.int .i64 k1)).setCell ⟨w.heap.size + 1 + 1 + 1, 2, none⟩ (.int .i64 k2)) := hl.set 2 rfl 2 (.int .i64 k2)
  have hl : Hq [(w.heap.size + 1 + 1 + 1 + 1 + 1, .cells #[.int .i64 k0, .int .i64 k1, .int .i64 k2, .int .i64 k3] 50), (w.heap.size + 1 + 1 + 1 + 1, .cells #[.string u0, .string v0, .string u1, .string v1, .string u2, .string v2, .string u3, .string v3] 49), (w.heap.size + 1 + 1 + 1, .cells #[.int .i64 k0, .int .i64 k1, .int .i64 k2, .int .i64 k3] 50), (w.heap.size + 1 + 1, .cells #[.string u0, .string v0, .string u1, .string v1, .string u2, .string v2, .string u3, .string v3] 49), (w.heap.size + 1, .cells #[.string s2, .string t2] 23), (w.heap.size, .cells #[.string s1, .string t1] 23)] w ((((((((((((W4.setCell ⟨w.heap.size + 1 + 1, 0, none⟩ (.string u0)).setCell ⟨w.heap.size + 1 + 1, 1, none⟩ (.string v0)).setCell ⟨w.heap.size + 1 + 1, 2, none⟩ (.string u1)).setCell ⟨w.heap.size + 1 + 1, 3, none⟩ (.string v1)).setCell ⟨w.heap.size + 1 + 1, 4, none⟩ (.string u2)).setCell ⟨w.heap.size + 1 + 1, 5, none⟩ (.string v2)).setCell ⟨w.heap.size + 1 + 1, 6, none⟩ (.string u3)).setCell ⟨w.heap.size + 1 + 1, 7, none⟩ (.string v3)).setCell ⟨w.heap.size + 1 + 1 + 1, 0, none⟩ (.int .i64 k0)).setCell ⟨w.heap.size + 1 + 1 + 1, 1, none⟩ (.int .i64 k1)).setCell ⟨w.heap.size + 1 + 1 + 1, 2, none⟩ (.int .i64 k2)).setCell ⟨w.heap.size + 1 + 1 + 1, 3, none⟩ (.int .i64 k3)) := hl.set 2 rfl 3 (.int .i64 k3)
  clear c_r0 c_r1 c_r2 c_r3 c_r4 c_r5 c_r6 c_r7 c_e0 c_e1 c_e2 c_e3 c_R0 c_R1 c_R2 c_R3 c_R4 c_R5 c_R6 c_R7 f_R0 f_R1 f_R2 f_R3 f_R4 f_R5 f_R6 f_R7 c_E0 c_E1 c_E2 c_E3 f_E0 f_E1 f_E2 f_E3
  have hl := hl.drew
  refine bodyPost_ret (results_list (rs := [.cell _ _, .cell _ _]) rfl (by simp) (.cell (w.heap.size + 1 + 1) 49 _ (0, 0) _ rfl (hl.at 3 rfl) Tryz.underlying49 rfl (by kernel_rfl) (.cell (w.heap.size + 1 + 1 + 1) 50 _ (0, 0) _ rfl (hl.at 2 rfl) Tryz.underlying50 rfl (by kernel_rfl) .nil))) rfl ?_
  exact ⟨rfl, hl.bl⟩

end Go.Proofs.YtnhjidbjibehpaaGreatDoor.L4

/- Layer 4: the laws' fixed examples, in numbers. -/
namespace Go.Proofs.YtnhjidbjibehpaaGreatDoor.L4
open Go.Shelf Go.RowKit Go.Proofs.YtnhjidbjibehpaaGreatDoorW.PrintWords Go.Proofs.YtnhjidbjibehpaaGreatDoorW.PrintLast Go.Proofs.YtnhjidbjibehpaaGreatDoorW.PrintMore Yd L3
set_option linter.unusedVariables false
set_option linter.unusedSimpArgs false

theorem ratO_lit {o : Option Rat} {r : Rat} {s t : ByteArray} {p q : Int} (h : o = some r) (hp : r.num = p) (hq : (r.den : Int) = q) (hs : Lib.itoa p = s.data.toList) (ht : Lib.itoa q = t.data.toList) : ratO o = ratV s t 0 := by
  have e1 : tx p = s := ba_ext (by rw [tx_data]; exact hs)
  have e2 : tx q = t := ba_ext (by rw [tx_data]; exact ht)
  rw [h, ratO_some, hp, hq, e1, e2]
theorem itoa_m3 : Lib.itoa (-3) = [45, 51] := by rw [itoa_neg (by omega), show (-3 : Int).natAbs = 3 from rfl, decDigits_small (by omega)]; rfl
theorem itoa_m2 : Lib.itoa (-2) = [45, 50] := by rw [itoa_neg (by omega), show (-2 : Int).natAbs = 2 from rfl, decDigits_small (by omega)]; rfl
theorem itoa_d {n : Nat} (h : n < 10) : Lib.itoa (n : Int) = [UInt8.ofNat (48 + n)] := by rw [itoa_pos (by omega), show ((n : Int)).natAbs = n by omega, decDigits_small h]
theorem itoa_2 : Lib.itoa 2 = [50] := itoa_d (n := 2) (by omega)
theorem itoa_5 : Lib.itoa 5 = [53] := itoa_d (n := 5) (by omega)
theorem itoa_6 : Lib.itoa 6 = [54] := itoa_d (n := 6) (by omega)
theorem itoa_17 : Lib.itoa 17 = [49, 55] := by rw [itoa_pos (by omega), show (17 : Int).natAbs = 17 from rfl, decDigits_big (by omega), show 17 / 10 = 1 from rfl, decDigits_small (by omega)]; rfl
theorem itoa_m17 : Lib.itoa (-17) = [45, 49, 55] := by rw [itoa_neg (by omega), show (-17 : Int).natAbs = 17 from rfl, decDigits_big (by omega), show 17 / 10 = 1 from rfl, decDigits_small (by omega)]; rfl
theorem itoa_50 : Lib.itoa 50 = [53, 48] := by rw [itoa_pos (by omega), show (50 : Int).natAbs = 50 from rfl, decDigits_big (by omega), show 50 / 10 = 5 from rfl, decDigits_small (by omega)]; rfl

theorem s_a : ratO (mk2 6 (-4)) = ratV ⟨#[45, 51]⟩ ⟨#[50]⟩ 0 := ratO_lit (r := Rat.divInt (-3) 2) (p := -3) (q := 2) (by kernel_rfl) (by kernel_rfl) (by kernel_rfl) itoa_m3 itoa_2
theorem s_b : ratO (mk2 0 (-5)) = ratV ⟨#[48]⟩ ⟨#[49]⟩ 0 := ratO_lit (r := 0) (p := 0) (q := 1) (by kernel_rfl) rfl rfl itoa_zero itoa_one
theorem s_g : ratO (mk2 1 0) = badR := rfl
theorem v_a : rvalB ⟨#[45, 51]⟩ ⟨#[50]⟩ = some (Rat.divInt (-3) 2) := by kernel_rfl
theorem s_c : ratO (rbin radd (rvalB ⟨#[49]⟩ ⟨#[50]⟩) (rvalB ⟨#[49]⟩ ⟨#[51]⟩)) = ratV ⟨#[53]⟩ ⟨#[54]⟩ 0 := ratO_lit (r := Rat.divInt 5 6) (p := 5) (q := 6) (by kernel_rfl) (by kernel_rfl) (by kernel_rfl) itoa_5 itoa_6
theorem s_d : ratO (rbin rdiv (rvalB ⟨#[49]⟩ ⟨#[50]⟩) (rvalB ⟨#[45, 49]⟩ ⟨#[52]⟩)) = ratV ⟨#[45, 50]⟩ ⟨#[49]⟩ 0 := ratO_lit (r := Rat.divInt (-2) 1) (p := -2) (q := 1) (by kernel_rfl) (by kernel_rfl) (by kernel_rfl) itoa_m2 itoa_one
theorem s_j : ratO (rbin rdiv (rvalB ⟨#[49]⟩ ⟨#[49]⟩) (rvalB ⟨#[48]⟩ ⟨#[49]⟩)) = badR := by
  have : rbin rdiv (rvalB ⟨#[49]⟩ ⟨#[49]⟩) (rvalB ⟨#[48]⟩ ⟨#[49]⟩) = none := by kernel_rfl
  rw [this]; rfl
theorem s_k : ratO (Ref.rgridP false (rvalB ⟨#[45, 49]⟩ ⟨#[51]⟩) 2) = ratV ⟨#[45, 49, 55]⟩ ⟨#[53, 48]⟩ 0 := ratO_lit (r := Rat.divInt (-17) 50) (p := -17) (q := 50) (by kernel_rfl) (by kernel_rfl) (by kernel_rfl) itoa_m17 itoa_50
theorem s_m : ratO (Ref.rgridP true (rvalB ⟨#[49]⟩ ⟨#[51]⟩) 2) = ratV ⟨#[49, 55]⟩ ⟨#[53, 48]⟩ 0 := ratO_lit (r := Rat.divInt 17 50) (p := 17) (q := 50) (by kernel_rfl) (by kernel_rfl) (by kernel_rfl) itoa_17 itoa_50
theorem rprint_a : rprint (Rat.divInt (-3) 2) = [45, 51, 47, 50] := by
  unfold rprint
  rw [show (Rat.divInt (-3) 2).den = 2 by kernel_rfl, show (Rat.divInt (-3) 2).num = -3 by kernel_rfl, if_neg (by omega), itoa_m3, show ((2 : Nat) : Int) = 2 from rfl, itoa_2]; rfl
theorem RL_a : RL (Rat.divInt (-3) 2) := of_decide_eq_true (by kernel_rfl)
theorem s_o : ratO (rparse (⟨#[45, 51, 47, 50]⟩ : ByteArray).data.toList) = ratV ⟨#[45, 51]⟩ ⟨#[50]⟩ 0 := by
  have h := rparse_print RL_a
  rw [rprint_a] at h
  exact ratO_lit (r := Rat.divInt (-3) 2) (p := -3) (q := 2) h (by kernel_rfl) (by kernel_rfl) itoa_m3 itoa_2
theorem s_q : ratO (rparse (⟨#[54, 47, 52]⟩ : ByteArray).data.toList) = badR := by
  have : rparse (⟨#[54, 47, 52]⟩ : ByteArray).data.toList = none := by
    unfold rparse
    have : rval (cutS (⟨#[54, 47, 52]⟩ : ByteArray).data.toList).1 ((cutS (⟨#[54, 47, 52]⟩ : ByteArray).data.toList).2.getD [49]) = none := by kernel_rfl
    rw [this]
  rw [this]; rfl
theorem s_print : Ref.strL (rprintO (rvalB ⟨#[45, 51]⟩ ⟨#[50]⟩)) = ⟨#[45, 51, 47, 50]⟩ := by rw [v_a]; show Ref.strL (rprint (Rat.divInt (-3) 2)) = _; rw [rprint_a]; rfl
theorem s_cmp : rcmpO (rvalB ⟨#[49]⟩ ⟨#[51]⟩) (rvalB ⟨#[51, 51, 51, 51, 51]⟩ ⟨#[49, 48, 48, 48, 48, 48]⟩) = 1 := by kernel_rfl
theorem s_val : (rvalB ⟨#[45, 51]⟩ ⟨#[50]⟩).isSome = true := by rw [v_a]; rfl
theorem s_inv : (rvalB ⟨#[]⟩ ⟨#[]⟩).isSome = false := by kernel_rfl

end Go.Proofs.YtnhjidbjibehpaaGreatDoor.L4
