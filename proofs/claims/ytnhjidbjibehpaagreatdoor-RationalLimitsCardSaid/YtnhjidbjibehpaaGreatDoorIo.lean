/- Layer 3, walked: parse, both. -/
import Derived.Test.YtnhjidbjibehpaaGreatDoorIn
namespace Go.Proofs.YtnhjidbjibehpaaGreatDoor.L3
open Go.Shelf Go.RowKit Go.Proofs.YtnhjidbjibehpaaGreatDoorW.PrintWords Go.Proofs.YtnhjidbjibehpaaGreatDoorW.PrintLast Go.Proofs.YtnhjidbjibehpaaGreatDoorW.PrintMore Yd
set_option linter.unusedVariables false
set_option linter.unusedSimpArgs false

theorem ival_sign {s : List UInt8} {x : Int} (h : ival s = some x) : neg s = decide (x < 0) := by
  rw [(ival_iff.1 h).1, itoa_isneg]
theorem digitVal_dig {b : UInt8} (h : isDig b = true) : Lib.digitVal b = some (b.toNat - 48) := by
  rw [Lib.digitVal, if_pos (isDig_iff.1 h)]
theorem decFrom_dval : ∀ (l : List UInt8) (acc : Nat), l.all isDig = true → Lib.decFrom acc l = some (l.foldl (fun a b => a * 10 + (b.toNat - 48)) acc)
  | [], _, _ => rfl
  | b :: t, acc, h => by
    rw [List.all_cons, Bool.and_eq_true] at h
    rw [Lib.decFrom, digitVal_dig h.1]
    exact decFrom_dval t _ h.2
theorem atoi_dval {l : List UInt8} (h : l.all isDig = true) (hn : l ≠ []) : Lib.atoi l = some (dval l : Int) := by
  cases l with
  | nil => exact absurd rfl hn
  | cons b t =>
    have hb := isDig_iff.1 (by rw [List.all_cons, Bool.and_eq_true] at h; exact h.1)
    have h45 : (b == 45) = false := by
      rw [beq_eq_false_iff_ne]; rintro rfl; exact absurd hb.1 (by decide)
    have h43 : (b == 43) = false := by
      rw [beq_eq_false_iff_ne]; rintro rfl; exact absurd hb.1 (by decide)
    simp [Lib.atoi, h45, h43, Lib.decNat, decFrom_dval _ _ h, dval]
theorem atoi_calls (s : ByteArray) (w : World) (h : s.data.toList.all isDig = true) (hn : s.data.toList ≠ []) (hl : s.size ≤ 4) :
    Calls Tryz.prog 135 #[.string s] w fun e w' => e = .returned (.tuple #[.int .i64 (dval s.data.toList), .nilIface]) ∧ Below w.heap.size w w' :=
  (Tryz.strconv_Atoi s _ (by omega) (atoi_dval h hn) w).mono (by
    rintro e w' ⟨rfl, t, rfl⟩
    exact ⟨rfl, bytes_below (Below.refl _ _) (Nat.le_refl _) _ _⟩)

/-- a signed number -/
def Sg (w : World) (v : Value) (x : Int) : Prop := ∃ (b : Bool) (u : Value) (n : Nat), v = .agg #[.bool b, u] ∧ Nm w u n ∧ x = if b then -(n : Int) else (n : Int)
/-- a number as parse makes it -/
def Sp (w : World) (v : Value) (x : Int) : Prop := ∃ (u : Value) (n : Nat), v = .agg #[.bool (decide (x < 0)), u] ∧ Nm w u n ∧ x = if decide (x < 0) then -(n : Int) else (n : Int)
theorem Sp.sg {w : World} {v : Value} {x : Int} (h : Sp w v x) : Sg w v x := by
  obtain ⟨u, n, h1, h2, h3⟩ := h
  exact ⟨_, u, n, h1, h2, h3⟩
theorem Sp.below {w w1 : World} {v : Value} {x : Int} (h : Sp w v x) (hb : Below w.heap.size w w1) : Sp w1 v x := by
  obtain ⟨u, n, h1, h2, h3⟩ := h
  exact ⟨u, n, h1, h2.below hb, h3⟩
theorem Sg.below {w w1 : World} {v : Value} {x : Int} (h : Sg w v x) (hb : Below w.heap.size w w1) : Sg w1 v x := by
  obtain ⟨b, u, n, h1, h2, h3⟩ := h
  exact ⟨b, u, n, h1, h2.below hb, h3⟩

theorem alloc_here (w : World) (o : Obj) : (w.alloc o).heap[w.heap.size]? = some o := Array.getElem?_push_size
theorem alloc_old (w : World) (o : Obj) {k : Nat} (h : k < w.heap.size) : (w.alloc o).heap[k]? = w.heap[k]? := ((Below.refl w.heap.size w).alloc (Nat.le_refl _) o).block k h
theorem ival_D {s : ByteArray} {x : Int} (h : ival s.data.toList = some x) : (x = if neg s.data.toList then -(dval (body s.data.toList) : Int) else (dval (body s.data.toList) : Int)) ∧
    decide ((body s.data.toList).length < s.size) = neg s.data.toList ∧ (body s.data.toList).all isDig = true ∧ (body s.data.toList).length ≤ 200 := by
  unfold ival at h
  split at h
  · rename_i hv
    obtain ⟨p1, p2, p3, p4⟩ := ivalid_parts hv
    refine ⟨(Option.some.inj h).symm, ?_, p3, p2⟩
    rw [Lib.size_eq]
    cases s.data.toList with
    | nil => rfl
    | cons a t =>
      by_cases ha : a = 45
      · simp [body, neg, ha]
      · simp [body, neg, ha]
  · cases h

theorem chunk_all {D : List UInt8} {m f : Nat} (h : D.all isDig = true) : ((D.take m).drop f).all isDig = true := by
  rw [List.all_eq_true] at h ⊢
  intro b hb
  exact h b (List.mem_of_mem_take (List.mem_of_mem_drop hb))
theorem chunk_ne {D : List UInt8} {m f : Nat} (hm : m ≤ D.length) (h0 : 0 < m) (hf : m - 4 = f) : (D.take m).drop f ≠ [] := by
  rw [← List.length_pos_iff, List.length_drop, List.length_take]; omega
/-- the state of parse's loop: the result's box, the number's box, and its groups -/
structure PSt (R B : Nat) (b : Bool) (D : List UInt8) (m : Nat) (xs : List Int) (w W : World) : Prop where
  bl : Below R w W
  rb : W.heap[R]? = some (.cells #[.bool false, .slice none 0 0] 100)
  lt : R < B
  own : ∃ v, W.heap[B]? = some (.cells #[.bool b, v] 100) ∧ W.ownsRow (B + 1) 3 1 v xs.length (nums .i64 xs)
  dig : ∀ d ∈ xs, 0 ≤ d ∧ d < 10000
  val : (dval (D.take m) : Int) * (10000 : Int) ^ xs.length + bv 10000 xs = (dval D : Int)
  len : 0 < m → m + 4 * xs.length = D.length
  xl : xs.length ≤ D.length

theorem take_extract {D : List UInt8} {m f : Nat} (hm : m ≤ D.length) (hf : m - 4 = f) : (⟨(D.take m).toArray⟩ : ByteArray).extract 0 f = ⟨(D.take f).toArray⟩ := by
  refine ba_of ?_
  rw [Lib.extract_data]
  show ((D.take m).drop 0).take (f - 0) = _
  rw [List.drop_zero, Nat.sub_zero, List.take_take, Nat.min_eq_left (by omega)]
theorem PSt.step {R B m f dc : Nat} {b : Bool} {D : List UInt8} {xs : List Int} {v v0 : Value} {w W W2 W3 : World} (h : PSt R B b D m xs w W) (ha : D.all isDig = true) (hm : m ≤ D.length) (h0 : 0 < m) (hf : m - 4 = f) (hd : dval ((D.take m).drop f) = dc)
    (h2 : Below W.heap.size W W2) (h3 : Below (B + 1) W2 W3) (hB : W3.heap[B]? = some (.cells #[.bool b, v0] 100)) (ho' : W3.ownsRow (B + 1) 3 1 v (xs.length + 1) (nums .i64 (xs ++ [(dc : Int)]))) :
    PSt R B b D f (xs ++ [(dc : Int)]) w (W3.setCell ⟨B, 1, none⟩ v) := by
  have ho : W3.ownsRow (B + 1) 3 1 v (xs ++ [(dc : Int)]).length (nums .i64 (xs ++ [(dc : Int)])) := by rw [List.length_append, List.length_singleton]; exact ho'
  have hlt : B < W.heap.size := by obtain ⟨v, hB, _⟩ := h.own; exact blk_lt hB
  have hsz : (D.take m).length = m := by rw [List.length_take]; omega
  have hWB : Below (B + 1) W W3 := (h2.mono hlt).trans h3
  have hdl : dc < 10 ^ ((D.take m).drop f).length := by rw [← hd]; exact dval_lt _ (chunk_all ha)
  have hfl : ((D.take m).drop f).length = m - f := by rw [List.length_drop, hsz]
  rw [hfl] at hdl
  have hsplit : dval (D.take m) = dval (D.take f) * 10 ^ (m - f) + dc := by
    have h1 : D.take m = D.take f ++ (D.take m).drop f := by
      have := (List.take_append_drop f (D.take m)).symm
      rwa [List.take_take, Nat.min_eq_left (by omega)] at this
    conv => lhs; rw [h1]
    rw [dval_append, hd, hfl]
  have h4 : dc < 10000 := Nat.lt_of_lt_of_le hdl (Nat.pow_le_pow_right (by omega) (show m - f ≤ 4 by omega))
  refine ⟨?_, ?_, h.lt, ⟨v, ?_, ?_⟩, ?_, ?_, ?_, ?_⟩
  · exact (h.bl.trans (hWB.mono (by have := h.lt; omega))).setCell (p := ⟨B, 1, none⟩) (by show R ≤ B; exact Nat.le_of_lt h.lt) _
  · exact blk_far ((hWB.block R (by have := h.lt; omega)).trans h.rb) (p := ⟨B, 1, none⟩) (by show R ≠ B; have := h.lt; omega) _
  · exact blk_set hB 1 v
  · exact own_setCell ho (p := ⟨B, 1, none⟩) (by intro e; have := own_base ho _ e.symm; simp at this; omega) _
  · intro d hd'
    rw [List.mem_append] at hd'
    rcases hd' with hd' | hd'
    · exact h.dig d hd'
    · rw [List.mem_singleton] at hd'; omega
  · have hv := h.val
    rw [bv_snoc, List.length_append, List.length_singleton, Int.pow_succ]
    by_cases h5 : 4 ≤ m
    · rw [hsplit, show m - f = 4 by omega] at hv
      rw [← hv, show (10 : Nat) ^ 4 = 10000 from rfl, Int.natCast_add, Int.natCast_mul]
      generalize (10000 : Int) ^ xs.length = p
      generalize (dval (D.take f) : Int) = q
      rw [show ((10000 : Nat) : Int) = 10000 from rfl, Int.add_mul, Int.mul_assoc q, Int.mul_comm p 10000]
      omega
    · have hf0 : f = 0 := by omega
      subst hf0
      rw [hsplit] at hv
      rw [← hv]
      simp [dval]
      omega
  · intro h6
    have := h.len h0
    rw [List.length_append, List.length_singleton]
    omega
  · have := h.len h0
    rw [List.length_append, List.length_singleton]
    omega
theorem Nm.setPair {W : World} {B i : Nat} {ty : TypeId} {b0 : Bool} {A0 : Option Addr} {l0 c0 : Nat} {v : Value} {n : Nat} (h : Nm W v n) (hb : W.heap[B]? = some (.cells #[.bool b0, .slice A0 l0 c0] ty)) (u : Value) : Nm (W.setCell ⟨B, i, none⟩ u) v n := by
  obtain ⟨A, c, e, hc, h1, h2, h3⟩ := h
  refine ⟨A, c, e, hc, h1, h2, fun hn => ?_⟩
  obtain ⟨ad, e', hcell⟩ := h3 hn
  refine ⟨ad, e', fun j hj => ?_⟩
  rw [World.cell?_of_block (w := W)]
  · exact hcell j hj
  · apply Below.heap_setCell
    intro hB
    have hx := hcell j hj
    unfold World.cell? at hx
    rw [show (ad.add j).block = B from hB, hb] at hx
    simp only at hx
    split at hx
    · cases hx
    · generalize (ad.add j).off = o at hx
      match o with
      | 0 => simp at hx
      | 1 => simp at hx
      | o + 2 => simp at hx
theorem parse_end {R B : Nat} {b : Bool} {D : List UInt8} {xs : List Int} {x : Int} {w W W4 : World} {A3 A4 : Option Addr} {l3 c3 l4 c4 : Nat} (h : PSt R B b D 0 xs w W) (hw : R = w.heap.size) (hx : x = if b = true then -(dval D : Int) else (dval D : Int)) (hxl : xs.length ≤ 200) (hbx : b = decide (x < 0))
    (h4 : Below W.heap.size W W4) (hB : W4.heap[B]? = some (.cells #[.bool b, .slice A3 l3 c3] 100)) (hn : Ls W4 (.slice A4 l4 c4) (trimL xs)) :
    Sp (((W4.setCell ⟨B, 1, none⟩ (.slice A4 l4 c4)).setCell ⟨R, 0, none⟩ (.bool b)).setCell ⟨R, 1, none⟩ (.slice A4 l4 c4)) (.agg #[.bool b, .slice A4 l4 c4]) x ∧
    Below w.heap.size w (((W4.setCell ⟨B, 1, none⟩ (.slice A4 l4 c4)).setCell ⟨R, 0, none⟩ (.bool b)).setCell ⟨R, 1, none⟩ (.slice A4 l4 c4)) ∧
    (((W4.setCell ⟨B, 1, none⟩ (.slice A4 l4 c4)).setCell ⟨R, 0, none⟩ (.bool b)).setCell ⟨R, 1, none⟩ (.slice A4 l4 c4)).heap[R]? = some (.cells #[.bool b, .slice A4 l4 c4] 100) := by
  have hv := h.val
  simp [dval] at hv
  have hnm : Nm W4 (.slice A4 l4 c4) (dval D) := by
    rw [trimL_num h.dig hv] at hn; exact hn
  have hR : W4.heap[R]? = some (.cells #[.bool false, .slice none 0 0] 100) := (h4.block _ (blk_lt h.rb)).trans h.rb
  have hlt := h.lt
  subst hw
  refine ⟨⟨_, dval D, by rw [hbx], ?_, by rw [← hbx]; exact hx⟩, ?_, blk_set (blk_set (blk_far hR (p := ⟨B, 1, none⟩) (by show w.heap.size ≠ B; omega) (.slice A4 l4 c4)) 0 (.bool b)) 1 _⟩
  · have n1 := Nm.setPair (i := 1) hnm hB (.slice A4 l4 c4)
    have r1 := blk_far hR (p := ⟨B, 1, none⟩) (by show w.heap.size ≠ B; omega) (.slice A4 l4 c4)
    have n2 := Nm.setPair (i := 0) n1 r1 (.bool b)
    have r2 := blk_set r1 0 (.bool b)
    exact Nm.setPair (i := 1) n2 r2 _
  · have hsz := h.bl.size
    exact (((h.bl.trans (h4.mono h.bl.size)).setCell (p := ⟨B, 1, none⟩) (by show w.heap.size ≤ B; omega) _).setCell (p := ⟨w.heap.size, 0, none⟩) (Nat.le_refl _) _).setCell (p := ⟨w.heap.size, 1, none⟩) (Nat.le_refl _) _

set_option maxRecDepth 100000 in
set_option maxHeartbeats 4000000 in
/-- parse -/
theorem parse_calls (s : ByteArray) (x : Int) (w : World) (h : ival s.data.toList = some x) :
    Calls Tryz.prog 104 #[.string s] w fun e w' => ∃ v, e = .returned v ∧ Sp w' v x ∧ Below w.heap.size w w' := by
  have HSG := Aside0.mk (ival_sign h)
  go_enter Tryz.func104, Tryz.ntmps104
  go_wp2_with fail
  refine (trimPrefix_calls s _).mono ?_
  rintro e w1 ⟨rfl, hd1⟩
  have HD := Aside0.mk hd1
  clear hd1
  have h1 : Below w.heap.size w w1 := below_then ((Below.refl _ w).alloc (Nat.le_refl _) _) (by simp) HD.out.below
  have h2 : w1.heap[w.heap.size]? = some (.cells #[.bool false, .slice none 0 0] 100) := (HD.out.below.block w.heap.size (by simp)).trans (alloc_here _ _)
  have h3 : w.heap.size < w1.heap.size := Nat.lt_of_lt_of_le (by simp) HD.out.below.size
  go_wp2_with fail
  have hD := ival_D h
  obtain ⟨D, hD0⟩ : ∃ D, body s.data.toList = D := ⟨_, rfl⟩
  rw [hD0] at hD ⊢
  obtain ⟨b, hb⟩ : ∃ b, neg s.data.toList = b := ⟨_, rfl⟩
  rw [hb] at hD
  have HSB : Aside0 (b = decide (x < 0)) := ⟨hb ▸ HSG.out⟩
  obtain ⟨hx, hneg, hall, hlen⟩ := hD
  rw [hneg]
  have HX := Aside0.mk hx
  have HAL := Aside0.mk hall
  have HLN := Aside0.mk hlen
  clear hx hall hlen hneg hD0 hb
  go_loopg [3] D.length (fun kq v3 W => ∃ (m : Nat) (xs : List Int), v3 = .string ⟨(D.take m).toArray⟩ ∧ m ≤ D.length ∧ m ≤ kq ∧ Aside0 (PSt w.heap.size w1.heap.size b D m xs w W))
  case atStart =>
    exact ⟨D.length, [], by rw [List.take_length], Nat.le_refl _, Nat.le_refl _, ⟨⟨below_then h1 (Nat.le_of_lt h3) ((Below.refl _ w1).alloc (Nat.le_refl _) _), (alloc_old _ _ h3).trans h2, h3, ⟨_, alloc_here _ _, own_nil _ _ _ _⟩, (fun _ h => by cases h), by simp [bv], fun _ => by simp, by simp⟩⟩⟩
  case round =>
    obtain ⟨m, xs, rfl, hm, hk, HP⟩ := hrel
    have hml : (D.take m).length = m := by rw [List.length_take]; omega
    by_cases hm0 : 0 < m
    · obtain ⟨v, hB, hown⟩ := HP.out.own
      have hlt : w1.heap.size < wr.heap.size := blk_lt hB
      have HO := Aside0.mk hown
      have hc0 := blk_cell hB 0
      have hc1 := blk_cell hB 1
      have hf0 := blk_frozen hB 0
      have hf1 := blk_frozen hB 1
      have b1 : decide (0 < (m : Int)) = true := decide_eq_true (by omega)
      have b1' : decide (0 < m) = true := decide_eq_true (by omega)
      have hw : wrap64 ((m : Int) - 4) = (m : Int) - 4 := IntWalk.wrap64_in _ (by have := HLN.out; omega)
      have hmx : max (0 : Int) ((m : Int) - 4) = ((m - 4 : Nat) : Int) := by omega
      have hle : (0 : Int) ≤ ((m - 4 : Nat) : Int) ∧ ((m - 4 : Nat) : Int) ≤ (m : Int) := by omega
      obtain ⟨f, hf⟩ : ∃ f, m - 4 = f := ⟨_, rfl⟩
      rw [hf] at hmx hle
      have HF := Aside0.mk hf
      have HM := Aside0.mk hm
      have HM0 := Aside0.mk hm0
      have HK := Aside0.mk hk
      clear hf hm hm0 hk
      go_wp2_with fail
      have he : (((⟨(D.take m).toArray⟩ : ByteArray).extract f m)).data.toList = (D.take m).drop f := by
        rw [Lib.extract_data]
        rw [List.take_of_length_le]
        simp; omega
      refine (atoi_calls _ _ (by rw [he]; exact chunk_all HAL.out) (by rw [he]; exact chunk_ne HM.out HM0.out HF.out) (by rw [Lib.size_eq, he]; simp; have := HF.out; omega)).mono ?_
      rintro e w2 ⟨rfl, hb2⟩
      rw [he]
      obtain ⟨dc, hdc⟩ : ∃ dc, dval ((D.take m).drop f) = dc := ⟨_, rfl⟩
      rw [hdc]
      have HDC := Aside0.mk hdc
      have hB2 := (hb2.block _ hlt).trans hB
      have HB2 := Aside0.mk hB2
      have HS2 := Aside0.mk (Nat.lt_of_lt_of_le hlt hb2.size)
      have HO2 := Aside0.mk (pw_own_below HO.out hb2)
      have HW2 := Aside0.mk hb2
      have HXL : Aside0 (xs.length ≤ 200) := ⟨Nat.le_trans HP.out.xl HLN.out⟩
      have hc1 := blk_cell hB2 1
      have hf1 := blk_frozen hB2 1
      clear hdc hB2 hb2 hB hown hc0 hf0 HO hlt
      go_wp2_with (first | ((with_reducible refine gate_builtin (b := .append) (xs := #[.tmp 31, .tmp 33]) rfl ?_); at_builtin; refine print_append_num (w0 := w2) (w1.heap.size + 1) rfl (.tmp 31) (.tmp 33) 98 3 .i64 8 rfl Tryz.underlying98 info3 (by decide) v xs dc rfl rfl HO2.out (Below.refl _ _) HS2.out (by have := HXL.out; omega) ?_; intro v3 w3 ho hb hg hat; obtain ⟨A3, c3, rfl⟩ := own_slice ho; have HO3 := Aside0.mk ho; have HB3 := Aside0.mk ((hb.block _ (Nat.lt_succ_self _)).trans HB2.out); have HW3 := Aside0.mk hb; have hc1 := blk_cell HB3.out 1; have hf1 := blk_frozen HB3.out 1; clear ho hb hg hat))
      go_roundg f
      case measure => have := HF.out; have := HM0.out; have := HK.out; omega
      case rel =>
        refine ⟨f, xs ++ [(dc : Int)], ?_, by have := HF.out; have := HM.out; omega, Nat.le_refl _, ⟨PSt.step HP.out HAL.out HM.out HM0.out HF.out HDC.out HW2.out HW3.out HB3.out (by have h := HO3.out; rw [List.length_append, List.length_singleton] at h; exact h)⟩⟩
        rw [take_extract HM.out HF.out]
    · obtain rfl : m = 0 := by omega
      obtain ⟨v, hB, hown⟩ := HP.out.own
      obtain ⟨A3, c3, rfl⟩ := own_slice hown
      have hlt : w1.heap.size < wr.heap.size := blk_lt hB
      have HO := Aside0.mk hown
      have hc0 := blk_cell hB 0
      have hc1 := blk_cell hB 1
      have hf0 := blk_frozen hB 0
      have hf1 := blk_frozen hB 1
      have b1 : decide (0 < ((0 : Nat) : Int)) = false := rfl
      have HXL : Aside0 (xs.length ≤ 200) := ⟨Nat.le_trans HP.out.xl HLN.out⟩
      have HBB := Aside0.mk hB
      have HLT := Aside0.mk hlt
      clear hB hlt
      go_wp2_with fail
      refine (trimmed_calls _ xs _ (Ls.of_own HO.out) (by have := HXL.out; omega)).mono ?_
      rintro e w4 ⟨v4, rfl, hn4, hb4⟩
      obtain ⟨A4, c4, rfl, hn4'⟩ := id hn4
      have HN4 := Aside0.mk hn4
      have hB4 := (hb4.block _ HLT.out).trans HBB.out
      have hR4 := (hb4.block _ (blk_lt HP.out.rb)).trans HP.out.rb
      have HB4 := Aside0.mk hB4
      have HR4 := Aside0.mk hR4
      have HW4 := Aside0.mk hb4
      have hc0 := blk_cell hB4 0
      have hc1 := blk_cell hB4 1
      have hf0 := blk_frozen hB4 0
      have hf1 := blk_frozen hB4 1
      have hr0 := blk_cell hR4 0
      have hr1 := blk_cell hR4 1
      have hs0 := blk_frozen hR4 0
      have hs1 := blk_frozen hR4 1
      clear hn4 hn4' hB4 hR4 hb4
      go_wp2_with fail
      have HE := Aside0.mk (parse_end HP.out rfl HX.out HXL.out HSB.out HW4.out HB4.out HN4.out)
      generalize (trimL xs).length = l4 at *
      refine bodyPost_ret (results_single rfl (.cell w.heap.size 100 #[.bool b, .slice A4 l4 c4] (0, 0) _ rfl HE.out.2.2 Tryz.underlying100 rfl (by kernel_rfl) .nil)) rfl ?_
      exact ⟨_, rfl, HE.out.1, HE.out.2.1⟩

end Go.Proofs.YtnhjidbjibehpaaGreatDoor.L3
