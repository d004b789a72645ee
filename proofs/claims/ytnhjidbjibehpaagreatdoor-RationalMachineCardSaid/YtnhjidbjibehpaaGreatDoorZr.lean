/- The reference's functions on texts and lists of digits, in plain numbers: Valid, digits, text, trim, order, plus, minus. -/
import Derived.Test.YtnhjidbjibehpaaGreatDoorZp
import Derived.Test.YtnhjidbjibehpaaGreatDoorZq
import Derived.Test.YtnhjidbjibehpaaGreatDoorZl
namespace Go.Proofs.YtnhjidbjibehpaaGreatDoor.Ref
open Go.RowKit Go.Proofs.YtnhjidbjibehpaaGreatDoorW.PrintWords Go.Proofs.YtnhjidbjibehpaaGreatDoorW.PrintLast Go.Proofs.YtnhjidbjibehpaaGreatDoorW.PrintMore Yd Go.Lib
set_option linter.unusedVariables false
set_option linter.unusedSimpArgs false

theorem Ev.hop {α : Type} {g : Nat → Option α} {r : α} (h : Ev (fun k => g (k + 1)) r) : Ev g r := Ev.step (fun _ => rfl) h
theorem bt_eq {s : ByteArray} {i : Nat} (h : i < s.data.toList.length) : bt s (i : Int) = ((s.data.toList[i]'h).toNat : Int) := by
  have h' : (i : Int).toNat < s.size := h
  rw [← bt_at s i h']
  rfl
theorem rd_bd {B : Nat} (hB : 2 ≤ B) (n i : Nat) : rd (bd B n) (i : Int) = ((n / B ^ i % B : Nat) : Int) := by
  unfold rd; rw [Int.toNat_natCast, bd_getD hB]

/-- what is asked behind the digits -/
def vP (l : List UInt8) : Bool := !l.isEmpty && decide (l.length ≤ 200) && (l == [48] || l.head? != some 48)
theorem valid_l0 (s : ByteArray) (hs : s.size ≤ 9223372036854775806) : ∀ (d i : Nat), i + d = s.data.toList.length → Ev (fun k => yardstickref03_Valid.l0 k s i) ((s.data.toList.drop i).all isDig && vP s.data.toList) := by
  intro d
  have hsz := size_len s
  induction d with
  | zero =>
    intro i hi
    apply Ev.hop
    simp only [yardstickref03_Valid.l0, if_neg (show ¬ (i : Int) < (s.size : Int) by omega)]
    rw [List.drop_eq_nil_of_le (by omega), List.all_nil, Bool.true_and, tl_data]
    unfold vP
    by_cases h0 : (s.size : Int) > 0
    · have hne : s.data.toList.isEmpty = false := by
        rw [List.isEmpty_eq_false_iff]; intro h; rw [h, List.length_nil] at hsz; omega
      have hl : 0 < s.data.toList.length := by omega
      simp only [if_pos h0, hne]
      by_cases h2 : (s.size : Int) ≤ 200
      · simp only [if_pos h2, decide_eq_true (show s.data.toList.length ≤ 200 by omega)]
        by_cases h3 : s.data.toList = [48]
        · simp only [if_pos h3, h3]; exact Ev.now _
        · simp only [if_neg h3]
          have e : (s.data.toList == [48]) = false := by simpa using h3
          have h4 : (0 : Int) < (s.size : Int) := by omega
          simp only [e, if_pos h4]
          have hb : bt s 0 = ((s.data.toList[0]'hl).toNat : Int) := bt_eq hl
          rw [hb, head_getElem hl]
          have : ((s.data.toList[0].toNat : Int) != 48) = (some s.data.toList[0] != some 48) := by
            rw [Bool.eq_iff_iff]
            simp only [bne_iff_ne, ne_eq, Option.some.injEq, ← UInt8.toNat_inj]
            have : (48 : UInt8).toNat = 48 := rfl
            rw [this]; omega
          rw [this]
          simp only [Bool.not_false, Bool.true_and, Bool.false_or]
          exact Ev.now _
      · simp only [if_neg h2, decide_eq_false (show ¬ s.data.toList.length ≤ 200 by omega)]
        exact Ev.now _
    · have hne : s.data.toList.isEmpty = true := by
        rw [List.isEmpty_iff]; exact List.eq_nil_of_length_eq_zero (by omega)
      simp only [if_neg h0, hne]; exact Ev.now _
  | succ d ih =>
    intro i hi
    have hil : i < s.data.toList.length := by omega
    apply Ev.hop
    simp only [yardstickref03_Valid.l0, if_pos (show (i : Int) < (s.size : Int) by omega), if_pos (show (0 : Int) ≤ (i : Int) by omega), bt_eq hil]
    rw [List.drop_eq_getElem_cons hil, List.all_cons]
    have hw : wrap64 ((i : Int) + 1) = ((i + 1 : Nat) : Int) := by rw [w64 (by omega) (by omega)]; rfl
    have ih' := ih (i + 1) (by omega)
    by_cases h1 : ((s.data.toList[i].toNat : Nat) : Int) < 48
    · have : isDig s.data.toList[i] = false := by rw [Bool.eq_false_iff, ne_eq, isDig_iff]; omega
      simp only [if_pos h1, this]; exact Ev.now _
    · by_cases h2 : ((s.data.toList[i].toNat : Nat) : Int) > 57
      · have : isDig s.data.toList[i] = false := by rw [Bool.eq_false_iff, ne_eq, isDig_iff]; omega
        simp only [if_neg h1, if_pos h2, this]; exact Ev.now _
      · have : isDig s.data.toList[i] = true := by rw [isDig_iff]; omega
        simp only [if_neg h1, if_neg h2, this, Bool.true_and, hw]; exact ih'
theorem valid_ev (s : ByteArray) (hs : s.size ≤ 9223372036854775806) : Ev (fun k => yardstickref03_Valid.f k s) (ivalid s.data.toList) := by
  have hsz := size_len s
  unfold yardstickref03_Valid.f
  have plain : ∀ (hb : (body s.data.toList) = s.data.toList), Ev (fun k => yardstickref03_Valid.j0 k s false) (ivalid s.data.toList) := by
    intro hb
    apply Ev.hop
    simp only [yardstickref03_Valid.j0]
    simp only [show (false = true) = False by simp, if_false]
    apply Ev.hop
    simp only [yardstickref03_Valid.j1]
    have := valid_l0 s hs s.data.toList.length 0 (by omega)
    have e : ivalid s.data.toList = ((s.data.toList.drop 0).all isDig && vP s.data.toList) := by
      unfold ivalid vP
      rw [hb, List.drop_zero]
      cases s.data.toList.all isDig <;> simp
    rw [e]; exact this
  by_cases h0 : (s.size : Int) > 0
  · simp only [if_pos h0]
    have hl : 0 < s.data.toList.length := by omega
    have hb : bt s 0 = ((s.data.toList[0]'hl).toNat : Int) := bt_eq hl
    by_cases h1 : s.data.toList[0] = 45
    · have e : (bt s 0 == 45) = true := by rw [hb, h1]; rfl
      simp only [e]
      apply Ev.hop
      simp only [yardstickref03_Valid.j0, if_true, if_pos (show (1 : Int) ≤ (s.size : Int) by omega)]
      rw [tl_data, extract_tail]
      have hh : s.data.toList.head? = some 45 := by rw [head_getElem hl, h1]
      have hbo : body s.data.toList = s.data.toList.tail := by unfold body; rw [if_pos hh]
      have hn : (s.data.toList == [48]) = false := by
        rw [beq_eq_false_iff_ne]; intro h; rw [h] at hh; simp at hh
      by_cases h2 : s.data.toList.tail = [48]
      · simp only [if_pos h2]
        have : ivalid s.data.toList = false := by
          unfold ivalid; rw [hbo, h2, hn]; rfl
        rw [this]; exact Ev.now _
      · simp only [if_neg h2]
        apply Ev.hop
        simp only [yardstickref03_Valid.j1]
        have := valid_l0 (s.extract 1 s.size) (by rw [size_len, extract_tail]; simp; omega) (s.extract 1 s.size).data.toList.length 0 (by omega)
        rw [extract_tail] at this
        have e : ivalid s.data.toList = ((s.data.toList.tail.drop 0).all isDig && vP s.data.toList.tail) := by
          unfold ivalid vP
          have h2' : (s.data.toList.tail == [48]) = false := by simpa using h2
          rw [hbo, hn, h2', List.drop_zero]
          cases s.data.toList.tail.all isDig <;> simp
        rw [e]; exact this
    · have e : (bt s 0 == 45) = false := by
        rw [hb, beq_eq_false_iff_ne]; intro h; apply h1; apply UInt8.toNat_inj.1
        have : (45 : UInt8).toNat = 45 := rfl
        rw [this]; omega
      simp only [e]
      apply plain
      unfold body
      rw [if_neg (by rw [head_getElem hl]; intro h; exact h1 (by simpa using h))]
  · simp only [if_neg h0]
    apply plain
    have : s.data.toList = [] := List.eq_nil_of_length_eq_zero (by omega)
    rw [this]; rfl

def dig (b : UInt8) : Int := ((b.toNat : Int) - 48) % 256
theorem dig_dec {d : Nat} (h : d < 10) : dig (UInt8.ofNat (48 + d)) = d := by
  unfold dig; rw [dig_toNat h]; omega
theorem digits_bd : ∀ n : Nat, 0 < n → (decDigits n).reverse.map dig = bd 10 n := by
  intro n h
  rw [decDigits_bd n h, ← List.map_reverse, List.reverse_reverse, List.map_map]
  conv => rhs; rw [← List.map_id (bd 10 n)]
  refine List.map_congr_left fun d hd => ?_
  have := bd_mem (B := 10) (by omega) n d hd
  simp only [Function.comp_apply, id_eq]
  rw [dig_dec (by omega)]; omega
theorem digits_l0 (s : ByteArray) (hs : s.size ≤ 1000) (hz : s.data.toList ≠ [48]) (b : Bool) : ∀ (i : Nat) (o : List Int), i ≤ s.data.toList.length → o.length + i = s.data.toList.length →
    Ev (fun k => yardstickref03_digits.l0 k s b o ((i : Int) - 1)) (b, o ++ (s.data.toList.take i).reverse.map dig) := by
  have hsz := size_len s
  intro i
  induction i with
  | zero =>
    intro o _ _
    apply Ev.hop
    simp only [yardstickref03_digits.l0, if_neg (show ¬ ((0 : Nat) : Int) - 1 ≥ 0 by omega), List.take_zero, List.reverse_nil, List.map_nil, List.append_nil]
    exact Ev.now _
  | succ i ih =>
    intro o hi ho
    apply Ev.hop
    have hil : i < s.data.toList.length := by omega
    have e1 : ((i + 1 : Nat) : Int) - 1 = (i : Int) := by omega
    have e2 : wrap64 ((i : Int) - 1) = (i : Int) - 1 := w64 (by omega) (by omega)
    have hz' : ¬ s.toList = [48] := by rw [tl_data]; exact hz
    simp only [yardstickref03_digits.l0, e1, if_pos (show (i : Int) ≥ 0 by omega), if_pos (show (0 : Int) ≤ (i : Int) by omega), if_neg hz', if_pos (show (i : Int) < (s.size : Int) by omega), if_pos (show o.length < 17592186044416 by omega), bt_eq hil, e2]
    have := ih (o ++ [dig (s.data.toList[i])]) (by omega) (by simp; omega)
    rw [List.append_assoc] at this
    have e3 : [dig (s.data.toList[i])] ++ (s.data.toList.take i).reverse.map dig = (s.data.toList.take (i + 1)).reverse.map dig := by
      rw [List.take_succ_eq_append_getElem hil, List.reverse_append]; rfl
    rw [e3] at this
    exact this
theorem digits_zero (s : ByteArray) (h : s.data.toList = [48]) (b : Bool) : Ev (fun k => yardstickref03_digits.j0 k s b) (b, []) := by
  have hsz : s.size = 1 := by rw [size_len, h]; rfl
  apply Ev.hop
  simp only [yardstickref03_digits.j0]
  apply Ev.hop
  have hz' : s.toList = [48] := by rw [tl_data]; exact h
  have e2 : wrap64 ((s.size : Int) - 1) = 0 := by rw [hsz, w64 (by omega) (by omega)]; rfl
  simp only [yardstickref03_digits.l0, e2, if_pos (show (0 : Int) ≥ 0 by omega), if_pos hz']
  exact Ev.now _
theorem digits_j0 (s : ByteArray) (n : Nat) (h : s.data.toList = decDigits n) (hn : n < DL) (b : Bool) : Ev (fun k => yardstickref03_digits.j0 k s b) (b, bd 10 n) := by
  by_cases h0 : n = 0
  · subst h0; rw [bd_zero]; exact digits_zero s (by rw [h, decDigits_zero]) b
  · have hl := decDigits_DL.2 hn
    have hsz := size_len s
    have hz : s.data.toList ≠ [48] := by
      rw [h]; intro h'; rw [← decDigits_zero] at h'; exact h0 (decDigits_inj h')
    apply Ev.hop
    simp only [yardstickref03_digits.j0]
    have hs2 : s.size ≤ 200 := by rw [hsz, h]; exact hl
    rw [w64 (by omega) (by omega), hsz]
    have := digits_l0 s (by rw [hsz, h]; omega) hz b s.data.toList.length [] (by omega) (by simp)
    rw [List.take_length, List.nil_append, h, digits_bd n (by omega)] at this
    rw [h]; exact this
theorem digits_ev (s : ByteArray) (x : Int) (h : ival s.data.toList = some x) : Ev (fun k => yardstickref03_digits.f k s) (decide (x < 0), bd 10 x.natAbs) := by
  obtain ⟨h1, h2⟩ := ival_iff.1 h
  have hsz := size_len s
  have hne : s.data.toList ≠ [] := by rw [h1]; exact itoa_ne x
  have hl : 0 < s.data.toList.length := List.length_pos_iff.2 hne
  have hb : bt s 0 = ((s.data.toList[0]'hl).toNat : Int) := bt_eq hl
  unfold yardstickref03_digits.f
  simp only [if_pos (show (0 : Int) < (s.size : Int) by omega)]
  by_cases hx : x < 0
  · have h3 := h1
    rw [itoa_neg hx] at h3
    have e0 : s.data.toList[0] = 45 := by
      have : s.data.toList[0]? = some 45 := by rw [h3]; rfl
      rw [List.getElem?_eq_getElem hl] at this; injection this
    have e : bt s 0 = 45 := by rw [hb, e0]; rfl
    simp only [if_pos e, e, if_pos (show (1 : Int) ≤ (s.size : Int) by omega), decide_eq_true hx]
    exact digits_j0 _ _ (by rw [extract_tail, h3]; rfl) h2 _
  · have h3 := h1
    rw [itoa_pos (by omega)] at h3
    have e0 : s.data.toList[0] ≠ 45 := by
      intro h4
      have := decDigits_head45 x.natAbs
      rw [← h3, head_getElem hl, h4] at this
      exact this rfl
    have e : ¬ bt s 0 = 45 := by
      rw [hb]; intro h; apply e0; apply UInt8.toNat_inj.1
      have : (45 : UInt8).toNat = 45 := rfl
      rw [this]; omega
    have e' : (bt s 0 == 45) = false := by simpa using e
    simp only [if_neg e, e', decide_eq_false hx]
    exact digits_j0 _ _ h3 h2 _

/-- an absolute value with a sign -/
def sgv (b : Bool) (n : Nat) : Int := if b then -(n : Int) else (n : Int)
theorem sgv_abs (b : Bool) (n : Nat) : (sgv b n).natAbs = n := by unfold sgv; split <;> omega
theorem text_l0 (n : Nat) (hlen : (bd 10 n).length ≤ 1000) : ∀ (i : Nat) (o : List Int), i ≤ (bd 10 n).length → o.length + i ≤ 2000 →
    Ev (fun k => yardstickref03_text.l0 k (bd 10 n) o ((i : Int) - 1)) (strOfNums (o ++ ((bd 10 n).take i).reverse.map (fun d => 48 + d)), decide ((bd 10 n).length ≤ 200)) := by
  intro i
  induction i with
  | zero =>
    intro o _ _
    apply Ev.hop
    simp only [yardstickref03_text.l0, if_neg (show ¬ ((0 : Nat) : Int) - 1 ≥ 0 by omega), List.take_zero, List.reverse_nil, List.map_nil, List.append_nil]
    have e : decide (((bd 10 n).length : Int) ≤ 200) = decide ((bd 10 n).length ≤ 200) := by rw [decide_eq_decide]; omega
    rw [e]; exact Ev.now _
  | succ i ih =>
    intro o hi ho
    apply Ev.hop
    have hil : i < (bd 10 n).length := by omega
    have e1 : ((i + 1 : Nat) : Int) - 1 = (i : Int) := by omega
    have e2 : wrap64 ((i : Int) - 1) = (i : Int) - 1 := w64 (by omega) (by omega)
    have hm := bd_mem (B := 10) (by omega) n _ (List.getElem_mem hil)
    have e : rd (bd 10 n) (i : Int) = (bd 10 n)[i] := by
      unfold rd; rw [Int.toNat_natCast, List.getD_eq_getElem?_getD, List.getElem?_eq_getElem hil]; rfl
    have e4 : wrap64 (48 + (bd 10 n)[i]) % 256 = 48 + (bd 10 n)[i] := by rw [w64 (by omega) (by omega)]; omega
    simp only [yardstickref03_text.l0, e1, if_pos (show (i : Int) ≥ 0 by omega), if_pos (show (0 : Int) ≤ (i : Int) by omega), if_pos (show (i : Int) < ((bd 10 n).length : Int) by omega), if_pos (show o.length < 140737488355328 by omega), e, e2, e4]
    have := ih (o ++ [48 + (bd 10 n)[i]]) (by omega) (by simp; omega)
    rw [List.append_assoc] at this
    have e3 : [48 + (bd 10 n)[i]] ++ ((bd 10 n).take i).reverse.map (fun d => 48 + d) = ((bd 10 n).take (i + 1)).reverse.map (fun d => 48 + d) := by
      rw [List.take_succ_eq_append_getElem hil, List.reverse_append]; rfl
    rw [e3] at this
    exact this
theorem str_dec (n : Nat) (h : 0 < n) (pre : List Int) : (strOfNums (pre ++ (bd 10 n).reverse.map (fun d => 48 + d))).data.toList = pre.map (fun n => UInt8.ofNat n.toNat) ++ decDigits n := by
  rw [strOfNums_data, List.map_append, decDigits_bd n h, List.map_map]
  congr 1
  refine List.map_congr_left fun d hd => ?_
  have := bd_mem (B := 10) (by omega) n d (List.mem_reverse.1 hd)
  simp only [Function.comp_apply]
  congr 1; omega
theorem bd_len_DL {n : Nat} : (bd 10 n).length ≤ 200 ↔ n < DL := by
  rw [DL_eq]
  exact ⟨fun h => Nat.lt_of_lt_of_le (bd_lt_pow (by omega) n) (Nat.pow_le_pow_right (by omega) h), bd_length_le (by omega) n 200⟩
theorem text_ev (b : Bool) (n : Nat) (hlen : (bd 10 n).length ≤ 1000) : Ev (fun k => yardstickref03_text.f k b (bd 10 n)) (itx (sgv b n), decide (n < DL)) := by
  unfold yardstickref03_text.f
  by_cases h0 : n = 0
  · subst h0
    have e : ((bd 10 0).length : Int) = 0 := by rw [bd_zero]; rfl
    simp only [if_pos e]
    have e2 : itx (sgv b 0) = ⟨#[48]⟩ := by
      apply ba_eq; rw [itx_data]; unfold sgv; split <;> exact itoa_zero
    rw [e2, decide_eq_true DL_gt0]; exact Ev.now _
  · have hp := bd_len_pos (B := 10) (by omega) (show 0 < n by omega)
    simp only [if_neg (show ¬ ((bd 10 n).length : Int) = 0 by omega)]
    have e2 : decide ((bd 10 n).length ≤ 200) = decide (n < DL) := by rw [decide_eq_decide]; exact bd_len_DL
    have go : ∀ pre : List Int, pre.length ≤ 1 → pre.map (fun n => UInt8.ofNat n.toNat) ++ decDigits n = itoa (sgv b n) → Ev (fun k => yardstickref03_text.j0 k (bd 10 n) pre) (itx (sgv b n), decide (n < DL)) := by
      intro pre hpre he
      apply Ev.hop
      simp only [yardstickref03_text.j0]
      rw [w64 (by omega) (by omega)]
      have := text_l0 n hlen (bd 10 n).length pre (Nat.le_refl _) (by omega)
      rw [List.take_length, e2] at this
      have e3 : strOfNums (pre ++ (bd 10 n).reverse.map (fun d => 48 + d)) = itx (sgv b n) := by
        apply ba_eq; rw [str_dec n (by omega), itx_data, he]
      rw [e3] at this; exact this
    cases b with
    | true =>
      simp only [if_true, List.length_nil, if_pos (show 0 < 140737488355328 by omega), List.nil_append]
      apply go [45] (by simp)
      have : sgv true n < 0 := by unfold sgv; simp; omega
      rw [itoa_neg this, sgv_abs]; rfl
    | false =>
      simp only [Bool.false_eq_true, if_false]
      apply go [] (by simp)
      have : 0 ≤ sgv false n := by unfold sgv; simp
      rw [itoa_pos this, sgv_abs]; rfl
/-- a text and an error, of an integer -/
def cte (z : Int) : ByteArray × Int := if z.natAbs < DL then (itx z, 0) else (⟨#[]⟩, 30)
theorem checked_ev (b : Bool) (n : Nat) (hlen : (bd 10 n).length ≤ 1000) : Ev (fun k => yardstickref03_checked.f k b (bd 10 n)) (cte (sgv b n)) := by
  unfold yardstickref03_checked.f
  refine Ev.bind (text_ev b n hlen) ?_
  unfold cte
  rw [sgv_abs]
  by_cases h : n < DL
  · simp only [decide_eq_true h, if_pos h, if_true]; exact Ev.now _
  · simp only [decide_eq_false h, if_neg h, Bool.false_eq_true, if_false]; exact Ev.now _

theorem trim_ev : ∀ l : List Int, l.length ≤ 100000 → Ev (fun k => yardstickref03_trim.f k l) (trimL l) := by
  suffices h : ∀ r : List Int, r.length ≤ 100000 → Ev (fun k => yardstickref03_trim.f k r.reverse) (trimL r.reverse) by
    intro l hl; simpa using h l.reverse (by simpa using hl)
  intro r
  unfold yardstickref03_trim.f
  induction r with
  | nil =>
    intro _
    apply Ev.hop
    simp only [yardstickref03_trim.l0, List.reverse_nil, List.length_nil]
    exact Ev.now _
  | cons a r ih =>
    intro hl
    have hl' : r.length ≤ 99999 := by simpa using hl
    apply Ev.hop
    rw [List.reverse_cons]
    have e0 : ((r.reverse ++ [a]).length : Int) = (r.length : Int) + 1 := by simp
    have e1 : wrap64 ((r.length : Int) + 1 - 1) = (r.length : Int) := by rw [w64 (by omega) (by omega)]; omega
    have e2 : rd (r.reverse ++ [a]) (r.length : Int) = a := by
      unfold rd
      rw [Int.toNat_natCast, List.getD_eq_getElem?_getD, List.getElem?_append_right (by simp)]; simp
    have e3 : (r.reverse ++ [a]).take ((r.length : Int)).toNat = r.reverse := by
      rw [Int.toNat_natCast]; exact List.take_left' (by simp)
    simp only [yardstickref03_trim.l0, e0, e1, e2, e3, if_pos (show (r.length : Int) + 1 > 0 by omega), if_pos (show (0 : Int) ≤ (r.length : Int) by omega), if_pos (show (r.length : Int) < (r.length : Int) + 1 by omega), if_pos (show (r.length : Int) ≤ (r.length : Int) + 1 by omega)]
    by_cases h : a = 0
    · subst h
      simp only [if_true]
      rw [trimL_snoc_zero]
      exact ih (by omega)
    · simp only [if_neg h]
      rw [trimL_snoc _ h]; exact Ev.now _

theorem order_l0 (a b : Nat) (hl : (bd 10 a).length = (bd 10 b).length) (h10 : (bd 10 a).length ≤ 100000) : ∀ i : Nat, i ≤ (bd 10 a).length → a / 10 ^ i = b / 10 ^ i →
    Ev (fun k => yardstickref03_order.l0 k (bd 10 a) (bd 10 b) ((i : Int) - 1)) (sgn ((a : Int) - b)) := by
  intro i
  induction i with
  | zero =>
    intro _ h
    apply Ev.hop
    simp only [yardstickref03_order.l0, if_neg (show ¬ ((0 : Nat) : Int) - 1 ≥ 0 by omega)]
    have : a = b := by simpa using h
    rw [this, Int.sub_self]; exact Ev.now _
  | succ i ih =>
    intro hi h
    apply Ev.hop
    have e1 : ((i + 1 : Nat) : Int) - 1 = (i : Int) := by omega
    have e2 : wrap64 ((i : Int) - 1) = (i : Int) - 1 := w64 (by omega) (by omega)
    simp only [yardstickref03_order.l0, e1, e2, if_pos (show (i : Int) ≥ 0 by omega), if_pos (show (0 : Int) ≤ (i : Int) by omega), if_pos (show (i : Int) < ((bd 10 a).length : Int) by omega), if_pos (show (i : Int) < ((bd 10 b).length : Int) by omega), rd_bd (B := 10) (by omega)]
    have ha := Nat.div_add_mod (a / 10 ^ i) 10
    have hb := Nat.div_add_mod (b / 10 ^ i) 10
    rw [Nat.div_div_eq_div_mul, ← Nat.pow_succ] at ha hb
    rw [h] at ha
    clear h
    by_cases he : a / 10 ^ i % 10 = b / 10 ^ i % 10
    · have he' : ((a / 10 ^ i % 10 : Nat) : Int) = ((b / 10 ^ i % 10 : Nat) : Int) := by rw [he]
      simp only [if_pos he']
      exact ih (by omega) (by rw [← ha, ← hb, he])
    · have he' : ¬ ((a / 10 ^ i % 10 : Nat) : Int) = ((b / 10 ^ i % 10 : Nat) : Int) := by omega
      simp only [if_neg he']
      clear e2 ih
      have hdiv : ∀ x y : Nat, x / 10 ^ i < y / 10 ^ i → x < y := fun x y h => by
        rcases Nat.lt_or_ge x y with h' | h'
        · exact h'
        · have := Nat.div_le_div_right (c := 10 ^ i) h'; omega
      by_cases hlt : a / 10 ^ i % 10 < b / 10 ^ i % 10
      · have := hdiv a b (by rw [← ha, ← hb]; exact Nat.add_lt_add_left hlt _)
        simp only [if_pos (show ((a / 10 ^ i % 10 : Nat) : Int) < ((b / 10 ^ i % 10 : Nat) : Int) by omega)]
        unfold sgn; rw [if_pos (by omega)]; exact Ev.now _
      · have := hdiv b a (by rw [← ha, ← hb]; exact Nat.add_lt_add_left (by omega) _)
        simp only [if_neg (show ¬ ((a / 10 ^ i % 10 : Nat) : Int) < ((b / 10 ^ i % 10 : Nat) : Int) by omega)]
        unfold sgn; rw [if_neg (by omega), if_pos (by omega)]; exact Ev.now _
theorem order_ev (a b : Nat) (h10 : (bd 10 a).length ≤ 100000) : Ev (fun k => yardstickref03_order.f k (bd 10 a) (bd 10 b)) (sgn ((a : Int) - b)) := by
  unfold yardstickref03_order.f
  by_cases h : (bd 10 a).length = (bd 10 b).length
  · simp only [if_pos (show ((bd 10 a).length : Int) = ((bd 10 b).length : Int) by omega)]
    rw [w64 (by omega) (by omega)]
    refine order_l0 a b h h10 (bd 10 a).length (Nat.le_refl _) ?_
    have h1 := bd_lt_pow (B := 10) (by omega) a
    have h2 := bd_lt_pow (B := 10) (by omega) b
    rw [Nat.div_eq_of_lt h1, Nat.div_eq_of_lt (by rw [h]; exact h2)]
  · simp only [if_neg (show ¬ ((bd 10 a).length : Int) = ((bd 10 b).length : Int) by omega)]
    by_cases hlt : (bd 10 a).length < (bd 10 b).length
    · have := lt_of_length (B := 10) (by omega) hlt
      simp only [if_pos (show ((bd 10 a).length : Int) < ((bd 10 b).length : Int) by omega)]
      unfold sgn; rw [if_pos (by omega)]; exact Ev.now _
    · have := lt_of_length (B := 10) (by omega) (show (bd 10 b).length < (bd 10 a).length by omega)
      simp only [if_neg (show ¬ ((bd 10 a).length : Int) < ((bd 10 b).length : Int) by omega)]
      unfold sgn; rw [if_neg (by omega), if_pos (by omega)]; exact Ev.now _

end Go.Proofs.YtnhjidbjibehpaaGreatDoor.Ref
