/- Layer 3, walked: signed.text. -/
import Derived.Test.YtnhjidbjibehpaaGreatDoorZf
import Derived.Stop.RegionWithIn
import Derived.Deep.DeepMust
import Derived.Deep.RegionHeld3
import Derived.Deep.DrawnRows
import Derived.Deep.RegionWith
namespace Go.Proofs.YtnhjidbjibehpaaGreatDoor.L3
open Go.Shelf Go.RowKit Go.Proofs.YtnhjidbjibehpaaGreatDoorW.PrintWords Go.Proofs.YtnhjidbjibehpaaGreatDoorW.PrintLast Go.Proofs.YtnhjidbjibehpaaGreatDoorW.PrintMore Yd
set_option linter.unusedVariables false
set_option linter.unusedSimpArgs false
attribute [local go_sem] Oper.semAt_some

def Tab (w : World) : Prop := Lib.TabIs Tryz.prog w "internal/strconv.uint64pow10" .u64 Lib.pow10Tab
theorem Tab.below {B : Nat} {w w' : World} (h : Tab w) (hb : Below B w w') (hB : w.heap.size ≤ B) : Tab w' := by
  unfold Tab Lib.TabIs World.var? at h ⊢
  cases hg : Tryz.prog.globalNamed "internal/strconv.uint64pow10" with
  | none => rw [hg] at h; simp at h
  | some g =>
    rw [hg] at h
    simp only [Option.bind_some] at h ⊢
    have hlt : g < w.heap.size := by
      rcases Nat.lt_or_ge g w.heap.size with h' | h'
      · exact h'
      · simp [Array.getElem?_eq_none h'] at h
    rw [hb.block g (by omega)]
    exact h

theorem bgrow (w : World) (k : Nat) (os : Array Obj) : Below w.heap.size w (Go.Sort.grow (w.drewN k) os) :=
  ⟨rfl, rfl, rfl, by simp [Go.Sort.grow], fun i hi => by simp [Go.Sort.grow, Array.getElem?_append, hi]⟩
theorem itoa_calls (d : Nat) (w : World) (hd : d < 10000) (hT : Tab w) :
    Calls Tryz.prog 98 #[.int .i64 d] w fun e w' => e = .returned (.string ⟨(Lib.decDigits d).toArray⟩) ∧ Below w.heap.size w w' :=
  (Tryz.strconv_Itoa d (by omega) (by omega) w hT).mono (by
    rintro e w' ⟨rfl, k, os, rfl⟩
    refine ⟨?_, bgrow _ _ _⟩
    rw [itoa_pos (by omega)]; rfl)

/-- one group's digits -/
def pad4 (d : Nat) : List UInt8 := Lib.repeatL [48] (4 - (Lib.decDigits d).length) ++ Lib.decDigits d
theorem dec_len4 {d : Nat} (h : d < 10000) : (Lib.decDigits d).length ≤ 4 := (decDigits_length_le (by omega)).2 (by omega)
theorem rep48_all : ∀ k, (Lib.repeatL [48] k).all isDig = true
  | 0 => rfl
  | k + 1 => by rw [Lib.repeatL, List.all_append, rep48_all k]; rfl
theorem rep48_dval : ∀ k, dval (Lib.repeatL [48] k) = 0
  | 0 => rfl
  | k + 1 => by rw [Lib.repeatL, dval_append, rep48_dval k]; simp [dval]
theorem pad4_len {d : Nat} (h : d < 10000) : (pad4 d).length = 4 := by
  have := dec_len4 h
  simp [pad4, Lib.repeatL_length]
  omega
theorem pad4_all (d : Nat) : (pad4 d).all isDig = true := by rw [pad4, List.all_append, rep48_all, decDigits_all]; rfl
theorem pad4_dval (d : Nat) : dval (pad4 d) = d := by rw [pad4, dval_append, rep48_dval, dval_decDigits]; omega
theorem dec_pad {q d : Nat} (hq : 0 < q) (hd : d < 10000) : Lib.decDigits (q * 10000 + d) = Lib.decDigits q ++ pad4 d := by
  have hv : dval (Lib.decDigits q ++ pad4 d) = q * 10000 + d := by
    rw [dval_append, pad4_len hd, dval_decDigits, pad4_dval]
  rw [← hv]
  refine decDigits_dval _ ?_ ?_ (.inr ?_)
  · rw [List.all_append, decDigits_all, pad4_all]; rfl
  · simp [decDigits_ne]
  · have hh := decDigits_head q hq
    cases hl : Lib.decDigits q with
    | nil => exact absurd hl (decDigits_ne q)
    | cons a t => rw [hl] at hh; simpa using hh

/-- the bytes that a group comes to -/
def grp (n p : Nat) : List UInt8 := if p < GL n - 1 then pad4 (n / 10000 ^ p % 10000) else Lib.decDigits (n / 10000 ^ p % 10000)
def sb (n : Nat) (pre : List (Fin (GL n))) : List UInt8 := pre.foldl (fun a p => a ++ grp n p.1) []
theorem sb_nil (n : Nat) : sb n [] = [] := rfl
theorem sb_snoc (n : Nat) (pre : List (Fin (GL n))) (x : Fin (GL n)) : sb n (pre ++ [x]) = sb n pre ++ grp n x.1 := by simp [sb]
theorem grp_len (n p : Nat) : (grp n p).length ≤ 4 := by
  have hd := Nat.mod_lt (n / 10000 ^ p) (show 10000 > 0 by omega)
  unfold grp
  split
  · rw [pad4_len hd]; omega
  · exact dec_len4 hd
theorem sb_len (n : Nat) : ∀ pre : List (Fin (GL n)), (sb n pre).length ≤ 4 * pre.length := by
  intro pre
  suffices h : ∀ r : List (Fin (GL n)), (sb n r.reverse).length ≤ 4 * r.length by simpa using h pre.reverse
  intro r
  induction r with
  | nil => simp [sb]
  | cons x r ih =>
    rw [List.reverse_cons, sb_snoc, List.length_append, List.length_cons]
    have := grp_len n x.1
    omega
theorem sb_down {n : Nat} (hn : 0 < n) : ∀ k, k + 1 ≤ GL n → sb n ((down (GL n)).take (k + 1)) = Lib.decDigits (n / 10000 ^ (GL n - (k + 1))) := by
  have hlt := lt_pow_GL (n := n) (Nat.le_refl _)
  have hpos : 0 < GL n := bd_len_pos (by omega) hn
  have hle : 10000 ^ (GL n - 1) ≤ n := bd_pow_le (by omega) n (GL n - 1) (by show GL n = _; omega)
  intro k
  induction k with
  | zero =>
    intro _
    rw [down_take_succ _ 0 (by omega), List.take_zero, sb_snoc, sb_nil, List.nil_append]
    show grp n (GL n - 1 - 0) = _
    unfold grp
    rw [if_neg (by omega), show GL n - 1 - 0 = GL n - (0 + 1) by omega, Nat.mod_eq_of_lt]
    rw [Nat.div_lt_iff_lt_mul (Nat.pow_pos (by omega)), ← Nat.pow_succ']
    rwa [show (GL n - (0 + 1)).succ = GL n by omega]
  | succ k ih =>
    intro hk
    rw [down_take_succ _ (k + 1) (by omega), sb_snoc, ih (by omega)]
    show _ ++ grp n (GL n - 1 - (k + 1)) = _
    unfold grp
    rw [if_pos (by omega), show GL n - 1 - (k + 1) = GL n - (k + 1 + 1) by omega]
    have e : GL n - (k + 1) = (GL n - (k + 1 + 1)) + 1 := by omega
    have hd := Nat.mod_lt (n / 10000 ^ (GL n - (k + 1 + 1))) (show 10000 > 0 by omega)
    have hq : 0 < n / 10000 ^ (GL n - (k + 1)) := Nat.div_pos (Nat.le_trans (Nat.pow_le_pow_right (by omega) (by omega)) hle) (Nat.pow_pos (by omega))
    rw [← dec_pad hq hd, e, Nat.pow_succ, ← Nat.div_div_eq_div_mul]
    congr 1
    have := Nat.div_add_mod (n / 10000 ^ (GL n - (k + 1 + 1))) 10000
    omega
theorem sb_all {n : Nat} (hn : 0 < n) : sb n (down (GL n)) = Lib.decDigits n := by
  have hpos : 0 < GL n := bd_len_pos (by omega) hn
  have := sb_down hn (GL n - 1) (by omega)
  rw [show GL n - 1 + 1 = GL n by omega, down_take_all, Nat.sub_self, Nat.pow_zero, Nat.div_one] at this
  exact this

theorem IsBuilderF.keptN {T e : TypeId} {B b : Nat} {bs : List Value} {w w1 : World} (h : Lib.IsBuilderF T e B b bs w) {row : Option Nat} (hg : w.grownBy w1 row) (hr : ∀ r, row = some r → ∃ o : Obj, w.heap[r]? = some o ∧ o.isCells = false) : Lib.IsBuilderF T e B b bs w1 := by
  have key : ∀ p, Lib.BuilderAtF T e B b p bs w → Lib.BuilderAtF T e B b p bs w1 := by
    rintro p ⟨hB, v, hv, hown, hne⟩
    refine ⟨hB, v, ?_, hown.kept hg ?_, hne⟩
    · refine (hg.block b (blk_lt hv) ?_).trans hv
      intro e
      obtain ⟨o, ho, hc⟩ := hr b e.symm
      rw [hv] at ho
      injection ho with ho
      subst ho
      cases hc
    · by_cases hn : v.ownBlock = none
      · exact .inl hn
      · refine .inr fun e1 => ?_
        cases row with
        | none => exact hn e1
        | some r =>
          obtain ⟨o, ho, hc⟩ := hr r rfl
          rcases hown.2 with ⟨rfl, _⟩ | ⟨g, cap, cur, fz, rfl, _, hgg, _⟩
          · exact hn rfl
          · simp only [Value.ownBlock, Option.some.injEq] at e1
            subst e1
            rw [hgg] at ho
            injection ho with ho
            subst ho
            cases hc
  exact h.elim (fun x => .inl (key _ x)) (fun x => .inr (key _ x))

/-- the state of text's loop -/
structure TSt (w W : World) (b : Bool) (A1 : Option Addr) (l1 c1 : Nat) (bs : List UInt8) : Prop where
  bl : Below w.heap.size w W
  xb : W.heap[w.heap.size]? = some (.cells #[.bool b, .slice A1 l1 c1] 100)
  ob : Lib.IsBuilderF 91 5 (w.heap.size + 1) (w.heap.size + 1) (Lib.byteCells bs) W
  sz : w.heap.size + 3 ≤ W.heap.size
  bx : ∃ v, W.heap[w.heap.size + 1 + 1]? = some (.cells #[v] 98)
theorem TSt.below {w W W' : World} {b : Bool} {A1 : Option Addr} {l1 c1 : Nat} {bs : List UInt8} (h : TSt w W b A1 l1 c1 bs) (hb : Below W.heap.size W W') : TSt w W' b A1 l1 c1 bs :=
  ⟨h.bl.trans (hb.mono h.bl.size), (hb.block _ (blk_lt h.xb)).trans h.xb, IsBuilderF.keptN h.ob (grown_of_below hb none) (fun r e => by cases e), Nat.le_trans h.sz hb.size, by obtain ⟨v, hv⟩ := h.bx; exact ⟨v, (hb.block _ (blk_lt hv)).trans hv⟩⟩
theorem TSt.own {w W W' : World} {b : Bool} {A1 : Option Addr} {l1 c1 : Nat} {bs : List UInt8} (h : TSt w W b A1 l1 c1 bs) {row : Option Nat} (hg : W.grownBy W' row) (hr : ∀ r, row = some r → ∃ o : Obj, W.heap[r]? = some o ∧ o.isCells = false) (hbl : Below w.heap.size w W') : TSt w W' b A1 l1 c1 bs := by
  refine ⟨hbl, ?_, IsBuilderF.keptN h.ob hg hr, Nat.le_trans h.sz hg.size, ?_⟩
  · refine (hg.block _ (blk_lt h.xb) ?_).trans h.xb
    intro e
    obtain ⟨o, ho, hc⟩ := hr _ e.symm
    rw [h.xb] at ho
    injection ho with ho
    subst ho
    cases hc
  · obtain ⟨v, hv⟩ := h.bx
    refine ⟨v, (hg.block _ (blk_lt hv) ?_).trans hv⟩
    intro e
    obtain ⟨o, ho, hc⟩ := hr _ e.symm
    rw [hv] at ho
    injection ho with ho
    subst ho
    cases hc
theorem others_of_kept {W W' : World} {b : Nat} {e : TypeId} {cs : Array Value} {t : TypeId} (h : Lib.OthersKept e (some b) W W') (hs : W.heap.size ≤ W'.heap.size) (hb : W.heap[b]? = some (.cells cs t)) : KeepsOthers W W' := by
  refine ⟨hs, fun k o hk hc => h k o hk ?_ ?_⟩
  · intro e1
    injection e1 with e1
    subst e1
    rw [hb] at hk
    injection hk with hk
    subst hk
    cases hc
  · rintro c fz rfl
    cases hc

/-- WriteString -/
theorem write_calls {w W : World} {b : Bool} {A1 : Option Addr} {l1 c1 : Nat} {bs : List UInt8} (h : TSt w W b A1 l1 c1 bs) (s : ByteArray) (hl : bs.length + s.size ≤ 100000) :
    Calls Tryz.prog 75 #[.pointer (some ⟨w.heap.size + 1, 0, none⟩), .string s] W fun e W' => ∃ v, e = .returned v ∧ TSt w W' b A1 l1 c1 (bs ++ s.data.toList) ∧ KeepsOthers W W' ∧ KB w.heap.size (w.heap.size + 1 + 1) W W' := by
  refine (Tryz.Builder_WriteString_k (w.heap.size + 1) (w.heap.size + 1) (Lib.byteCells bs) s W h.ob (by simp [Lib.byteCells]; omega) (by have := h.sz; omega)).mono ?_
  rintro e W' ⟨rfl, hw, hb, ho⟩
  obtain ⟨v, hv⟩ := h.bx
  have hbx : W'.heap[w.heap.size + 1 + 1]? = some (.cells #[v] 98) := ho _ _ hv (by intro e; injection e; omega) (by intro c fz e; injection e with e1 e2 e3; exact absurd e2 (by decide))
  have e : Lib.byteCells (bs ++ s.data.toList) = Lib.byteCells bs ++ Lib.strCells s := by simp [Lib.byteCells, Lib.strCells]
  refine ⟨_, rfl, ⟨h.bl.trans (hb.mono (Nat.le_succ _)), (hb.block _ (Nat.lt_succ_self _)).trans h.xb, .inr (by rw [e]; exact hw), Nat.le_trans h.sz hb.size, v, hbx⟩, ?_, hb.mono (Nat.le_succ _), by rw [hbx, hv]⟩
  rcases h.ob with h1 | h1
  · obtain ⟨_, v1, hv1, _⟩ := h1; exact others_of_kept ho hb.size hv1
  · obtain ⟨_, v1, hv1, _⟩ := h1; exact others_of_kept ho hb.size hv1
theorem repeat_calls (k : Nat) (w : World) (hk : k ≤ 4) :
    Calls Tryz.prog 96 #[.string ⟨#[48]⟩, .int .i64 k] w fun e w' => e = .returned (.string ⟨(Lib.repeatL [48] k).toArray⟩) ∧ Below w.heap.size w w' :=
  Tryz.strings_Repeat ⟨#[48]⟩ k w (by omega) (by show 1 * k ≤ _; omega)

/-- what text returns -/
def tres (x : Int) : Value := if x.natAbs < DL then .tuple #[.string ⟨(Lib.itoa x).toArray⟩, .int .i64 0] else .tuple #[.string ⟨#[]⟩, .int .i64 30]

end Go.Proofs.YtnhjidbjibehpaaGreatDoor.L3

/- Layer 3, walked: signed.text. -/
namespace Go.Proofs.YtnhjidbjibehpaaGreatDoor.L3
open Go.Shelf Go.RowKit Go.Proofs.YtnhjidbjibehpaaGreatDoorW.PrintWords Go.Proofs.YtnhjidbjibehpaaGreatDoorW.PrintLast Go.Proofs.YtnhjidbjibehpaaGreatDoorW.PrintMore Yd
set_option linter.unusedVariables false
set_option linter.unusedSimpArgs false
attribute [local go_sem] Oper.semAt_some

theorem data_append (a b : List UInt8) : ((⟨a.toArray⟩ : ByteArray) ++ ⟨b.toArray⟩).data.toList = a ++ b := by
  rw [ByteArray.data_append]; simp
theorem text_start (w : World) (b : Bool) (A1 : Option Addr) (l1 c1 : Nat) (v : Value) :
    TSt w (((w.alloc (.cells #[.bool b, .slice A1 l1 c1] 100)).alloc (.cells #[.pointer none, .slice none 0 0] 91)).alloc (.cells #[v] 98)) b A1 l1 c1 [] ∧
    (((w.alloc (.cells #[.bool b, .slice A1 l1 c1] 100)).alloc (.cells #[.pointer none, .slice none 0 0] 91)).alloc (.cells #[v] 98)).cell? ⟨w.heap.size + 1 + 1, 0, none⟩ = some v ∧
    (((w.alloc (.cells #[.bool b, .slice A1 l1 c1] 100)).alloc (.cells #[.pointer none, .slice none 0 0] 91)).alloc (.cells #[v] 98)).heap.size = w.heap.size + 3 := by
  have h1 := alloc_here w (.cells #[.bool b, .slice A1 l1 c1] 100)
  generalize hW1 : w.alloc (.cells #[.bool b, .slice A1 l1 c1] 100) = W1 at *
  have s1 : W1.heap.size = w.heap.size + 1 := by rw [← hW1, World.size_alloc]
  have b1 : Below w.heap.size w W1 := by rw [← hW1]; exact below_alloc (Below.refl _ w) _
  have h2 := alloc_here W1 (.cells #[.pointer none, .slice none 0 0] 91)
  generalize hW2 : W1.alloc (.cells #[.pointer none, .slice none 0 0] 91) = W2 at *
  have s2 : W2.heap.size = w.heap.size + 2 := by rw [← hW2, World.size_alloc, s1]
  have b2 : Below W1.heap.size W1 W2 := by rw [← hW2]; exact below_alloc (Below.refl _ W1) _
  have b3 : Below W2.heap.size W2 (W2.alloc (.cells #[v] 98)) := below_alloc (Below.refl _ W2) _
  have hb : Lib.IsBuilderF 91 5 (w.heap.size + 1) (w.heap.size + 1) (Lib.byteCells []) W2 := by
    refine .inl ⟨Nat.le_refl _, .slice none 0 0, by rw [← s1]; exact h2, World.ownsRowF_nil _ _ _ _, by simp [Value.ownBlock]⟩
  refine ⟨⟨b1.trans ((b2.trans (b3.mono (by omega))).mono (by omega)), ?_, IsBuilderF.keptN hb (grown_of_below b3 none) (fun r e => by cases e), by rw [World.size_alloc]; omega, v, by rw [show w.heap.size + 1 + 1 = W2.heap.size by omega]; exact alloc_here W2 _⟩, ?_, by rw [World.size_alloc]; omega⟩
  · exact (b3.block _ (by omega)).trans ((b2.block _ (by omega)).trans h1)
  · have h3 := alloc_here W2 (.cells #[v] 98)
    rw [show w.heap.size + 1 + 1 = W2.heap.size by omega]
    exact blk_cell h3 0

theorem text_end {x : Int} {b : Bool} {n : Nat} {ds : List UInt8} (hx : x = if b = true then -(n : Int) else (n : Int)) (hn : 0 < n) (hd : Lib.decDigits n = ds) :
    (200 < ds.length → tres x = .tuple #[.string ⟨#[]⟩, .int .i64 30]) ∧ (ds.length ≤ 200 → tres x = .tuple #[.string ⟨(if b = true then 45 :: ds else ds).toArray⟩, .int .i64 0]) := by
  have ha : x.natAbs = n := by rw [hx]; split <;> omega
  subst hd
  unfold tres
  rw [ha]
  refine ⟨fun h => if_neg fun h' => ?_, fun h => ?_⟩
  · have := decDigits_DL.2 h'; omega
  · rw [if_pos (decDigits_DL.1 h)]
    cases b
    · rw [itoa_pos (by rw [hx]; simp), ha]; rfl
    · rw [itoa_neg (by rw [hx]; simp; omega), ha]; rfl

set_option maxRecDepth 100000 in
set_option maxHeartbeats 8000000 in
/-- text -/
theorem text_calls (v : Value) (x : Int) (w : World) (h : Sg w v x) (hT : Tab w) (hg : GL x.natAbs ≤ 1000) :
    Calls Tryz.prog 82 #[v] w fun e w' => e = .returned (tres x) ∧ Below w.heap.size w w' := by
  obtain ⟨b, u, n, rfl, ⟨A1, c1, rfl, hc1, hr1⟩, hx⟩ := h
  have HR1 := Aside0.mk hr1
  have HC1 := Aside0.mk hc1
  have HLA : Aside0 (GL n ≤ 1000) := ⟨by rw [hx] at hg; split at hg <;> simpa using hg⟩
  have HX := Aside0.mk hx
  have HT := Aside0.mk hT
  clear hr1 hc1 hg hx hT
  refine (callsIn_wide (n := 100)).1 ?_
  refine callsIn_of_wp_marks Tryz.func82 rfl trivial ?_ rfl
  simp only [Tryz.ntmps82, List.size_toArray, List.length_cons, List.length_nil, Nat.reduceAdd, Nat.reduceSub, Array.replicate_succ, Array.replicate_zero, List.push_toArray, List.append_toArray, List.nil_append, List.cons_append]
  by_cases h0 : n = 0
  · have hbd : (bd 10000 n).length = 0 := by rw [h0, bd_zero]; rfl
    rw [hbd]
    gi_wp2_with fail
    have hx0 : x = 0 := by rw [HX.out, h0]; split <;> rfl
    refine ⟨.tuple #[.string ⟨#[48]⟩, .int .i64 0], by simp [results, Tryz.f82, go_sem], ?_, below_alloc (Below.refl _ w) _⟩
    rw [hx0]
    unfold tres
    rw [if_pos (by rw [DL_eq]; exact Nat.pow_pos (by omega)), itoa_pos (by omega), show (0 : Int).natAbs = 0 from rfl, decDigits_zero]
  · have hpos : 0 < (bd 10000 n).length := bd_len_pos (by omega) (by omega)
    have b1 : (((bd 10000 n).length : Int) == 0) = false := by rw [beq_eq_false_iff_ne]; omega
    have b2 : ((bd 10000 n).length == 0) = false := by rw [beq_eq_false_iff_ne]; omega
    have HN := Aside0.mk (Nat.pos_of_ne_zero h0)
    gi_wp2_with fail
    refine ⟨trivial, (callsIn_wide.2 (back_calls _ _ _ _)).mono ?_⟩
    rintro e w' ⟨rfl, rfl⟩
    gi_wp2_with fail
    have hlb : (bd 10000 n).length ≤ 100000 := by have := HLA.out; unfold GL at this; omega
    obtain ⟨hS, hbc, hsz⟩ := text_start w b A1 (bd 10000 n).length c1 (.slice A1 (bd 10000 n).length c1)
    generalize (((w.alloc (.cells #[.bool b, .slice A1 (bd 10000 n).length c1] 100)).alloc (.cells #[.pointer none, .slice none 0 0] 91)).alloc (.cells #[.slice A1 (bd 10000 n).length c1] 98)) = W2 at *
    have HS := Aside0.mk hS
    refine wpIn_rangeFunc_ownF rfl (by omega) (gf := 137) (lb := #[.pointer (some ⟨w.heap.size + 1 + 1, 0, none⟩)]) rfl trivial (enters_of Tryz.func137 (by kernel_rfl) rfl)
      (back_stops 99 (w.heap.size + 1 + 1) w.heap.size (by omega) A1 c1 (bd 10000 n) hlb W2 (by omega) (by omega) (ReadsInt.block HR1.out) hbc (HR1.out.below hS.bl))
      KB.trans (fun W l o o' hl _ _ _ => KB.putObj W l o' (by omega) (by omega)) (Below.refl _ _) (fun _ => rfl)
      (fun pre W => TSt w W b A1 (bd 10000 n).length c1 (sb n pre) ∧ pre.length ≤ GL n)
      (fun c pre W => False)
      (fun s A B row hs hg hr => by
        obtain ⟨k3, k4⟩ := hs
        have hr' := fun r e => (hr r e).2
        exact ⟨k3.own hg hr' (k3.bl.grown hg k3.bl.size (fun k e => by have := (hr k e).1; omega)), k4⟩)
      (fun _ _ _ _ _ hs _ _ => hs)
      ⟨hS, Nat.zero_le _⟩
      (fun x => { tmps := #[.agg #[.bool b, .slice A1 (bd 10000 n).length c1], .pointer (some ⟨w.heap.size, 0, none⟩), .string ⟨#[]⟩, .int .i64 0, .pointer (some ⟨w.heap.size + 1, 0, none⟩), .int .i64 ((x.1 : Nat) : Int), .int .i64 (rd (bd 10000 n) ((x.1 : Nat) : Int)), undef, undef,
          .pointer (some ⟨w.heap.size, 1, none⟩), .slice A1 (bd 10000 n).length c1, .int .i64 ((bd 10000 n).length : Int), .bool false, .pointer (some ⟨w.heap.size, 1, none⟩), .slice A1 (bd 10000 n).length c1,
          .func (.func 137) #[] #[.pointer (some ⟨w.heap.size + 1 + 1, 0, none⟩)], .int .i64 ((x.1 : Nat) : Int), .int .i64 (rd (bd 10000 n) ((x.1 : Nat) : Int)), undef, undef, undef, undef, undef, undef, undef, undef, undef, undef, undef, undef, undef, undef, undef, undef, undef, undef, undef, undef, undef, undef, undef, undef, undef], defers := [] }) ?assign ?body ?done ?stop
    case assign =>
      intro l x W K hK
      simp only [encB]
      gi_wp2
      exact hK
    case body =>
      rintro l pre x W ⟨hS', hpl0⟩ hpl
      have hx2 : rd (bd 10000 n) ((x.1 : Nat) : Int) = ((n / 10000 ^ x.1 % 10000 : Nat) : Int) := rd_bd n x.1
      have hd := Nat.mod_lt (n / 10000 ^ x.1) (show 10000 > 0 by omega)
      have hsn := sb_snoc n pre x
      unfold grp at hsn
      have hxl := x.2
      obtain ⟨p, hp⟩ : ∃ p : Nat, x.1 = p := ⟨_, rfl⟩
      rw [hx2]
      rw [hp] at hsn hd hxl ⊢
      generalize n / 10000 ^ p % 10000 = d at *
      have hsl := sb_len n pre
      have HSN := Aside0.mk hsn
      have HD := Aside0.mk hd
      have HSL : Aside0 ((sb n pre).length ≤ 4000) := ⟨by have := HLA.out; omega⟩
      have HPL : Aside0 ((pre ++ [x]).length ≤ GL n) := ⟨by rw [List.length_append, List.length_singleton]; have h3 : pre.length < GL n := hpl; omega⟩
      have HS' := Aside0.mk hS'
      clear hsn hd hsl hx2
      generalize sb n pre = bs at *
      have hsub : IntKind.i64.wrap (((bd 10000 n).length : Int) - 1) = ((bd 10000 n).length : Int) - 1 := IntWalk.i64_in _ (by omega)
      obtain ⟨c0, c2, f0, f2⟩ := pair_facts hS'.xb
      gi_wp2_with fail
      refine ⟨trivial, (CallsIn.inRound l (callsIn_wide.2 (itoa_calls d W HD.out (HT.out.below hS'.bl (Nat.le_refl _))))).mono ?_⟩
      rintro e W3 ⟨rfl, hb3⟩
      have hS3 := hS'.below hb3
      have HB3 := Aside0.mk hb3
      have HS3 := Aside0.mk hS3
      obtain ⟨c0, c2, f0, f2⟩ := pair_facts hS3.xb
      clear hb3 hS3 hS'
      have hl4 := dec_len4 HD.out
      obtain ⟨ds, hds⟩ : ∃ ds, Lib.decDigits d = ds := ⟨_, rfl⟩
      rw [hds] at hl4 ⊢
      have HDS := Aside0.mk hds
      have HL4 := Aside0.mk hl4
      clear hds
      have hsub2 : IntKind.i64.wrap (4 - (ds.length : Int)) = 4 - (ds.length : Int) := IntWalk.i64_in _ (by omega)
      by_cases hpt : p < GL n - 1
      · have hlt : (p : Int) < ((bd 10000 n).length : Int) - 1 := by unfold GL at hpt; omega
        have b1 : decide ((p : Int) < ((bd 10000 n).length : Int) - 1) = true := decide_eq_true hlt
        rw [if_pos hpt] at HSN
        have HLT := Aside0.mk hpt
        clear hpt hlt
        gi_wp2_with fail
        have hc := repeat_calls (4 - ds.length) W3 (by omega)
        rw [show ((4 - ds.length : Nat) : Int) = 4 - (ds.length : Int) by omega] at hc
        refine ⟨trivial, (CallsIn.inRound l (callsIn_wide.2 hc)).mono ?_⟩
        clear hc
        rintro e W4 ⟨rfl, hb4⟩
        have hS4 := HS3.out.below hb4
        obtain ⟨c0, c2, f0, f2⟩ := pair_facts hS4.xb
        have HB4 := Aside0.mk (HB3.out.trans (hb4.mono HB3.out.size))
        have HS4 := Aside0.mk hS4
        have HRL := Aside0.mk (by rw [Lib.repeatL_length]; simp : (Lib.repeatL [48] (4 - ds.length)).length ≤ 4)
        clear hb4 hS4 HB3 HS3
        gi_wp2_with fail
        · rename_i hbad
          exact absurd hbad (by have := HRL.out; have := HL4.out; omega)
        · refine ⟨trivial, (CallsIn.inRound l (callsIn_wide.2 (write_calls HS4.out _ (by rw [Lib.size_eq, data_append]; have := HSL.out; have := HRL.out; have := HL4.out; simp only [List.length_append]; omega)))).mono ?_⟩
          rintro e W5 ⟨v5, rfl, hS5, hk5, hkb5⟩
          rw [data_append] at hS5
          have HS5 := Aside0.mk hS5
          have HK5 := Aside0.mk hk5
          have HKB5 := Aside0.mk hkb5
          clear hS5 hk5 hkb5
          gi_wp2_with fail
          exact ⟨(others_of_below HB4.out).trans HK5.out, (KB.of_below HB4.out HS'.out.bl.size (by have := HS'.out.sz; omega)).trans HKB5.out, by rw [HSN.out, pad4, HDS.out]; exact HS5.out, HPL.out⟩
      · have hlt : ¬ (p : Int) < ((bd 10000 n).length : Int) - 1 := by unfold GL at hpt; omega
        have b1 : decide ((p : Int) < ((bd 10000 n).length : Int) - 1) = false := decide_eq_false hlt
        rw [if_neg hpt] at HSN
        clear hpt hlt
        gi_wp2_with fail
        refine ⟨trivial, (CallsIn.inRound l (callsIn_wide.2 (write_calls HS3.out ⟨ds.toArray⟩ (by have := HSL.out; show bs.length + ds.length ≤ _; omega)))).mono ?_⟩
        rintro e W5 ⟨v5, rfl, hS5, hk5, hkb5⟩
        have HS5 := Aside0.mk hS5
        have HK5 := Aside0.mk hk5
        have HKB5 := Aside0.mk hkb5
        clear hS5 hk5 hkb5
        gi_wp2_with fail
        exact ⟨(others_of_below HB3.out).trans HK5.out, (KB.of_below HB3.out HS'.out.bl.size (by have := HS'.out.sz; omega)).trans HKB5.out, by rw [HSN.out, HDS.out]; exact HS5.out, HPL.out⟩
    case done =>
      rintro D ys W hD rfl ⟨hS', hpl0⟩ hK
      rw [sb_all HN.out] at hS'
      have HS' := Aside0.mk hS'
      clear hS' hpl0
      gi_wp2_with fail
      refine ⟨trivial, (callsIn_wide.2 (Tryz.Builder_String_any_k (w.heap.size + 1) (w.heap.size + 1) (Lib.decDigits n) W HS'.out.ob (by have := HS'.out.sz; omega))).mono ?_⟩
      rintro e W4 ⟨rfl, hb4, hbl4, ho4⟩
      obtain ⟨ds, hds⟩ : ∃ ds, Lib.decDigits n = ds := ⟨_, rfl⟩
      rw [hds]
      have hK4 : W4.heap[D]? = some (.deferred (some [])) := ho4 _ _ hK (by intro e; injection e with e; have hx := HS'.out.ob; subst e; rcases hx with h1 | h1 <;> (obtain ⟨_, v1, hv1, _⟩ := h1; rw [hK] at hv1; cases hv1)) (by intro c fz e; cases e)
      have hxb4 := (hbl4.block _ (Nat.lt_succ_self _)).trans HS'.out.xb
      obtain ⟨c0, c2, f0, f2⟩ := pair_facts hxb4
      have HDS := Aside0.mk hds
      have HK4 := Aside0.mk hK4
      have HBL := Aside0.mk (HS'.out.bl.trans (hbl4.mono (Nat.le_succ _)))
      have HDD := Aside0.mk hD
      clear hb4 hbl4 ho4 hK4 hds
      have hend := text_end HX.out HN.out HDS.out
      rcases Nat.lt_or_ge 200 ds.length with hl | hl
      · have e1 : decide (200 < (ds.length : Int)) = true := decide_eq_true (by omega)
        have e2 : decide (200 < ds.length) = true := decide_eq_true hl
        have HE := Aside0.mk (hend.1 hl)
        clear hend hl
        gi_wp2_with fail
        refine ⟨by simp, .inl ⟨_, _, rfl, run_takeDeferred HK4.out, ?_⟩⟩
        refine ⟨.tuple #[.string ⟨#[]⟩, .int .i64 30], ?_, by rw [HE.out], HBL.out.trans (belowK_b (w := w) (Nat.le_refl _) _ D _ _ (by have := HDD.out; omega) HK4.out rfl rfl)⟩
        simp [results, Tryz.f82, go_sem]
      · have e1 : decide (200 < (ds.length : Int)) = false := decide_eq_false (by omega)
        have e2 : decide (200 < ds.length) = false := decide_eq_false (by omega)
        have HL := Aside0.mk hl
        have HE := Aside0.mk (hend.2 hl)
        clear hend hl
        cases b
        · gi_wp2_with fail
          refine ⟨by simp, .inl ⟨_, _, rfl, run_takeDeferred HK4.out, ?_⟩⟩
          refine ⟨.tuple #[.string ⟨ds.toArray⟩, .int .i64 0], ?_, by rw [HE.out]; rfl, HBL.out.trans (belowK_b (w := w) (Nat.le_refl _) _ D _ _ (by have := HDD.out; omega) HK4.out rfl rfl)⟩
          simp [results, Tryz.f82, go_sem]
        · gi_wp2_with fail
          · rename_i hbad
            exact absurd hbad (by have := HL.out; omega)
          · refine ⟨by simp, .inl ⟨_, _, rfl, run_takeDeferred HK4.out, ?_⟩⟩
            refine ⟨.tuple #[.string (⟨#[45]⟩ ++ ⟨ds.toArray⟩), .int .i64 0], ?_, by rw [HE.out, show ((⟨#[45]⟩ : ByteArray) ++ ⟨ds.toArray⟩) = ⟨(45 :: ds).toArray⟩ from ba_of (data_append [45] ds)]; rfl, HBL.out.trans (belowK_b (w := w) (Nat.le_refl _) _ D _ _ (by have := HDD.out; omega) HK4.out rfl rfl)⟩
            simp [results, Tryz.f82, go_sem]
    case stop =>
      rintro D c pre W _ _ h _
      exact h.elim

end Go.Proofs.YtnhjidbjibehpaaGreatDoor.L3

/- Layer 3, walked: signed.plus, one, FromInt. -/
namespace Go.Proofs.YtnhjidbjibehpaaGreatDoor.L3
open Go.Shelf Go.RowKit Go.Proofs.YtnhjidbjibehpaaGreatDoorW.PrintWords Go.Proofs.YtnhjidbjibehpaaGreatDoorW.PrintLast Go.Proofs.YtnhjidbjibehpaaGreatDoorW.PrintMore Yd
set_option linter.unusedVariables false
set_option linter.unusedSimpArgs false
attribute [local go_sem ↓] Go.wp_at_zero Go.wp_at_succ

theorem cell_far2 {W : World} {A B i : Nat} {v x y : Value} (h : W.cell? ⟨A, i, none⟩ = some v) (hne : A ≠ B) : ((W.setCell ⟨B, 0, none⟩ x).setCell ⟨B, 1, none⟩ y).cell? ⟨A, i, none⟩ = some v :=
  (World.cell?_of_block (w := W) (a := ⟨A, i, none⟩) ((Below.heap_setCell _ ⟨B, 1, none⟩ y A hne).trans (Below.heap_setCell _ ⟨B, 0, none⟩ x A hne))).trans h
/-- two numbers' boxes and the result's -/
structure PB3 (w W : World) (a b : Array Value) : Prop where
  bl : Below w.heap.size w W
  p0 : W.heap[w.heap.size]? = some (.cells a 100)
  p1 : W.heap[w.heap.size + 1]? = some (.cells b 100)
  p2 : W.heap[w.heap.size + 1 + 1]? = some (.cells #[.bool false, .slice none 0 0] 100)
theorem PB3.start (w : World) (a b : Array Value) : PB3 w (((w.alloc (.cells a 100)).alloc (.cells b 100)).alloc (.cells #[.bool false, .slice none 0 0] 100)) a b := by
  have h1 := alloc_here w (.cells a 100)
  generalize hW1 : w.alloc (.cells a 100) = W1 at *
  have s1 : W1.heap.size = w.heap.size + 1 := by rw [← hW1, World.size_alloc]
  have b1 : Below w.heap.size w W1 := by rw [← hW1]; exact below_alloc (Below.refl _ w) _
  have h2 := alloc_here W1 (.cells b 100)
  generalize hW2 : W1.alloc (.cells b 100) = W2 at *
  have s2 : W2.heap.size = w.heap.size + 2 := by rw [← hW2, World.size_alloc, s1]
  have b2 : Below W1.heap.size W1 W2 := by rw [← hW2]; exact below_alloc (Below.refl _ W1) _
  have b3 : Below W2.heap.size W2 (W2.alloc (.cells #[.bool false, .slice none 0 0] 100)) := below_alloc (Below.refl _ W2) _
  refine ⟨b1.trans ((b2.trans (b3.mono (by omega))).mono (by omega)), (b3.block _ (by omega)).trans ((b2.block _ (by omega)).trans h1), ?_, ?_⟩
  · refine (b3.block _ (by omega)).trans ?_
    rw [show w.heap.size + 1 = W1.heap.size by omega]; exact h2
  · rw [show w.heap.size + 1 + 1 = W2.heap.size by omega]; exact alloc_here W2 _
theorem PB3.next {w W W' : World} {a b : Array Value} (h : PB3 w W a b) (hb : Below W.heap.size W W') : PB3 w W' a b :=
  ⟨h.bl.trans (hb.mono h.bl.size), (hb.block _ (blk_lt h.p0)).trans h.p0, (hb.block _ (blk_lt h.p1)).trans h.p1, (hb.block _ (blk_lt h.p2)).trans h.p2⟩
theorem PB3.sets {w W : World} {a b : Array Value} (h : PB3 w W a b) (c : Bool) (A : Option Addr) (l k : Nat) (W' : World) (e : W' = (W.setCell ⟨w.heap.size + 1 + 1, 0, none⟩ (.bool c)).setCell ⟨w.heap.size + 1 + 1, 1, none⟩ (.slice A l k)) :
    Below w.heap.size w W' ∧ W'.heap[w.heap.size + 1 + 1]? = some (.cells #[.bool c, .slice A l k] 100) ∧ (∀ v n, Nm W v n → Nm W' v n) := by
  subst e
  refine ⟨(h.bl.setCell (p := ⟨w.heap.size + 1 + 1, 0, none⟩) (by show _ ≤ w.heap.size + 1 + 1; omega) _).setCell (p := ⟨w.heap.size + 1 + 1, 1, none⟩) (by show _ ≤ w.heap.size + 1 + 1; omega) _, blk_set (blk_set h.p2 0 (.bool c)) 1 _, fun v n hn => ?_⟩
  exact Nm.setPair (i := 1) (Nm.setPair (i := 0) hn h.p2 (.bool c)) (blk_set h.p2 0 (.bool c)) _

theorem splus_end {w W W' : World} {a b : Array Value} {c : Bool} {A : Option Addr} {l k n : Nat} {z : Int} (h : PB3 w W a b) (hn : Nm W (.slice A l k) n) (hz : z = if c then -(n : Int) else (n : Int))
    (e : W' = (W.setCell ⟨w.heap.size + 1 + 1, 0, none⟩ (.bool c)).setCell ⟨w.heap.size + 1 + 1, 1, none⟩ (.slice A l k)) :
    (∃ v, Ending.returned (.agg #[.bool c, .slice A l k]) = .returned v ∧ Sg W' v z ∧ Below w.heap.size w W') ∧ W'.heap[w.heap.size + 1 + 1]? = some (.cells #[.bool c, .slice A l k] 100) := by
  obtain ⟨e1, e2, e3⟩ := h.sets c A l k W' e
  exact ⟨⟨_, rfl, ⟨c, _, n, rfl, e3 _ _ hn, hz⟩, e1⟩, e2⟩

set_option maxRecDepth 100000 in
set_option maxHeartbeats 4000000 in
/-- plus of signed numbers -/
theorem splus_calls (v1 v2 : Value) (x y : Int) (w : World) (h1 : Sg w v1 x) (h2 : Sg w v2 y) (ha : GL x.natAbs ≤ 900) (hb : GL y.natAbs ≤ 900) :
    Calls Tryz.prog 90 #[v1, v2] w fun e w' => ∃ v, e = .returned v ∧ Sg w' v (x + y) ∧ Below w.heap.size w w' := by
  obtain ⟨b1, u1, n1, rfl, hn1, hx⟩ := h1
  obtain ⟨b2, u2, n2, rfl, hn2, hy⟩ := h2
  have hg1 : GL n1 ≤ 1000 := by rw [hx] at ha; split at ha <;> simp at ha <;> omega
  have hg2 : GL n2 ≤ 1000 := by rw [hy] at hb; split at hb <;> simp at hb <;> omega
  obtain ⟨A1, c1, rfl, hn1'⟩ := id hn1
  obtain ⟨A2, c2, rfl, hn2'⟩ := id hn2
  have HN1 := Aside0.mk hn1
  have HN2 := Aside0.mk hn2
  have HG1 := Aside0.mk hg1
  have HG2 := Aside0.mk hg2
  clear hn1 hn2 hn1' hn2' hg1 hg2 ha hb
  have hp := PB3.start w #[.bool b1, .slice A1 (bd 10000 n1).length c1] #[.bool b2, .slice A2 (bd 10000 n2).length c2]
  go_enter Tryz.func90, Tryz.ntmps90
  by_cases hbb : b1 = b2
  · subst hbb
    have e1 : (b1 == b1) = true := by simp
    have HZ := Aside0.mk (show x + y = if b1 = true then -((n1 + n2 : Nat) : Int) else ((n1 + n2 : Nat) : Int) by rw [hx, hy]; split <;> omega)
    clear hx hy
    go_wp2_with fail
    generalize (((w.alloc (.cells #[.bool b1, .slice A1 (bd 10000 n1).length c1] 100)).alloc (.cells #[.bool b1, .slice A2 (bd 10000 n2).length c2] 100)).alloc (.cells #[.bool false, .slice none 0 0] 100)) = W0 at *
    have HP0 := Aside0.mk hp
    obtain ⟨c0, c1', f0, f1⟩ := pair_facts hp.p0
    obtain ⟨d0, d1, g0, g1⟩ := pair_facts hp.p1
    obtain ⟨k0, k1, m0, m1⟩ := pair_facts hp.p2
    clear hp
    go_region_held3 (fun w' => w'.cell? ⟨w.heap.size, 0, none⟩ = some (.bool b1) ∧ w'.cell? ⟨w.heap.size, 1, none⟩ = some (.slice A1 (bd 10000 n1).length c1) ∧ w'.cell? ⟨w.heap.size + 1, 0, none⟩ = some (.bool b1) ∧ w'.cell? ⟨w.heap.size + 1, 1, none⟩ = some (.slice A2 (bd 10000 n2).length c2)) (first | exact ⟨c0, c1', d0, d1⟩ | exact ⟨cell_far2 c0 (by omega), cell_far2 c1' (by omega), cell_far2 d0 (by omega), cell_far2 d1 (by omega)⟩ | go_keep) (first | (go_at_call 86; refine (nplus_calls _ _ n1 n2 _ (Nm.below HN1.out (below_drew HP0.out.bl)) (Nm.below HN2.out (below_drew HP0.out.bl)) HG1.out HG2.out).mono ?_; rintro e W3 ⟨v3, rfl, hn3, hb3⟩; obtain ⟨A3, c3, rfl, hn3'⟩ := id hn3; have hp := PB3.next (W := W0.drew) (W' := W3) ⟨below_drew HP0.out.bl, HP0.out.p0, HP0.out.p1, HP0.out.p2⟩ hb3; have HP := Aside0.mk hp; obtain ⟨c0, c1', f0, f1⟩ := pair_facts hp.p0; obtain ⟨d0, d1, g0, g1⟩ := pair_facts hp.p1; obtain ⟨k0, k1, m0, m1⟩ := pair_facts hp.p2; have HN3 := Aside0.mk hn3; clear hn3 hn3' hb3 hp))
    all_goals
      obtain ⟨E1, E2⟩ := splus_end HP.out HN3.out HZ.out rfl
      have HE1 := Aside0.mk E1
      have HE2 := Aside0.mk E2
      clear E1 E2
      go_wp2_with fail
      refine bodyPost_ret (results_single rfl (.cell (w.heap.size + 1 + 1) 100 _ (0, 0) _ rfl HE2.out Tryz.underlying100 rfl (by kernel_rfl) .nil)) rfl ?_
      exact HE1.out
  · have e1 : (b1 == b2) = false := by simpa using hbb
    go_wp2_with fail
    generalize (((w.alloc (.cells #[.bool b1, .slice A1 (bd 10000 n1).length c1] 100)).alloc (.cells #[.bool b2, .slice A2 (bd 10000 n2).length c2] 100)).alloc (.cells #[.bool false, .slice none 0 0] 100)) = Wz at *
    have HPz := Aside0.mk hp
    clear hp
    refine (ncmp_calls _ _ n1 n2 _ (Nm.below HN1.out HPz.out.bl) (Nm.below HN2.out HPz.out.bl) HG1.out HG2.out).mono ?_
    rintro e W0 ⟨rfl, hb0⟩
    have hp := HPz.out.next hb0
    have HP0 := Aside0.mk hp
    obtain ⟨c0, c1', f0, f1⟩ := pair_facts hp.p0
    obtain ⟨d0, d1, g0, g1⟩ := pair_facts hp.p1
    obtain ⟨k0, k1, m0, m1⟩ := pair_facts hp.p2
    clear hp hb0 HPz
    by_cases hle : n2 ≤ n1
    · have e2 : decide (0 ≤ cmpI (n1 : Int) (n2 : Int)) = true := decide_eq_true (by unfold cmpI; split <;> (try split) <;> omega)
      have HLE := Aside0.mk hle
      have HZ := Aside0.mk (show x + y = if b1 = true then -((n1 - n2 : Nat) : Int) else ((n1 - n2 : Nat) : Int) by rw [hx, hy]; cases b1 <;> cases b2 <;> simp at hbb ⊢ <;> omega)
      clear hx hy hle hbb
      generalize cmpI (n1 : Int) (n2 : Int) = cc at *
      go_wp2_with fail
      go_region_held3 (fun w' => w'.cell? ⟨w.heap.size, 0, none⟩ = some (.bool b1) ∧ w'.cell? ⟨w.heap.size, 1, none⟩ = some (.slice A1 (bd 10000 n1).length c1) ∧ w'.cell? ⟨w.heap.size + 1, 0, none⟩ = some (.bool b2) ∧ w'.cell? ⟨w.heap.size + 1, 1, none⟩ = some (.slice A2 (bd 10000 n2).length c2)) (first | exact ⟨c0, c1', d0, d1⟩ | exact ⟨cell_far2 c0 (by omega), cell_far2 c1' (by omega), cell_far2 d0 (by omega), cell_far2 d1 (by omega)⟩ | go_keep) (first | (go_at_call 88; refine (nminus_calls _ _ n1 n2 _ (Nm.below HN1.out (below_drew HP0.out.bl)) (Nm.below HN2.out (below_drew HP0.out.bl)) HG1.out HLE.out).mono ?_; rintro e W3 ⟨v3, rfl, hn3, hb3⟩; obtain ⟨A3, c3, rfl, hn3'⟩ := id hn3; have hp := PB3.next (W := W0.drew) (W' := W3) ⟨below_drew HP0.out.bl, HP0.out.p0, HP0.out.p1, HP0.out.p2⟩ hb3; have HP := Aside0.mk hp; obtain ⟨c0, c1', f0, f1⟩ := pair_facts hp.p0; obtain ⟨d0, d1, g0, g1⟩ := pair_facts hp.p1; obtain ⟨k0, k1, m0, m1⟩ := pair_facts hp.p2; have HN3 := Aside0.mk hn3; clear hn3 hn3' hb3 hp))
      all_goals
        obtain ⟨E1, E2⟩ := splus_end HP.out HN3.out HZ.out rfl
        have HE1 := Aside0.mk E1
        have HE2 := Aside0.mk E2
        clear E1 E2
        go_wp2_with fail
        refine bodyPost_ret (results_single rfl (.cell (w.heap.size + 1 + 1) 100 _ (0, 0) _ rfl HE2.out Tryz.underlying100 rfl (by kernel_rfl) .nil)) rfl ?_
        exact HE1.out
    · have e2 : decide (0 ≤ cmpI (n1 : Int) (n2 : Int)) = false := decide_eq_false (by unfold cmpI; split <;> (try split) <;> omega)
      have HLE : Aside0 (n1 ≤ n2) := ⟨by omega⟩
      have HZ := Aside0.mk (show x + y = if b2 = true then -((n2 - n1 : Nat) : Int) else ((n2 - n1 : Nat) : Int) by rw [hx, hy]; cases b1 <;> cases b2 <;> simp at hbb ⊢ <;> omega)
      clear hx hy hle hbb
      generalize cmpI (n1 : Int) (n2 : Int) = cc at *
      go_wp2_with fail
      go_region_held3 (fun w' => w'.cell? ⟨w.heap.size, 0, none⟩ = some (.bool b1) ∧ w'.cell? ⟨w.heap.size, 1, none⟩ = some (.slice A1 (bd 10000 n1).length c1) ∧ w'.cell? ⟨w.heap.size + 1, 0, none⟩ = some (.bool b2) ∧ w'.cell? ⟨w.heap.size + 1, 1, none⟩ = some (.slice A2 (bd 10000 n2).length c2)) (first | exact ⟨c0, c1', d0, d1⟩ | exact ⟨cell_far2 c0 (by omega), cell_far2 c1' (by omega), cell_far2 d0 (by omega), cell_far2 d1 (by omega)⟩ | go_keep) (first | (go_at_call 88; refine (nminus_calls _ _ n2 n1 _ (Nm.below HN2.out (below_drew HP0.out.bl)) (Nm.below HN1.out (below_drew HP0.out.bl)) HG2.out HLE.out).mono ?_; rintro e W3 ⟨v3, rfl, hn3, hb3⟩; obtain ⟨A3, c3, rfl, hn3'⟩ := id hn3; have hp := PB3.next (W := W0.drew) (W' := W3) ⟨below_drew HP0.out.bl, HP0.out.p0, HP0.out.p1, HP0.out.p2⟩ hb3; have HP := Aside0.mk hp; obtain ⟨c0, c1', f0, f1⟩ := pair_facts hp.p0; obtain ⟨d0, d1, g0, g1⟩ := pair_facts hp.p1; obtain ⟨k0, k1, m0, m1⟩ := pair_facts hp.p2; have HN3 := Aside0.mk hn3; clear hn3 hn3' hb3 hp))
      all_goals
        obtain ⟨E1, E2⟩ := splus_end HP.out HN3.out HZ.out rfl
        have HE1 := Aside0.mk E1
        have HE2 := Aside0.mk E2
        clear E1 E2
        go_wp2_with fail
        refine bodyPost_ret (results_single rfl (.cell (w.heap.size + 1 + 1) 100 _ (0, 0) _ rfl HE2.out Tryz.underlying100 rfl (by kernel_rfl) .nil)) rfl ?_
        exact HE1.out

set_option maxRecDepth 100000 in
set_option maxHeartbeats 4000000 in
theorem one_nm {w w' : World} {v : Value} (h : (Kd.int IntKind.i64).R 3 w' w.heap.size (fun x => True) v [1]) : Nm w' v 1 := by
  obtain ⟨A, c, rfl, hc, hC⟩ := Kd.R_reads h
  exact ⟨A, c, by rw [show bd 10000 1 = [1] by simp [bd]], by rw [show bd 10000 1 = [1] by simp [bd]]; exact hc, by rw [show bd 10000 1 = [1] by simp [bd]]; exact Kd.reads_of_C (enc := Value.int .i64) (d := (0 : Int)) (h1 := fun _ => rfl) hC⟩
/-- one -/
theorem one_calls (w : World) : Calls Tryz.prog 87 #[] w fun e w' => ∃ v, e = .returned v ∧ Nm w' v 1 ∧ Below w.heap.size w w' :=
  (Ref.integer_one.calls _ w rfl).mono (by
    rintro e w' ⟨v, rfl, h⟩
    exact ⟨v, rfl, one_nm h.1, h.2⟩)

set_option maxRecDepth 100000 in
set_option maxHeartbeats 4000000 in
/-- FromInt -/
theorem fromInt_calls (n : Int) (w : World) (h0 : -9223372036854775808 ≤ n) (h1 : n ≤ 9223372036854775807) (hT : Tab w) : Calls Tryz.prog 72 #[.int .i64 n] w fun e w' => e = .returned (.string ⟨(Lib.itoa n).toArray⟩) ∧ Below w.heap.size w w' := by
  go_enter Tryz.func72, Tryz.ntmps72
  go_wp2_with fail
  refine (Tryz.strconv_Itoa n h0 h1 w hT).mono ?_
  rintro e w' ⟨rfl, k, os, rfl⟩
  have HB := Aside0.mk (bgrow w k os)
  generalize Go.Sort.grow (w.drewN k) os = w1 at *
  go_wp2_with fail
  go_ret
  exact ⟨rfl, HB.out⟩

end Go.Proofs.YtnhjidbjibehpaaGreatDoor.L3

/- Layer 3, walked: Add, Sub, Mul, Compare. -/
namespace Go.Proofs.YtnhjidbjibehpaaGreatDoor.L3
open Go.Shelf Go.RowKit Go.Proofs.YtnhjidbjibehpaaGreatDoorW.PrintWords Go.Proofs.YtnhjidbjibehpaaGreatDoorW.PrintLast Go.Proofs.YtnhjidbjibehpaaGreatDoorW.PrintMore Yd
set_option linter.unusedVariables false
set_option linter.unusedSimpArgs false

def bad2 : Value := .tuple #[.string ⟨#[]⟩, .int .i64 30]
/-- what an operation on two integers returns -/
def bin (f : Int → Int → Int) (s t : List UInt8) : Value := match ival s, ival t with
  | some x, some y => tres (f x y)
  | _, _ => bad2
theorem bin_no {f : Int → Int → Int} {s t : List UInt8} (h : ival s = none ∨ ival t = none) : bin f s t = bad2 := by
  unfold bin
  rcases h with h | h
  · rw [h]
  · rw [h]; cases ival s <;> rfl
theorem bin_yes {f : Int → Int → Int} {s t : List UInt8} {x y : Int} (h1 : ival s = some x) (h2 : ival t = some y) : bin f s t = tres (f x y) := by
  unfold bin; rw [h1, h2]
theorem GL_DL {n : Nat} (h : n < DL) : GL n ≤ 50 := by
  apply GL_lt
  rw [DL_eq, show 200 = 4 * 50 from rfl, Nat.pow_mul] at h
  exact h
theorem GL_ival {s : List UInt8} {x : Int} (h : ival s = some x) : GL x.natAbs ≤ 50 := GL_DL (ival_iff.1 h).2
theorem ival_cases (s t : List UInt8) : (ival s = none ∨ ival t = none) ∨ ∃ x y, ival s = some x ∧ ival t = some y := by
  cases h1 : ival s with
  | none => exact .inl (.inl rfl)
  | some x => cases h2 : ival t with
    | none => exact .inl (.inr rfl)
    | some y => exact .inr ⟨x, y, rfl, rfl⟩

theorem tres_tuple (z : Int) : ∃ r e, tres z = .tuple #[.string r, .int .i64 e] := by
  unfold tres; split <;> exact ⟨_, _, rfl⟩
theorem GL_add {x y : Int} (h1 : GL x.natAbs ≤ 50) (h2 : GL y.natAbs ≤ 50) : GL (x + y).natAbs ≤ 51 := by
  apply GL_lt
  have a := lt_pow_GL h1
  have b := lt_pow_GL h2
  rw [Nat.pow_succ]
  generalize 10000 ^ 50 = p at *
  omega
theorem GL_sub {x y : Int} (h1 : GL x.natAbs ≤ 50) (h2 : GL y.natAbs ≤ 50) : GL (x - y).natAbs ≤ 51 := by
  apply GL_lt
  have a := lt_pow_GL h1
  have b := lt_pow_GL h2
  rw [Nat.pow_succ]
  generalize 10000 ^ 50 = p at *
  omega
theorem GL_mulI {x y : Int} (h1 : GL x.natAbs ≤ 50) (h2 : GL y.natAbs ≤ 50) : GL (x * y).natAbs ≤ 100 := by
  apply GL_lt
  have a := lt_pow_GL h1
  have b := lt_pow_GL h2
  rw [Int.natAbs_mul, show 100 = 50 + 50 from rfl, Nat.pow_add]
  exact Nat.mul_lt_mul_of_lt_of_le a (Nat.le_of_lt b) (Nat.pow_pos (by omega))
theorem alloc2 {w w1 : World} (h : Below w.heap.size w w1) (o o' : Obj) : Below w.heap.size w ((w1.alloc o).alloc o') := below_alloc (below_alloc h o) o'
theorem alloc2' (w1 : World) (o o' : Obj) : Below w1.heap.size w1 ((w1.alloc o).alloc o') := below_alloc (below_alloc (Below.refl _ w1) o) o'

structure PBx (w W : World) (a b : Array Value) : Prop where
  bl : Below w.heap.size w W
  p0 : W.heap[w.heap.size]? = some (.cells a 100)
  p1 : W.heap[w.heap.size + 1]? = some (.cells b 100)
theorem PBx.start (w : World) (a b : Array Value) : PBx w ((w.alloc (.cells a 100)).alloc (.cells b 100)) a b := by
  refine ⟨alloc2' w _ _, ?_, ?_⟩
  · exact (alloc_old _ _ (by rw [World.size_alloc]; omega)).trans (alloc_here w _)
  · have := alloc_here (w.alloc (.cells a 100)) (.cells b 100)
    rwa [World.size_alloc] at this
theorem PBx.next {w W W' : World} {a b : Array Value} (h : PBx w W a b) (hb : Below W.heap.size W W') : PBx w W' a b :=
  ⟨h.bl.trans (hb.mono h.bl.size), (hb.block _ (blk_lt h.p0)).trans h.p0, (hb.block _ (blk_lt h.p1)).trans h.p1⟩
theorem Sg.negate {w : World} {b : Bool} {u : Value} {x : Int} (h : Sg w (.agg #[.bool b, u]) x) : Sg w (.agg #[.bool (!b), u]) (-x) := by
  obtain ⟨b', u', n, e, h2, h3⟩ := h
  injection e with e
  obtain ⟨rfl, rfl⟩ : b = b' ∧ u = u' := by
    simp at e; exact e
  refine ⟨!b, u, n, rfl, h2, ?_⟩
  rw [h3]; cases b <;> simp

set_option maxRecDepth 100000 in
set_option maxHeartbeats 4000000 in
/-- Add -/
theorem add_calls (s t : ByteArray) (w : World) (hT : Tab w) :
    Calls Tryz.prog 62 #[.string s, .string t] w fun e w' => e = .returned (bin (· + ·) s.data.toList t.data.toList) ∧ Below w.heap.size w w' := by
  have HT := Aside0.mk hT
  clear hT
  go_enter Tryz.func62, Tryz.ntmps62
  go_wp2_with fail
  rcases ival_cases s.data.toList t.data.toList with h | ⟨x, y, h1, h2⟩
  · refine (both_no s t _ h).mono ?_
    rintro e w1 ⟨rfl, hb⟩
    have HE := Aside0.mk (bin_no (f := (· + ·)) h)
    have HB := Aside0.mk hb
    clear hb h
    go_wp2_with fail
    go_ret2
    exact ⟨by rw [HE.out]; rfl, alloc2 HB.out _ _⟩
  · refine (both_yes s t x y _ h1 h2).mono ?_
    rintro e w1 ⟨v, v', rfl, hx, hy, hb⟩
    have HE := Aside0.mk (bin_yes (f := (· + ·)) h1 h2)
    have HB := Aside0.mk hb
    have HX := Aside0.mk hx.sg
    have HY := Aside0.mk hy.sg
    have HGX := Aside0.mk (GL_ival h1)
    have HGY := Aside0.mk (GL_ival h2)
    obtain ⟨r, er, hr⟩ := tres_tuple ((· + ·) x y)
    have HR := Aside0.mk hr
    obtain ⟨b1, A1, l1, c1, rfl⟩ := hx.agg
    obtain ⟨b2, A2, l2, c2, rfl⟩ := hy.agg
    clear hb h1 h2 hx hy hr
    go_wp2_with fail
    refine (splus_calls _ _ x y _ (HX.out.below (alloc2' w1 _ _)) (HY.out.below (alloc2' w1 _ _)) (Nat.le_trans HGX.out (by omega)) (Nat.le_trans HGY.out (by omega))).mono ?_
    rintro e W3 ⟨v3, rfl, hs3, hb3⟩
    have HB3 := Aside0.mk ((alloc2' w1 _ _).trans (hb3.mono (alloc2' w1 _ _).size))
    have HS3 := Aside0.mk hs3
    clear hs3 hb3
    go_wp2_with fail
    refine (text_calls _ (x + y) _ HS3.out (HT.out.below (HB.out.trans (HB3.out.mono HB.out.size)) (Nat.le_refl _)) (Nat.le_trans (GL_add HGX.out HGY.out) (by omega))).mono ?_
    rintro e W4 ⟨rfl, hb4⟩
    rw [HR.out]
    have HB4 := Aside0.mk (HB.out.trans ((HB3.out.trans (hb4.mono HB3.out.size)).mono HB.out.size))
    clear hb4
    go_wp2_with fail
    go_ret2
    exact ⟨by rw [HE.out, HR.out]; rfl, HB4.out⟩

set_option maxRecDepth 100000 in
set_option maxHeartbeats 4000000 in
/-- Sub -/
theorem sub_calls (s t : ByteArray) (w : World) (hT : Tab w) :
    Calls Tryz.prog 73 #[.string s, .string t] w fun e w' => e = .returned (bin (· - ·) s.data.toList t.data.toList) ∧ Below w.heap.size w w' := by
  have HT := Aside0.mk hT
  clear hT
  go_enter Tryz.func73, Tryz.ntmps73
  go_wp2_with fail
  rcases ival_cases s.data.toList t.data.toList with h | ⟨x, y, h1, h2⟩
  · refine (both_no s t _ h).mono ?_
    rintro e w1 ⟨rfl, hb⟩
    have HE := Aside0.mk (bin_no (f := (· - ·)) h)
    have HB := Aside0.mk hb
    clear hb h
    go_wp2_with fail
    go_ret2
    exact ⟨by rw [HE.out]; rfl, alloc2 HB.out _ _⟩
  · refine (both_yes s t x y _ h1 h2).mono ?_
    rintro e w1 ⟨v, v', rfl, hx, hy, hb⟩
    have HE := Aside0.mk (bin_yes (f := (· - ·)) h1 h2)
    have HB := Aside0.mk hb
    have HX := Aside0.mk hx.sg
    have HY := Aside0.mk hy.sg
    have HGX := Aside0.mk (GL_ival h1)
    have HGY := Aside0.mk (GL_ival h2)
    obtain ⟨r, er, hr⟩ := tres_tuple ((· - ·) x y)
    have HR := Aside0.mk hr
    obtain ⟨b1, A1, l1, c1, rfl⟩ := hx.agg
    obtain ⟨b2, A2, l2, c2, rfl⟩ := hy.agg
    clear hb h1 h2 hx hy hr
    go_wp2_with fail
    have HYN := Aside0.mk (HY.out.negate)
    refine (splus_calls _ _ x (-y) _ (HX.out.below (alloc2' w1 _ _)) (HYN.out.below (alloc2' w1 _ _)) (Nat.le_trans HGX.out (by omega)) (by rw [Int.natAbs_neg]; exact Nat.le_trans HGY.out (by omega))).mono ?_
    rintro e W3 ⟨v3, rfl, hs3, hb3⟩
    have HB3 := Aside0.mk ((alloc2' w1 _ _).trans (hb3.mono (alloc2' w1 _ _).size))
    rw [show x + -y = x - y by omega] at hs3
    have HS3 := Aside0.mk hs3
    clear hs3 hb3
    go_wp2_with fail
    refine (text_calls _ (x - y) _ HS3.out (HT.out.below (HB.out.trans (HB3.out.mono HB.out.size)) (Nat.le_refl _)) (Nat.le_trans (GL_sub HGX.out HGY.out) (by omega))).mono ?_
    rintro e W4 ⟨rfl, hb4⟩
    rw [HR.out]
    have HB4 := Aside0.mk (HB.out.trans ((HB3.out.trans (hb4.mono HB3.out.size)).mono HB.out.size))
    clear hb4
    go_wp2_with fail
    go_ret2
    exact ⟨by rw [HE.out, HR.out]; rfl, HB4.out⟩

end Go.Proofs.YtnhjidbjibehpaaGreatDoor.L3

/- Layer 3, walked: Mul. -/
namespace Go.Proofs.YtnhjidbjibehpaaGreatDoor.L3
open Go.Shelf Go.RowKit Go.Proofs.YtnhjidbjibehpaaGreatDoorW.PrintWords Go.Proofs.YtnhjidbjibehpaaGreatDoorW.PrintLast Go.Proofs.YtnhjidbjibehpaaGreatDoorW.PrintMore Yd
set_option linter.unusedVariables false
set_option linter.unusedSimpArgs false
attribute [local go_sem ↓] Go.wp_at_zero Go.wp_at_succ

set_option maxRecDepth 100000 in
set_option maxHeartbeats 4000000 in
/-- Mul -/
theorem mul_calls (s t : ByteArray) (w : World) (hT : Tab w) :
    Calls Tryz.prog 89 #[.string s, .string t] w fun e w' => e = .returned (bin (· * ·) s.data.toList t.data.toList) ∧ Below w.heap.size w w' := by
  have HT := Aside0.mk hT
  clear hT
  go_enter Tryz.func89, Tryz.ntmps89
  go_wp2_with fail
  rcases ival_cases s.data.toList t.data.toList with h | ⟨x, y, h1, h2⟩
  · refine (both_no s t _ h).mono ?_
    rintro e w1 ⟨rfl, hb⟩
    have HE := Aside0.mk (bin_no (f := (· * ·)) h)
    have HB := Aside0.mk hb
    clear hb h
    go_wp2_with fail
    go_ret2
    exact ⟨by rw [HE.out]; rfl, alloc2 HB.out _ _⟩
  · refine (both_yes s t x y _ h1 h2).mono ?_
    rintro e w1 ⟨v, v', rfl, hx, hy, hb⟩
    have HE := Aside0.mk (bin_yes (f := (· * ·)) h1 h2)
    have HB := Aside0.mk hb
    have HX := Aside0.mk hx.sg
    have HY := Aside0.mk hy.sg
    have HGX := Aside0.mk (GL_ival h1)
    have HGY := Aside0.mk (GL_ival h2)
    obtain ⟨r, er, hr⟩ := tres_tuple ((· * ·) x y)
    have HR := Aside0.mk hr
    obtain ⟨b1, u1, n1, rfl, hn1, hx1⟩ := hx.sg
    obtain ⟨b2, u2, n2, rfl, hn2, hy1⟩ := hy.sg
    have hg1 : GL n1 ≤ 50 := by have := GL_ival h1; rw [hx1] at this; split at this <;> simpa using this
    have hg2 : GL n2 ≤ 50 := by have := GL_ival h2; rw [hy1] at this; split at this <;> simpa using this
    obtain ⟨A1, c1, rfl, hn1'⟩ := id hn1
    obtain ⟨A2, c2, rfl, hn2'⟩ := id hn2
    have HN1 := Aside0.mk hn1
    have HN2 := Aside0.mk hn2
    have HG1 := Aside0.mk hg1
    have HG2 := Aside0.mk hg2
    have HZ := Aside0.mk (show x * y = if (b1 != b2) = true then -((n1 * n2 : Nat) : Int) else ((n1 * n2 : Nat) : Int) by rw [hx1, hy1]; cases b1 <;> cases b2 <;> simp [Int.neg_mul, Int.mul_neg])
    have hp := PBx.start w1 #[.bool b1, .slice A1 (bd 10000 n1).length c1] #[.bool b2, .slice A2 (bd 10000 n2).length c2]
    clear hb h1 h2 hx1 hy1 hr hn1 hn2 hn1' hn2' hg1 hg2
    go_wp2_with fail
    generalize ((w1.alloc (.cells #[.bool b1, .slice A1 (bd 10000 n1).length c1] 100)).alloc (.cells #[.bool b2, .slice A2 (bd 10000 n2).length c2] 100)) = W0 at *
    have HP0 := Aside0.mk hp
    obtain ⟨c0, c1', f0, f1⟩ := pair_facts hp.p0
    obtain ⟨d0, d1, g0, g1⟩ := pair_facts hp.p1
    clear hp
    go_region_held3 (fun w' => w'.cell? ⟨w1.heap.size, 0, none⟩ = some (.bool b1) ∧ w'.cell? ⟨w1.heap.size, 1, none⟩ = some (.slice A1 (bd 10000 n1).length c1) ∧ w'.cell? ⟨w1.heap.size + 1, 0, none⟩ = some (.bool b2) ∧ w'.cell? ⟨w1.heap.size + 1, 1, none⟩ = some (.slice A2 (bd 10000 n2).length c2)) (first | exact ⟨c0, c1', d0, d1⟩ | go_keep) (first
      | (go_at_call 116; refine (ntimes_calls _ _ n1 n2 _ (Nm.below HN1.out (below_drew HP0.out.bl)) (Nm.below HN2.out (below_drew HP0.out.bl)) (Nat.le_trans HG1.out (by omega)) (Nat.le_trans HG2.out (by omega))).mono ?_; rintro e W3 ⟨v3, rfl, hn3, hb3⟩; obtain ⟨A3, c3, rfl, hn3'⟩ := id hn3; have hp := PBx.next (W := W0.drew) (W' := W3) ⟨below_drew HP0.out.bl, HP0.out.p0, HP0.out.p1⟩ hb3; have HP := Aside0.mk hp; obtain ⟨c0, c1', f0, f1⟩ := pair_facts hp.p0; obtain ⟨d0, d1, g0, g1⟩ := pair_facts hp.p1; have HN3 := Aside0.mk hn3; clear hn3 hn3' hb3 hp)
      | (go_at_call 82; refine (text_calls _ (x * y) _ ⟨b1 != b2, _, n1 * n2, rfl, HN3.out, HZ.out⟩ (HT.out.below (HB.out.trans (HP.out.bl.mono HB.out.size)) (Nat.le_refl _)) (Nat.le_trans (GL_mulI HGX.out HGY.out) (by omega))).mono ?_; rintro e W4 ⟨rfl, hb4⟩; rw [HR.out]; have hp := PBx.next HP.out hb4; obtain ⟨c0, c1', f0, f1⟩ := pair_facts hp.p0; obtain ⟨d0, d1, g0, g1⟩ := pair_facts hp.p1; clear hp; have HB4 := Aside0.mk (HB.out.trans ((HP.out.bl.trans (hb4.mono HP.out.bl.size)).mono HB.out.size)); clear hb4))
    all_goals
      go_wp2_with fail
      go_ret2
      exact ⟨by rw [HE.out, HR.out]; rfl, HB4.out⟩

end Go.Proofs.YtnhjidbjibehpaaGreatDoor.L3

/- Layer 3, walked: the binary search, and the closure that it asks in number.over. -/
namespace Go.Proofs.YtnhjidbjibehpaaGreatDoor.L3
open Go.Shelf Go.RowKit Go.Proofs.YtnhjidbjibehpaaGreatDoorW.PrintWords Go.Proofs.YtnhjidbjibehpaaGreatDoorW.PrintLast Go.Proofs.YtnhjidbjibehpaaGreatDoorW.PrintMore Yd
set_option linter.unusedVariables false
set_option linter.unusedSimpArgs false

set_option maxHeartbeats 4000000 in
set_option maxRecDepth 100000 in
/-- sort.Search: the first place at which the closure says yes. -/
theorem search_calls (g : Nat) (cb : Array Value) (n : Nat) (p : Nat → Bool) (w : World) (eg : ∀ args w, (callFunc g args).run Tryz.prog w = .ok (.enter g args) w) (hsz : n < 100000)
    (hf : ∀ (W : World) (i : Nat), Below w.heap.size w W → i < n → Calls Tryz.prog g (#[.int .i64 i] ++ cb) W fun e w' => e = .returned (.bool (p i)) ∧ Below w.heap.size w w')
    (hmono : ∀ a b, a ≤ b → b < n → p a = true → p b = true) :
    Calls Tryz.prog 110 #[.int .i64 n, .func (.func g) #[] cb] w fun e w' => ∃ r : Nat, e = .returned (.int .i64 r) ∧ r ≤ n ∧ (∀ t, t < r → p t = false) ∧ (∀ t, r ≤ t → t < n → p t = true) ∧ Below w.heap.size w w' := by
  have HF := Aside0.mk hf
  have M := Aside0.mk hmono
  clear hf hmono
  go_enter Tryz.func110, Tryz.ntmps110
  go_wp2
  go_loopg [5, 6] n (fun kx s5 s6 wr => ∃ (lo hi : Nat), s5 = .int .i64 lo ∧ s6 = .int .i64 hi ∧ lo ≤ hi ∧ hi ≤ n ∧ hi - lo ≤ kx ∧ Aside0 (Below w.heap.size w wr) ∧
    Aside0 ((∀ t, t < lo → p t = false) ∧ (∀ t, hi ≤ t → t < n → p t = true)))
  case atStart => exact ⟨0, n, rfl, rfl, Nat.zero_le _, Nat.le_refl _, by omega, ⟨Below.refl _ _⟩, ⟨fun t ht => absurd ht (Nat.not_lt_zero _), fun t h1 h2 => by omega⟩⟩
  case round =>
    obtain ⟨lo, hi, rfl, rfl, hlh, hin, hg, HB, I⟩ := hrel
    by_cases hlt : lo < hi
    · have hc := HF.out wr ((lo + hi) / 2) HB.out (by omega)
      rw [show (((lo + hi) / 2 : Nat) : Int) = ((lo : Int) + (hi : Int)) / 2 by omega] at hc
      cases hp : p ((lo + hi) / 2) <;> rw [hp] at hc
      · have HP := Aside0.mk hp
        have HC := Aside0.mk hc
        clear hp hc
        go_wp2_with fail
        refine HC.out.mono ?_
        rintro e w' ⟨rfl, hb⟩
        have HB' := Aside0.mk hb
        clear hb
        go_wp2_with fail
        go_roundg (hi - ((lo + hi) / 2 + 1))
        case measure => omega
        case rel =>
          have I2 : Aside0 ((∀ t, t < (lo + hi) / 2 + 1 → p t = false) ∧ (∀ t, hi ≤ t → t < n → p t = true)) := ⟨fun t ht => (by
            cases h : p t with
            | false => rfl
            | true => have := M.out t ((lo + hi) / 2) (by omega) (by omega) h; rw [HP.out] at this; cases this), I.out.2⟩
          exact ⟨(lo + hi) / 2 + 1, hi, by rw [show ((lo : Int) + (hi : Int)) / 2 + 1 = (((lo + hi) / 2 + 1 : Nat) : Int) by omega], rfl, by omega, hin, Nat.le_refl _, HB', I2⟩
      · have HP := Aside0.mk hp
        have HC := Aside0.mk hc
        clear hp hc
        go_wp2_with fail
        refine HC.out.mono ?_
        rintro e w' ⟨rfl, hb⟩
        have HB' := Aside0.mk hb
        clear hb
        go_wp2_with fail
        go_roundg ((lo + hi) / 2 - lo)
        case measure => omega
        case rel =>
          have I2 : Aside0 ((∀ t, t < lo → p t = false) ∧ (∀ t, (lo + hi) / 2 ≤ t → t < n → p t = true)) := ⟨I.out.1, fun t ht htn => M.out ((lo + hi) / 2) t ht htn HP.out⟩
          exact ⟨lo, (lo + hi) / 2, rfl, by rw [show ((lo : Int) + (hi : Int)) / 2 = (((lo + hi) / 2 : Nat) : Int) by omega], by omega, by omega, Nat.le_refl _, HB', I2⟩
    · obtain rfl : hi = lo := by omega
      go_wp2
      go_ret
      exact ⟨hi, rfl, hin, I.out.1, I.out.2, HB.out⟩

/-- r < m * (d + 1) -/
def tooMuch (m r d : Nat) : Bool := decide (r < m * (d + 1))
theorem tooMuch_cmp (m r d : Nat) : decide (0 < cmpI ((m * (d + 1) : Nat) : Int) (r : Int)) = tooMuch m r d := by
  unfold tooMuch cmpI
  by_cases h : r < m * (d + 1)
  · rw [if_neg (by omega), if_pos (by omega)]; simp [h]
  · rw [decide_eq_false h]
    by_cases h2 : m * (d + 1) < r
    · rw [if_pos (by omega)]; rfl
    · rw [if_neg (by omega), if_neg (by omega)]; rfl

set_option maxHeartbeats 4000000 in
set_option maxRecDepth 100000 in
theorem over1_calls (m r d Bb Br : Nat) (Am Ar : Option Addr) (cm cr : Nat) (w : World) (hm : Nm w (.slice Am (bd 10000 m).length cm) m) (hr : Nm w (.slice Ar (bd 10000 r).length cr) r) (hgm : GL m ≤ 300) (hgr : GL r ≤ 1000) (hd : d < 9999)
    (hb : w.cell? ⟨Bb, 0, none⟩ = some (.func (.func 108) #[.slice Am (bd 10000 m).length cm] #[])) (hrb : w.cell? ⟨Br, 0, none⟩ = some (.slice Ar (bd 10000 r).length cr)) :
    Calls Tryz.prog 109 #[.int .i64 d, .pointer (some ⟨Bb, 0, none⟩), .pointer (some ⟨Br, 0, none⟩)] w fun e w' => e = .returned (.bool (tooMuch m r d)) ∧ Below w.heap.size w w' := by
  have HM := Aside0.mk hm
  have HR := Aside0.mk hr
  have HGM := Aside0.mk hgm
  have HGR := Aside0.mk hgr
  have HGL := Aside0.mk (GL_mul_le (a := m) (d := d + 1) hgm (by omega))
  have ht := tooMuch_cmp m r d
  rw [show ((m * (d + 1) : Nat) : Int) = (m : Int) * ((d : Int) + 1) by norm_cast] at ht
  have HT := Aside0.mk ht
  clear ht
  have hblt := eq_true (World.block_lt_of_cell? w _ hrb)
  have HBLT := Aside0.mk (World.block_lt_of_cell? w _ hrb)
  have hsum : IntKind.i64.wrap ((d : Int) + 1) = (d : Int) + 1 := IntWalk.i64_in _ (by omega)
  clear hm hr hgm hgr
  go_enter Tryz.func109, Tryz.ntmps109
  go_wp2_with fail
  go_region_with (first
    | (go_at_call 108; refine (nby_calls _ m (d + 1) _ (Nm.below (w := w) HM.out (below_drew (Below.refl _ w))) (by have := HGM.out; omega) (by omega)).mono ?_; rintro e W3 ⟨v3, rfl, hn3, hb3⟩; have hc3 := (Below.cell hb3 (p := ⟨Br, 0, none⟩) HBLT.out).trans hrb; have HN3 := Aside0.mk hn3; have HB3 := Aside0.mk hb3; clear hn3 hb3)
    | (go_at_call 80; refine (ncmp_calls _ _ (m * (d + 1)) r _ HN3.out (Nm.below (w := w.drew) HR.out HB3.out) (Nat.le_trans HGL.out (by omega)) HGR.out).mono ?_; rintro e W4 ⟨rfl, hb4⟩; have HB4 := Aside0.mk hb4; clear hb4))
  all_goals
    rw [HT.out]
    go_wp2_with fail
    go_ret
    exact ⟨rfl, (below_drew (Below.refl _ w)).trans (HB3.out.trans (HB4.out.mono HB3.out.size))⟩

end Go.Proofs.YtnhjidbjibehpaaGreatDoor.L3
