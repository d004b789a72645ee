/- Layer 3, walked: signed.text. -/
import Derived.Test.YtnhjidbjibehpaaGreatDoorIp
import Derived.Test.YtnhjidbjibehpaaGreatDoorIh
import Derived.Stop.RegionWithIn
import Derived.Deep.DeepMust
namespace Go.Proofs.YtnhjidbjibehpaaGreatDoor.L3
open Go.Shelf Go.RowKit Go.Proofs.YtnhjidbjibehpaaGreatDoorW.PrintWords Go.Proofs.YtnhjidbjibehpaaGreatDoorW.PrintLast Go.Proofs.YtnhjidbjibehpaaGreatDoorW.PrintMore Yd
set_option linter.unusedVariables false
set_option linter.unusedSimpArgs false
attribute [local go_sem] Oper.semAt_some

def Tab (w : World) : Prop := Lib.TabIs Tryz.prog w "internal/strconv.uint64pow10" .u64 Lib.pow10Tab
theorem Tab.below {B : Nat} {w w' : World} (h : Tab w) (hb : Below B w w') (hB : w.heap.size ≤ B) : Tab w' := by
  unfold Tab Lib.TabIs World.var? at h ⊢
  cases hg : Tryz.prog.globalNamed "internal/strconv.uint64pow10" with
  | none => rw [hg] at h; simp at h
  | some g =>
    rw [hg] at h
    simp only [Option.bind_some] at h ⊢
    have hlt : g < w.heap.size := by
      rcases Nat.lt_or_ge g w.heap.size with h' | h'
      · exact h'
      · simp [Array.getElem?_eq_none h'] at h
    rw [hb.block g (by omega)]
    exact h

theorem bgrow (w : World) (k : Nat) (os : Array Obj) : Below w.heap.size w (Go.Sort.grow (w.drewN k) os) :=
  ⟨rfl, rfl, rfl, by simp [Go.Sort.grow], fun i hi => by simp [Go.Sort.grow, Array.getElem?_append, hi]⟩
theorem itoa_calls (d : Nat) (w : World) (hd : d < 10000) (hT : Tab w) :
    Calls Tryz.prog 98 #[.int .i64 d] w fun e w' => e = .returned (.string ⟨(Lib.decDigits d).toArray⟩) ∧ Below w.heap.size w w' :=
  (Tryz.strconv_Itoa d (by omega) (by omega) w hT).mono (by
    rintro e w' ⟨rfl, k, os, rfl⟩
    refine ⟨?_, bgrow _ _ _⟩
    rw [itoa_pos (by omega)]; rfl)

/-- one group's digits -/
def pad4 (d : Nat) : List UInt8 := Lib.repeatL [48] (4 - (Lib.decDigits d).length) ++ Lib.decDigits d
theorem dec_len4 {d : Nat} (h : d < 10000) : (Lib.decDigits d).length ≤ 4 := (decDigits_length_le (by omega)).2 (by omega)
theorem rep48_all : ∀ k, (Lib.repeatL [48] k).all isDig = true
  | 0 => rfl
  | k + 1 => by rw [Lib.repeatL, List.all_append, rep48_all k]; rfl
theorem rep48_dval : ∀ k, dval (Lib.repeatL [48] k) = 0
  | 0 => rfl
  | k + 1 => by rw [Lib.repeatL, dval_append, rep48_dval k]; simp [dval]
theorem pad4_len {d : Nat} (h : d < 10000) : (pad4 d).length = 4 := by
  have := dec_len4 h
  simp [pad4, Lib.repeatL_length]
  omega
theorem pad4_all (d : Nat) : (pad4 d).all isDig = true := by rw [pad4, List.all_append, rep48_all, decDigits_all]; rfl
theorem pad4_dval (d : Nat) : dval (pad4 d) = d := by rw [pad4, dval_append, rep48_dval, dval_decDigits]; omega
theorem dec_pad {q d : Nat} (hq : 0 < q) (hd : d < 10000) : Lib.decDigits (q * 10000 + d) = Lib.decDigits q ++ pad4 d := by
  have hv : dval (Lib.decDigits q ++ pad4 d) = q * 10000 + d := by
    rw [dval_append, pad4_len hd, dval_decDigits, pad4_dval]
  rw [← hv]
  refine decDigits_dval _ ?_ ?_ (.inr ?_)
  · rw [List.all_append, decDigits_all, pad4_all]; rfl
  · simp [decDigits_ne]
  · have hh := decDigits_head q hq
    cases hl : Lib.decDigits q with
    | nil => exact absurd hl (decDigits_ne q)
    | cons a t => rw [hl] at hh; simpa using hh

/-- the bytes that a group comes to -/
def grp (n p : Nat) : List UInt8 := if p < GL n - 1 then pad4 (n / 10000 ^ p % 10000) else Lib.decDigits (n / 10000 ^ p % 10000)
def sb (n : Nat) (pre : List (Fin (GL n))) : List UInt8 := pre.foldl (fun a p => a ++ grp n p.1) []
theorem sb_nil (n : Nat) : sb n [] = [] := rfl
theorem sb_snoc (n : Nat) (pre : List (Fin (GL n))) (x : Fin (GL n)) : sb n (pre ++ [x]) = sb n pre ++ grp n x.1 := by simp [sb]
theorem grp_len (n p : Nat) : (grp n p).length ≤ 4 := by
  have hd := Nat.mod_lt (n / 10000 ^ p) (show 10000 > 0 by omega)
  unfold grp
  split
  · rw [pad4_len hd]; omega
  · exact dec_len4 hd
theorem sb_len (n : Nat) : ∀ pre : List (Fin (GL n)), (sb n pre).length ≤ 4 * pre.length := by
  intro pre
  suffices h : ∀ r : List (Fin (GL n)), (sb n r.reverse).length ≤ 4 * r.length by simpa using h pre.reverse
  intro r
  induction r with
  | nil => simp [sb]
  | cons x r ih =>
    rw [List.reverse_cons, sb_snoc, List.length_append, List.length_cons]
    have := grp_len n x.1
    omega
theorem sb_down {n : Nat} (hn : 0 < n) : ∀ k, k + 1 ≤ GL n → sb n ((down (GL n)).take (k + 1)) = Lib.decDigits (n / 10000 ^ (GL n - (k + 1))) := by
  have hlt := lt_pow_GL (n := n) (Nat.le_refl _)
  have hpos : 0 < GL n := bd_len_pos (by omega) hn
  have hle : 10000 ^ (GL n - 1) ≤ n := bd_pow_le (by omega) n (GL n - 1) (by show GL n = _; omega)
  intro k
  induction k with
  | zero =>
    intro _
    rw [down_take_succ _ 0 (by omega), List.take_zero, sb_snoc, sb_nil, List.nil_append]
    show grp n (GL n - 1 - 0) = _
    unfold grp
    rw [if_neg (by omega), show GL n - 1 - 0 = GL n - (0 + 1) by omega, Nat.mod_eq_of_lt]
    rw [Nat.div_lt_iff_lt_mul (Nat.pow_pos (by omega)), ← Nat.pow_succ']
    rwa [show (GL n - (0 + 1)).succ = GL n by omega]
  | succ k ih =>
    intro hk
    rw [down_take_succ _ (k + 1) (by omega), sb_snoc, ih (by omega)]
    show _ ++ grp n (GL n - 1 - (k + 1)) = _
    unfold grp
    rw [if_pos (by omega), show GL n - 1 - (k + 1) = GL n - (k + 1 + 1) by omega]
    have e : GL n - (k + 1) = (GL n - (k + 1 + 1)) + 1 := by omega
    have hd := Nat.mod_lt (n / 10000 ^ (GL n - (k + 1 + 1))) (show 10000 > 0 by omega)
    have hq : 0 < n / 10000 ^ (GL n - (k + 1)) := Nat.div_pos (Nat.le_trans (Nat.pow_le_pow_right (by omega) (by omega)) hle) (Nat.pow_pos (by omega))
    rw [← dec_pad hq hd, e, Nat.pow_succ, ← Nat.div_div_eq_div_mul]
    congr 1
    have := Nat.div_add_mod (n / 10000 ^ (GL n - (k + 1 + 1))) 10000
    omega
theorem sb_all {n : Nat} (hn : 0 < n) : sb n (down (GL n)) = Lib.decDigits n := by
  have hpos : 0 < GL n := bd_len_pos (by omega) hn
  have := sb_down hn (GL n - 1) (by omega)
  rw [show GL n - 1 + 1 = GL n by omega, down_take_all, Nat.sub_self, Nat.pow_zero, Nat.div_one] at this
  exact this

theorem IsBuilderF.keptN {T e : TypeId} {B b : Nat} {bs : List Value} {w w1 : World} (h : Lib.IsBuilderF T e B b bs w) {row : Option Nat} (hg : w.grownBy w1 row) (hr : ∀ r, row = some r → ∃ o : Obj, w.heap[r]? = some o ∧ o.isCells = false) : Lib.IsBuilderF T e B b bs w1 := by
  have key : ∀ p, Lib.BuilderAtF T e B b p bs w → Lib.BuilderAtF T e B b p bs w1 := by
    rintro p ⟨hB, v, hv, hown, hne⟩
    refine ⟨hB, v, ?_, hown.kept hg ?_, hne⟩
    · refine (hg.block b (blk_lt hv) ?_).trans hv
      intro e
      obtain ⟨o, ho, hc⟩ := hr b e.symm
      rw [hv] at ho
      injection ho with ho
      subst ho
      cases hc
    · by_cases hn : v.ownBlock = none
      · exact .inl hn
      · refine .inr fun e1 => ?_
        cases row with
        | none => exact hn e1
        | some r =>
          obtain ⟨o, ho, hc⟩ := hr r rfl
          rcases hown.2 with ⟨rfl, _⟩ | ⟨g, cap, cur, fz, rfl, _, hgg, _⟩
          · exact hn rfl
          · simp only [Value.ownBlock, Option.some.injEq] at e1
            subst e1
            rw [hgg] at ho
            injection ho with ho
            subst ho
            cases hc
  exact h.elim (fun x => .inl (key _ x)) (fun x => .inr (key _ x))

/-- the state of text's loop -/
structure TSt (w W : World) (b : Bool) (A1 : Option Addr) (l1 c1 : Nat) (bs : List UInt8) : Prop where
  bl : Below w.heap.size w W
  xb : W.heap[w.heap.size]? = some (.cells #[.bool b, .slice A1 l1 c1] 100)
  ob : Lib.IsBuilderF 91 5 (w.heap.size + 1) (w.heap.size + 1) (Lib.byteCells bs) W
  sz : w.heap.size + 3 ≤ W.heap.size
  bx : ∃ v, W.heap[w.heap.size + 1 + 1]? = some (.cells #[v] 98)
theorem TSt.below {w W W' : World} {b : Bool} {A1 : Option Addr} {l1 c1 : Nat} {bs : List UInt8} (h : TSt w W b A1 l1 c1 bs) (hb : Below W.heap.size W W') : TSt w W' b A1 l1 c1 bs :=
  ⟨h.bl.trans (hb.mono h.bl.size), (hb.block _ (blk_lt h.xb)).trans h.xb, IsBuilderF.keptN h.ob (grown_of_below hb none) (fun r e => by cases e), Nat.le_trans h.sz hb.size, by obtain ⟨v, hv⟩ := h.bx; exact ⟨v, (hb.block _ (blk_lt hv)).trans hv⟩⟩
theorem TSt.own {w W W' : World} {b : Bool} {A1 : Option Addr} {l1 c1 : Nat} {bs : List UInt8} (h : TSt w W b A1 l1 c1 bs) {row : Option Nat} (hg : W.grownBy W' row) (hr : ∀ r, row = some r → ∃ o : Obj, W.heap[r]? = some o ∧ o.isCells = false) (hbl : Below w.heap.size w W') : TSt w W' b A1 l1 c1 bs := by
  refine ⟨hbl, ?_, IsBuilderF.keptN h.ob hg hr, Nat.le_trans h.sz hg.size, ?_⟩
  · refine (hg.block _ (blk_lt h.xb) ?_).trans h.xb
    intro e
    obtain ⟨o, ho, hc⟩ := hr _ e.symm
    rw [h.xb] at ho
    injection ho with ho
    subst ho
    cases hc
  · obtain ⟨v, hv⟩ := h.bx
    refine ⟨v, (hg.block _ (blk_lt hv) ?_).trans hv⟩
    intro e
    obtain ⟨o, ho, hc⟩ := hr _ e.symm
    rw [hv] at ho
    injection ho with ho
    subst ho
    cases hc
theorem others_of_kept {W W' : World} {b : Nat} {e : TypeId} {cs : Array Value} {t : TypeId} (h : Lib.OthersKept e (some b) W W') (hs : W.heap.size ≤ W'.heap.size) (hb : W.heap[b]? = some (.cells cs t)) : KeepsOthers W W' := by
  refine ⟨hs, fun k o hk hc => h k o hk ?_ ?_⟩
  · intro e1
    injection e1 with e1
    subst e1
    rw [hb] at hk
    injection hk with hk
    subst hk
    cases hc
  · rintro c fz rfl
    cases hc

/-- WriteString -/
theorem write_calls {w W : World} {b : Bool} {A1 : Option Addr} {l1 c1 : Nat} {bs : List UInt8} (h : TSt w W b A1 l1 c1 bs) (s : ByteArray) (hl : bs.length + s.size ≤ 100000) :
    Calls Tryz.prog 75 #[.pointer (some ⟨w.heap.size + 1, 0, none⟩), .string s] W fun e W' => ∃ v, e = .returned v ∧ TSt w W' b A1 l1 c1 (bs ++ s.data.toList) ∧ KeepsOthers W W' ∧ KB w.heap.size (w.heap.size + 1 + 1) W W' := by
  refine (Tryz.Builder_WriteString_k (w.heap.size + 1) (w.heap.size + 1) (Lib.byteCells bs) s W h.ob (by simp [Lib.byteCells]; omega) (by have := h.sz; omega)).mono ?_
  rintro e W' ⟨rfl, hw, hb, ho⟩
  obtain ⟨v, hv⟩ := h.bx
  have hbx : W'.heap[w.heap.size + 1 + 1]? = some (.cells #[v] 98) := ho _ _ hv (by intro e; injection e; omega) (by intro c fz e; injection e with e1 e2 e3; exact absurd e2 (by decide))
  have e : Lib.byteCells (bs ++ s.data.toList) = Lib.byteCells bs ++ Lib.strCells s := by simp [Lib.byteCells, Lib.strCells]
  refine ⟨_, rfl, ⟨h.bl.trans (hb.mono (Nat.le_succ _)), (hb.block _ (Nat.lt_succ_self _)).trans h.xb, .inr (by rw [e]; exact hw), Nat.le_trans h.sz hb.size, v, hbx⟩, ?_, hb.mono (Nat.le_succ _), by rw [hbx, hv]⟩
  rcases h.ob with h1 | h1
  · obtain ⟨_, v1, hv1, _⟩ := h1; exact others_of_kept ho hb.size hv1
  · obtain ⟨_, v1, hv1, _⟩ := h1; exact others_of_kept ho hb.size hv1
theorem repeat_calls (k : Nat) (w : World) (hk : k ≤ 4) :
    Calls Tryz.prog 96 #[.string ⟨#[48]⟩, .int .i64 k] w fun e w' => e = .returned (.string ⟨(Lib.repeatL [48] k).toArray⟩) ∧ Below w.heap.size w w' :=
  Tryz.strings_Repeat ⟨#[48]⟩ k w (by omega) (by show 1 * k ≤ _; omega)

/-- what text returns -/
def tres (x : Int) : Value := if x.natAbs < DL then .tuple #[.string ⟨(Lib.itoa x).toArray⟩, .int .i64 0] else .tuple #[.string ⟨#[]⟩, .int .i64 30]

end Go.Proofs.YtnhjidbjibehpaaGreatDoor.L3
