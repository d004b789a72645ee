/- Layer 3, plain: what number.over computes. -/
import Derived.Test.YtnhjidbjibehpaaGreatDoorZg
namespace Go.Proofs.YtnhjidbjibehpaaGreatDoor.L3
open Go.Shelf Go.RowKit Go.Proofs.YtnhjidbjibehpaaGreatDoorW.PrintWords Go.Proofs.YtnhjidbjibehpaaGreatDoorW.PrintLast Go.Proofs.YtnhjidbjibehpaaGreatDoorW.PrintMore Yd
set_option linter.unusedVariables false
set_option linter.unusedSimpArgs false

def ovS (l m : Nat) (s : Nat × List Int) (p : Nat) : Nat × List Int :=
  ((s.1 * 10000 + l / 10000 ^ p % 10000) % m, s.2.set p (((s.1 * 10000 + l / 10000 ^ p % 10000) / m : Nat) : Int))
def ov (l m : Nat) (pre : List (Fin (GL l))) : Nat × List Int := pre.foldl (fun s p => ovS l m s p.1) (0, List.replicate (GL l) 0)
theorem ov_nil (l m : Nat) : ov l m [] = (0, List.replicate (GL l) 0) := rfl
theorem ov_snoc (l m : Nat) (pre : List (Fin (GL l))) (x : Fin (GL l)) : ov l m (pre ++ [x]) = ovS l m (ov l m pre) x.1 := by simp [ov]
theorem ov_len (l m : Nat) : ∀ pre : List (Fin (GL l)), (ov l m pre).2.length = GL l := by
  intro pre
  suffices h : ∀ r : List (Fin (GL l)), (ov l m r.reverse).2.length = GL l by simpa using h pre.reverse
  intro r
  induction r with
  | nil => simp [ov]
  | cons x r ih => rw [List.reverse_cons, ov_snoc]; simp [ovS, ih]
theorem ov_lt (l : Nat) {m : Nat} (hm : 0 < m) (pre : List (Fin (GL l))) : (ov l m pre).1 < m := by
  suffices h : ∀ r : List (Fin (GL l)), (ov l m r.reverse).1 < m by simpa using h pre.reverse
  intro r
  cases r with
  | nil => simpa [ov] using hm
  | cons x r => rw [List.reverse_cons, ov_snoc]; exact Nat.mod_lt _ hm

theorem div_digit (l m k : Nat) (hm : 0 < m) : ((l / 10000 ^ (k + 1) % m) * 10000 + l / 10000 ^ k % 10000) / m = l / m / 10000 ^ k % 10000 ∧ ((l / 10000 ^ (k + 1) % m) * 10000 + l / 10000 ^ k % 10000) % m = l / 10000 ^ k % m := by
  have e1 : l / 10000 ^ (k + 1) = l / 10000 ^ k / 10000 := by rw [Nat.pow_succ, Nat.div_div_eq_div_mul]
  have e2 : l / m / 10000 ^ k = l / 10000 ^ k / m := by rw [Nat.div_div_eq_div_mul, Nat.mul_comm, Nat.div_div_eq_div_mul]
  rw [e1, e2]
  generalize l / 10000 ^ k = x
  have h1 := Nat.div_add_mod x 10000
  have h2 := Nat.div_add_mod (x / 10000) m
  have h3 := Nat.mod_lt (x / 10000) hm
  generalize hr : x / 10000 % m = r at *
  generalize hu : x % 10000 = u at *
  have hu' : u < 10000 := by rw [← hu]; exact Nat.mod_lt _ (by omega)
  generalize hq : x / 10000 / m = q at *
  have hx : x = m * (q * 10000) + (r * 10000 + u) := by
    have : 10000 * (m * q + r) = m * (q * 10000) + r * 10000 := by rw [Nat.mul_add, Nat.mul_comm 10000 (m * q), Nat.mul_assoc, Nat.mul_comm 10000 r]
    rw [← h2] at h1
    omega
  have hle : (r * 10000 + u) / m < 10000 := by
    rw [Nat.div_lt_iff_lt_mul hm]
    have : (r + 1) * 10000 ≤ m * 10000 := Nat.mul_le_mul_right _ h3
    omega
  constructor
  · rw [hx, Nat.mul_add_div hm, Nat.add_comm (q * 10000), Nat.add_mul_mod_self_right, Nat.mod_eq_of_lt hle]
  · rw [hx, Nat.mul_add_mod]

theorem ov_down (l : Nat) {m : Nat} (hm : 0 < m) : ∀ k, k ≤ GL l → (ov l m ((down (GL l)).take k)).1 = l / 10000 ^ (GL l - k) % m ∧
    ∀ j, GL l - k ≤ j → j < GL l → (ov l m ((down (GL l)).take k)).2.getD j 0 = ((l / m / 10000 ^ j % 10000 : Nat) : Int) := by
  intro k
  induction k with
  | zero =>
    intro _
    have : l / 10000 ^ GL l = 0 := Nat.div_eq_of_lt (lt_pow_GL (Nat.le_refl _))
    refine ⟨by simp [ov, this], fun j h1 h2 => by omega⟩
  | succ k ih =>
    intro hk
    obtain ⟨i1, i2⟩ := ih (by omega)
    rw [down_take_succ _ k (by omega), ov_snoc]
    have e : GL l - k = (GL l - (k + 1)) + 1 := by omega
    have e2 : GL l - 1 - k = GL l - (k + 1) := by omega
    obtain ⟨d1, d2⟩ := div_digit l m (GL l - (k + 1)) hm
    simp only [ovS, e2]
    rw [i1, e, d1, d2]
    refine ⟨rfl, fun j h1 h2 => ?_⟩
    rcases Nat.eq_or_lt_of_le h1 with h | h
    · subst h
      rw [List.getD_eq_getElem?_getD, List.getElem?_set_self (by rw [ov_len]; omega)]; rfl
    · rw [List.getD_eq_getElem?_getD, List.getElem?_set_ne (by omega), ← List.getD_eq_getElem?_getD]
      exact i2 j (by omega) h2

theorem bv_sumF : ∀ (q : List Int) (f : Nat → Int), (∀ j, j < q.length → q.getD j 0 = f j) → bv 10000 q = sumF f q.length := by
  intro q
  suffices h : ∀ r : List Int, ∀ f : Nat → Int, (∀ j, j < r.reverse.length → r.reverse.getD j 0 = f j) → bv 10000 r.reverse = sumF f r.reverse.length by
    intro f hf
    have := h q.reverse f (by simpa using hf)
    simpa using this
  intro r
  induction r with
  | nil => intro f _; rfl
  | cons a r ih =>
    intro f hf
    have h1 := hf r.length (by simp)
    rw [List.reverse_cons, List.getD_eq_getElem?_getD, List.getElem?_append_right (by simp)] at h1
    have h1' : a = f r.length := by simpa using h1
    rw [List.reverse_cons, bv_snoc, ih f (fun j hj => ?_)]
    · simp only [List.length_append, List.length_reverse, List.length_singleton, sumF]
      rw [h1']; rfl
    · have hjr : j < r.length := by simpa using hj
      have h2 := hf j (by simp; omega)
      rw [List.reverse_cons, List.getD_eq_getElem?_getD, List.getElem?_append_left hj, ← List.getD_eq_getElem?_getD] at h2
      exact h2

theorem ov_all (l : Nat) {m : Nat} (hm : 0 < m) : (ov l m (down (GL l))).1 = l % m ∧ trimL (ov l m (down (GL l))).2 = bd 10000 (l / m) := by
  have h := ov_down l hm (GL l) (Nat.le_refl _)
  rw [down_take_all] at h
  obtain ⟨h1, h2⟩ := h
  refine ⟨by simpa using h1, ?_⟩
  have hd : ∀ j, j < (ov l m (down (GL l))).2.length → (ov l m (down (GL l))).2.getD j 0 = rd (bd 10000 (l / m)) (j : Int) := by
    intro j hj
    rw [ov_len] at hj
    rw [h2 j (by omega) hj, rd_bd]
  have hs := bv_sumF _ _ hd
  rw [ov_len, sumF_all (n := l / m) (k := GL l)] at hs
  · refine trimL_num (fun d hdm => ?_) hs
    obtain ⟨j, hj, rfl⟩ := List.getElem_of_mem hdm
    have := hd j hj
    rw [List.getD_eq_getElem?_getD, List.getElem?_eq_getElem hj] at this
    have hr := rd_bd_range (l / m) j
    simp only [Option.getD_some] at this
    omega
  · exact bd_length_mono (by omega) (Nat.div_le_self _ _)

theorem search_is {m D r : Nat} (hm : 0 < m) (hD : D / m ≤ 9999) (hr : r ≤ 9999) (h1 : ∀ t, t < r → tooMuch m D t = false) (h2 : ∀ t, r ≤ t → t < 9999 → tooMuch m D t = true) : r = D / m := by
  rcases Nat.lt_trichotomy r (D / m) with h | h | h
  · exfalso
    have := of_decide_eq_true (h2 r (Nat.le_refl _) (by omega))
    have h3 : m * (r + 1) ≤ m * (D / m) := Nat.mul_le_mul_left _ h
    have h4 := Nat.mul_div_le D m
    omega
  · exact h
  · exfalso
    have := of_decide_eq_false (h1 _ h)
    have h4 := Nat.lt_mul_div_succ D hm
    exact this h4
theorem tooMuch_mono {m D : Nat} : ∀ a b, a ≤ b → b < 9999 → tooMuch m D a = true → tooMuch m D b = true := by
  intro a b hab _ h
  have h := of_decide_eq_true h
  refine decide_eq_true (Nat.lt_of_lt_of_le h (Nat.mul_le_mul_left _ (by omega)))
theorem step_le {r m u : Nat} (hr : r < m) (hu : u < 10000) : (r * 10000 + u) / m ≤ 9999 := by
  have : (r * 10000 + u) / m < 10000 := by
    rw [Nat.div_lt_iff_lt_mul (by omega)]
    have : (r + 1) * 10000 ≤ m * 10000 := Nat.mul_le_mul_right _ hr
    omega
  omega
theorem GL_step {r u k : Nat} (hr : (bd 10000 r).length ≤ k) (hu : u < 10000) : GL (r * 10000 + u) ≤ k + 1 := by
  apply GL_lt
  have h := lt_pow_GL (n := r) hr
  rw [Nat.pow_succ]
  generalize 10000 ^ k = p at *
  omega
theorem cons_trim (r u : Nat) (hu : u < 10000) : trimL ((u : Int) :: bd 10000 r) = bd 10000 (r * 10000 + u) := by
  refine trimL_num (fun d hd => ?_) ?_
  · rcases List.mem_cons.1 hd with rfl | hd
    · omega
    · have h := bd_mem (B := 10000) (by omega) r d hd
      rw [show ((10000 : Nat) : Int) = 10000 from rfl] at h
      exact h
  · simp only [bv, bv_bd (B := 10000) (by omega)]
    rw [show ((10000 : Nat) : Int) = 10000 from rfl]; omega

end Go.Proofs.YtnhjidbjibehpaaGreatDoor.L3

/- Layer 3, walked: number.over. -/
namespace Go.Proofs.YtnhjidbjibehpaaGreatDoor.L3
open Go.Shelf Go.RowKit Go.Proofs.YtnhjidbjibehpaaGreatDoorW.PrintWords Go.Proofs.YtnhjidbjibehpaaGreatDoorW.PrintLast Go.Proofs.YtnhjidbjibehpaaGreatDoorW.PrintMore Yd
set_option linter.unusedVariables false
set_option linter.unusedSimpArgs false
attribute [local go_sem] Oper.semAt_some

/-- append onto a row of the call's own, from whatever is read: inside a fence -/
theorem wpListIn_append_row {F : Fence} {n : Nat} {P : Program} {W : World} {ops : Array Oper} {rest : List Oper} {o : Oper} {a : Act} {Q : Exit → Act → World → Prop}
    (hgd : o.guard = none) (s x : Operand) (t e : TypeId) (bytes : Nat)
    (ho : o.op = .call { callee := .builtin .append, args := #[s, x], argTypes := #[t, t] })
    (ht : P.underlying t = some (.slice e)) (hinfo : (P.info? e).map (fun i => (i.zero, i.size, i.bytes)) = some (some (.int .i64 0), 1, bytes)) (hb0 : 0 < bytes)
    (base : Nat) (v : Value) (xs ys : List Int) (A : Option Addr) (m c : Nat) (hs : a.eval s = v) (hx : a.eval x = .slice A m c)
    (HO : W.ownsRow base e 1 v xs.length (nums .i64 xs)) (HR : ReadsInt W .i64 A m ys) (hbase : base ≤ W.heap.size) (hl : (xs.length + m) * bytes ≤ 140737488355328)
    (h : ∀ v1 w1, w1.ownsRow base e 1 v1 (xs ++ ys).length (nums .i64 (xs ++ ys)) → W.grownBy w1 v.ownBlock → wpListIn F n P ops Q rest (a.put o.dst v1) w1) :
    wpListIn F n P ops Q (o :: rest) a W := by
  obtain ⟨i0, hi, hzz⟩ := Option.map_eq_some_iff.1 hinfo
  simp only [Prod.mk.injEq] at hzz
  obtain ⟨hz0, hz1, hz2⟩ := hzz
  have hm : ys.length = m := HR.1
  have hlen : xs.length + m ≤ 140737488355328 := Nat.le_trans (Nat.le_mul_of_pos_right _ hb0) hl
  have hrun : ∃ v1 w1, (Builtin.append_ #[t, t] o.type #[v, .slice A m c]).run P W = .ok v1 w1 ∧ w1.ownsRow base e 1 v1 (xs ++ ys).length (nums .i64 (xs ++ ys)) ∧ W.grownBy w1 v.ownBlock := by
    rcases A with _ | ad
    · have h0 : m = 0 := by
        rcases Nat.eq_zero_or_pos m with h0 | h0
        · exact h0
        · obtain ⟨ad, h, _⟩ := HR.2.2 h0
          cases h
      subst h0
      obtain rfl : ys = [] := List.eq_nil_of_length_eq_zero hm
      refine ⟨v, W, ?_, by simpa using HO, World.grownBy.refl W _⟩
      rcases HO.2 with ⟨rfl, hn⟩ | ⟨g, cap, cur, rfl, _, _, hnc, _⟩
      · simp [Builtin.append_, run_underlying ht, sizeOf, typeInfo, hi, Builtin.lenOf, Builtin.firstCells]
      · simp [Builtin.append_, run_underlying ht, sizeOf, typeInfo, hi, Builtin.lenOf, Builtin.firstCells, hnc, storeCells]
    · have hcells : ∀ j u, (nums .i64 ys)[j]? = some u → W.cell? (ad.add j) = some u := by
        intro j u hu
        have hj : j < ys.length := by
          rcases Nat.lt_or_ge j ys.length with h | h
          · exact h
          · rw [List.getElem?_eq_none (by rw [nums_length]; exact h)] at hu; cases hu
        obtain ⟨ad', e', hc⟩ := HR.2.2 (by omega)
        obtain rfl : ad = ad' := by injection e'
        have he : u = .int .i64 (ys.getD j 0) := by
          simp [nums, List.getElem?_eq_getElem hj] at hu
          rw [← hu, List.getD_eq_getElem?_getD, List.getElem?_eq_getElem hj]; rfl
        rw [he]; exact hc j (by omega)
      obtain ⟨v', w', hr, r1, r2, _⟩ := run_append_own (P := P) W base t o.type e i0 (.int .i64 0) 1 bytes ht hi hz0 hz1 hz2 rfl (by decide) v xs.length (nums .i64 xs) HO ad m c (nums .i64 ys) (by rw [nums_length]; omega) hcells (by intro u hu; simp [nums] at hu; obtain ⟨x, _, rfl⟩ := hu; rfl) (by simp only [maxLen]; omega) hl hbase
      refine ⟨v', w', hr, ?_, r2⟩
      rw [nums_append, List.length_append, hm]; exact r1
  obtain ⟨v1, w1, hrun, r1, r2⟩ := hrun
  refine wpListIn_plain hgd fun K hK' => ?_
  unfold Oper.wpIn
  refine ⟨?_, ?_⟩
  · simp [Oper.about, ho, resolve, Target.leads, Sem.run_pure]
  · rw [Oper.semAt_plain F _ _ (by rw [ho]; intro c hc'; cases hc')]
    simp [execOp, ho, resolve, invoke, builtin, hs, hx, hrun, Result.andThen]
    exact hK' _ _ (h v1 w1 r1 r2)

end Go.Proofs.YtnhjidbjibehpaaGreatDoor.L3

/- Layer 3: the state of number.over's loop. -/
namespace Go.Proofs.YtnhjidbjibehpaaGreatDoor.L3
open Go.Shelf Go.RowKit Go.Proofs.YtnhjidbjibehpaaGreatDoorW.PrintWords Go.Proofs.YtnhjidbjibehpaaGreatDoorW.PrintLast Go.Proofs.YtnhjidbjibehpaaGreatDoorW.PrintMore Yd
set_option linter.unusedVariables false
set_option linter.unusedSimpArgs false

/-- The slice value is the number n, and what it reads lies in blocks from base on. -/
def NmV (base : Nat) (w : World) (v : Value) (n : Nat) : Prop :=
  ∃ A c, v = .slice A (bd 10000 n).length c ∧ (bd 10000 n).length ≤ c ∧ ∀ W' : World, (∀ k, base ≤ k → k < w.heap.size → W'.heap[k]? = w.heap[k]?) → ReadsInt W' .i64 A (bd 10000 n).length (bd 10000 n)
theorem NmV.nm {base : Nat} {w : World} {v : Value} {n : Nat} (h : NmV base w v n) : Nm w v n := by
  obtain ⟨A, c, e, hc, hr⟩ := h
  exact ⟨A, c, e, hc, hr w (fun _ _ _ => rfl)⟩
theorem NmV.move {base : Nat} {w W : World} {v : Value} {n : Nat} (h : NmV base w v n) (hb : ∀ k, base ≤ k → k < w.heap.size → W.heap[k]? = w.heap[k]?) (hs : w.heap.size ≤ W.heap.size) : NmV base W v n := by
  obtain ⟨A, c, e, hc, hr⟩ := h
  exact ⟨A, c, e, hc, fun W' hW => hr W' (fun k h1 h2 => (hW k h1 (by omega)).trans (hb k h1 h2))⟩
theorem NmV.below {base : Nat} {w W : World} {v : Value} {n : Nat} (h : NmV base w v n) (hb : Below w.heap.size w W) : NmV base W v n :=
  h.move (fun k _ h2 => hb.block k h2) hb.size
theorem NmV.setCell {base : Nat} {w : World} {v : Value} {n : Nat} (h : NmV base w v n) (p : Addr) (u : Value) (hp : p.block < base) : NmV base (w.setCell p u) v n :=
  h.move (fun k h1 _ => Below.heap_setCell w p u k (by omega)) (by simp)

open Go.Proofs.YtnhjidbjibehpaaGreatDoor.Ref in
theorem trimmed_callsV (base : Nat) (v : Value) (xs : List Int) (n : Nat) (w : World) (h : w.ownsRow base 3 1 v xs.length (nums .i64 xs)) (hbase : base ≤ w.heap.size) (hl : xs.length ≤ 1000000000) (hn : trimL xs = bd 10000 n) :
    Calls Tryz.prog 107 #[v] w fun e w' => ∃ v', e = .returned v' ∧ NmV base w' v' n ∧ Below w.heap.size w w' := by
  obtain ⟨A, c, rfl, hr⟩ := own_reads h
  have hc := own_le h
  have hV : Kd.V (Kd.int .i64) 3 w w.heap.size (fun k_ => base ≤ k_) (.slice A xs.length c) xs :=
    ⟨A, c, rfl, hc, fun W' hW => by
      have h2 := own_move (w1 := W') h (fun k hk => hW k (own_base h k hk) (own_lt h k hk))
      obtain ⟨A', c', e, hr'⟩ := own_reads h2
      obtain rfl : A = A' := by injection e
      exact Kd.C_of_reads (enc := Value.int .i64) (d := (0 : Int)) (h1 := fun _ => rfl) hr'⟩
  refine (integer_number_trimmed.calls (xs.length + 1) _ A c xs (trimL xs) w hV (trimmed_f xs hl)).mono ?_
  rintro e w' ⟨v', rfl, hv, hb⟩
  refine ⟨v', rfl, ?_, hb⟩
  rw [hn] at hv
  obtain ⟨A', c', e', hc', hf⟩ := hv
  exact ⟨A', c', e', hc', fun W' hW => Kd.reads_of_C (enc := Value.int .i64) (d := (0 : Int)) (h1 := fun _ => rfl) (hf W' (fun k hk hlt => hW k (by rcases hk with hk | hk <;> omega) hlt))⟩

/-- what the loop of over keeps: the boxes of m, q and r, and q's row. -/
structure OSt (w W : World) (A2 : Option Addr) (c2 m N : Nat) (q : List Int) : Prop where
  mb : Boxed W w.heap.size 98 (.slice A2 (bd 10000 m).length c2)
  qb : Boxed W (w.heap.size + 1) 98 (.slice (some ⟨w.heap.size + 1 + 1 + 1, 0, none⟩) N N)
  qd : W.ownsRow w.heap.size 3 1 (.slice (some ⟨w.heap.size + 1 + 1 + 1, 0, none⟩) N N) N (nums .i64 q)
  ql : q.length = N
  bl : Below w.heap.size w W
  sz : w.heap.size + 5 ≤ W.heap.size

theorem OSt.below {w W W' : World} {A2 : Option Addr} {c2 m N : Nat} {q : List Int} (h : OSt w W A2 c2 m N q) (hb : Below W.heap.size W W') : OSt w W' A2 c2 m N q :=
  ⟨Boxed.below h.mb hb, Boxed.below h.qb hb, pw_own_below h.qd hb, h.ql, h.bl.trans (hb.mono h.bl.size), Nat.le_trans h.sz hb.size⟩
theorem own_kept_nc {w w1 : World} {base : Nat} {e : TypeId} {size n : Nat} {v : Value} {xs : List Value} (h : w.ownsRow base e size v n xs) {row : Option Nat} (hg : w.grownBy w1 row) (hr : ∀ r, row = some r → ∃ o : Obj, w.heap[r]? = some o ∧ o.isCells = false) : w1.ownsRow base e size v n xs := by
  refine own_move h (fun k hk => hg.block k (own_lt h k hk) (fun he => ?_))
  obtain ⟨o, ho, hc⟩ := hr k he.symm
  obtain ⟨cells, hcl⟩ := own_typed h k hk
  rw [hcl] at ho
  injection ho with ho
  subst ho
  cases hc
theorem OSt.own {w W W' : World} {A2 : Option Addr} {c2 m N : Nat} {q : List Int} (h : OSt w W A2 c2 m N q) {row : Option Nat} (hg : W.grownBy W' row) (hr : ∀ r, row = some r → ∃ o : Obj, W.heap[r]? = some o ∧ o.isCells = false) (hbl : Below w.heap.size w W') : OSt w W' A2 c2 m N q :=
  ⟨Boxed.own h.mb hg hr, Boxed.own h.qb hg hr, own_kept_nc h.qd hg hr, h.ql, hbl, Nat.le_trans h.sz hg.size⟩
theorem OSt.setR {w W : World} {A2 : Option Addr} {c2 m N : Nat} {q : List Int} (h : OSt w W A2 c2 m N q) (u : Value) : OSt w (W.setCell ⟨w.heap.size + 1 + 1, 0, none⟩ u) A2 c2 m N q :=
  ⟨Boxed.keepB h.mb _ (by omega), Boxed.keepB h.qb _ (by omega), own_setCell h.qd (by simp [Value.ownBlock]) _, h.ql, h.bl.setCell (p := ⟨w.heap.size + 1 + 1, 0, none⟩) (by show _ ≤ w.heap.size + 1 + 1; omega) _, by simpa using h.sz⟩
theorem OSt.setQ {w W : World} {A2 : Option Addr} {c2 m N : Nat} {q : List Int} (h : OSt w W A2 c2 m N q) (i x : Int) : OSt w (W.setCell ⟨w.heap.size + 1 + 1 + 1, i.toNat, none⟩ (.int .i64 x)) A2 c2 m N (q.set i.toNat x) := by
  have hs := own_store h.qd i x
  refine ⟨?_, ?_, hs.1, by simp [h.ql], h.bl.setCell (p := ⟨w.heap.size + 1 + 1 + 1, i.toNat, none⟩) (by show _ ≤ w.heap.size + 1 + 1 + 1; omega) _, by simpa using h.sz⟩
  · exact (Below.heap_setCell W ⟨w.heap.size + 1 + 1 + 1, i.toNat, none⟩ _ _ (by show w.heap.size ≠ w.heap.size + 1 + 1 + 1; omega)).trans h.mb
  · exact (Below.heap_setCell W ⟨w.heap.size + 1 + 1 + 1, i.toNat, none⟩ _ _ (by show w.heap.size + 1 ≠ w.heap.size + 1 + 1 + 1; omega)).trans h.qb

theorem OSt.start (w : World) (A1 A2 : Option Addr) (c1 c2 l m N : Nat) (hN : N ≤ 1000) :
    OSt w (((((w.alloc (.cells #[.slice A2 (bd 10000 m).length c2] 98)).alloc (.cells #[.slice (some ⟨w.heap.size + 1 + 1 + 1, 0, none⟩) N N] 98)).alloc (.cells #[.slice none 0 0] 98)).alloc (.cells (madeCells #[.int .i64 0] N) 3)).alloc (.cells #[.slice A1 (bd 10000 l).length c1] 98)) A2 c2 m N (List.replicate N 0) ∧
    Boxed (((((w.alloc (.cells #[.slice A2 (bd 10000 m).length c2] 98)).alloc (.cells #[.slice (some ⟨w.heap.size + 1 + 1 + 1, 0, none⟩) N N] 98)).alloc (.cells #[.slice none 0 0] 98)).alloc (.cells (madeCells #[.int .i64 0] N) 3)).alloc (.cells #[.slice A1 (bd 10000 l).length c1] 98)) (w.heap.size + 1 + 1) 98 (.slice none 0 0) ∧
    Boxed (((((w.alloc (.cells #[.slice A2 (bd 10000 m).length c2] 98)).alloc (.cells #[.slice (some ⟨w.heap.size + 1 + 1 + 1, 0, none⟩) N N] 98)).alloc (.cells #[.slice none 0 0] 98)).alloc (.cells (madeCells #[.int .i64 0] N) 3)).alloc (.cells #[.slice A1 (bd 10000 l).length c1] 98)) (w.heap.size + 1 + 1 + 1 + 1) 98 (.slice A1 (bd 10000 l).length c1) ∧
    (((((w.alloc (.cells #[.slice A2 (bd 10000 m).length c2] 98)).alloc (.cells #[.slice (some ⟨w.heap.size + 1 + 1 + 1, 0, none⟩) N N] 98)).alloc (.cells #[.slice none 0 0] 98)).alloc (.cells (madeCells #[.int .i64 0] N) 3)).alloc (.cells #[.slice A1 (bd 10000 l).length c1] 98)).heap.size = w.heap.size + 5 := by
  obtain ⟨b0, b1⟩ := boxed3 w (.slice A2 (bd 10000 m).length c2) (.slice (some ⟨w.heap.size + 1 + 1 + 1, 0, none⟩) N N) (.slice none 0 0) 98 98 98
  have b2 := Boxed.new ((w.alloc (.cells #[.slice A2 (bd 10000 m).length c2] 98)).alloc (.cells #[.slice (some ⟨w.heap.size + 1 + 1 + 1, 0, none⟩) N N] 98)) 98 (.slice none 0 0)
  have hbl : Below w.heap.size w (((w.alloc (.cells #[.slice A2 (bd 10000 m).length c2] 98)).alloc (.cells #[.slice (some ⟨w.heap.size + 1 + 1 + 1, 0, none⟩) N N] 98)).alloc (.cells #[.slice none 0 0] 98)) := below_alloc (below_alloc (below_alloc (Below.refl _ _) _) _) _
  have hs : (((w.alloc (.cells #[.slice A2 (bd 10000 m).length c2] 98)).alloc (.cells #[.slice (some ⟨w.heap.size + 1 + 1 + 1, 0, none⟩) N N] 98)).alloc (.cells #[.slice none 0 0] 98)).heap.size = w.heap.size + 3 := by simp
  rw [show ((w.alloc (.cells #[.slice A2 (bd 10000 m).length c2] 98)).alloc (.cells #[.slice (some ⟨w.heap.size + 1 + 1 + 1, 0, none⟩) N N] 98)).heap.size = w.heap.size + 1 + 1 by simp] at b2
  generalize (((w.alloc (.cells #[.slice A2 (bd 10000 m).length c2] 98)).alloc (.cells #[.slice (some ⟨w.heap.size + 1 + 1 + 1, 0, none⟩) N N] 98)).alloc (.cells #[.slice none 0 0] 98)) = W3 at *
  have hq := own_made W3 w.heap.size 3 .i64 N (by omega) (by omega)
  rw [hs] at hq
  have hz := Boxed.new (W3.alloc (.cells (madeCells #[.int .i64 0] N) 3)) 98 (.slice A1 (bd 10000 l).length c1)
  rw [show (W3.alloc (.cells (madeCells #[.int .i64 0] N) 3)).heap.size = w.heap.size + 1 + 1 + 1 + 1 by simp [hs]] at hz
  refine ⟨⟨(b0.alloc _).alloc _, (b1.alloc _).alloc _, World.ownsRow.alloc hq _, by simp, below_alloc (below_alloc hbl _) _, by simp [hs]⟩, (b2.alloc _).alloc _, hz, by simp [hs]⟩

theorem over_grown {W w1 W3 : World} {u : Value} {m m' : Nat} (hg : (W.alloc (.cells #[u] 3)).grownBy w1 (Value.slice (some ⟨W.heap.size, 0, none⟩) m m').ownBlock) (hb : Below w1.heap.size w1 W3) : Below W.heap.size W W3 := by
  have h34 : Below W.heap.size W w1 := ((Below.refl _ W).alloc (Nat.le_refl _) _).grown hg (by simp) (by intro k hk; simp [Value.ownBlock] at hk; omega)
  exact h34.trans (hb.mono h34.size)

/-- the middle of a round: r's box holds the number that is divided -/
structure OMid (w W W5 : World) (A2 : Option Addr) (c2 m N : Nat) (q : List Int) (A3 : Option Addr) (c3 D : Nat) : Prop where
  st : OSt w W5 A2 c2 m N q
  rb : Boxed W5 (w.heap.size + 1 + 1) 98 (.slice A3 (bd 10000 D).length c3)
  rn : NmV W.heap.size W5 (.slice A3 (bd 10000 D).length c3) D
  ko : KeepsOthers W W5
  kb : KB w.heap.size (w.heap.size + 1 + 1 + 1 + 1) W W5
  sz : W.heap.size ≤ W5.heap.size
  s5 : w.heap.size + 5 ≤ W.heap.size
theorem over_mid {w W W3 : World} {A2 A3 A : Option Addr} {c2 m N c3 c l0 D : Nat} {q : List Int} (hO : OSt w W A2 c2 m N q) (hrb : Boxed W (w.heap.size + 1 + 1) 98 (.slice A l0 c))
    (hb : Below W.heap.size W W3) (hn : NmV W.heap.size W3 (.slice A3 (bd 10000 D).length c3) D) :
    OMid w W (W3.setCell ⟨w.heap.size + 1 + 1, 0, none⟩ (.slice A3 (bd 10000 D).length c3)) A2 c2 m N q A3 c3 D := by
  have h3 := hO.below hb
  have hr3 := Boxed.below hrb hb
  have hs := hO.sz
  have hs2 := hb.size
  exact ⟨h3.setR _, hr3.set _, hn.setCell _ _ (by show w.heap.size + 1 + 1 < _; omega), (others_of_below hb).trans (KeepsOthers.setCell _ _ _), (KB.of_below hb hO.bl.size (by omega)).trans (KB.setCell _ _ _ (by omega) (by omega)), by simpa using hs2, hs⟩
theorem OMid.below {w W W5 W6 : World} {A2 A3 : Option Addr} {c2 m N c3 D : Nat} {q : List Int} (h : OMid w W W5 A2 c2 m N q A3 c3 D) (hb : Below W5.heap.size W5 W6) : OMid w W W6 A2 c2 m N q A3 c3 D := by
  have h1 := h.sz
  have h2 := h.s5
  have h3 := h.st.sz
  exact ⟨h.st.below hb, Boxed.below h.rb hb, h.rn.below hb, h.ko.trans (others_of_below hb), h.kb.trans (KB.of_below hb h.st.bl.size (by omega)), Nat.le_trans h1 hb.size, h2⟩
theorem OMid.setQ {w W W5 : World} {A2 A3 : Option Addr} {c2 m N c3 D : Nat} {q : List Int} (h : OMid w W W5 A2 c2 m N q A3 c3 D) (i x : Int) : OMid w W (W5.setCell ⟨w.heap.size + 1 + 1 + 1, i.toNat, none⟩ (.int .i64 x)) A2 c2 m N (q.set i.toNat x) A3 c3 D := by
  have h2 := h.s5
  have hk : ∀ k, k ≠ w.heap.size + 1 + 1 + 1 → (W5.setCell ⟨w.heap.size + 1 + 1 + 1, i.toNat, none⟩ (.int .i64 x)).heap[k]? = W5.heap[k]? := fun k hk => Below.heap_setCell W5 ⟨w.heap.size + 1 + 1 + 1, i.toNat, none⟩ _ _ hk
  refine ⟨h.st.setQ i x, (hk _ (by omega)).trans h.rb, h.rn.setCell _ _ (by show w.heap.size + 1 + 1 + 1 < _; omega), h.ko.trans (KeepsOthers.setCell _ _ _), h.kb.trans ⟨(Below.refl w.heap.size W5).setCell (p := ⟨w.heap.size + 1 + 1 + 1, i.toNat, none⟩) (by show _ ≤ w.heap.size + 1 + 1 + 1; omega) _, hk _ (by omega)⟩, by simpa using h.sz, h2⟩

theorem over_search {m D ee Bb Br : Nat} {Am Ar : Option Addr} {cm cr : Nat} (W : World) (hm0 : 0 < m) (hgm : GL m ≤ 300) (hgr : GL D ≤ 1000) (hD : D / m ≤ 9999) (hee : D / m = ee) {tb tr : TypeId}
    (hm : Nm W (.slice Am (bd 10000 m).length cm) m) (hr : Nm W (.slice Ar (bd 10000 D).length cr) D)
    (hb : Boxed W Bb tb (.func (.func 108) #[.slice Am (bd 10000 m).length cm] #[])) (hrb : Boxed W Br tr (.slice Ar (bd 10000 D).length cr)) :
    Calls Tryz.prog 110 #[.int .i64 9999, .func (.func 109) #[] #[.pointer (some ⟨Bb, 0, none⟩), .pointer (some ⟨Br, 0, none⟩)]] W fun e W' => e = .returned (.int .i64 (ee : Int)) ∧ Below W.heap.size W W' := by
  have h := search_calls 109 #[.pointer (some ⟨Bb, 0, none⟩), .pointer (some ⟨Br, 0, none⟩)] 9999 (tooMuch m D) W (enters_of Tryz.func109 (by kernel_rfl) rfl) (by omega)
    (fun W' i hW hi => (over1_calls m D i Bb Br Am Ar cm cr W' (Nm.below hm hW) (Nm.below hr hW) hgm hgr hi (Boxed.below hb hW).cell (Boxed.below hrb hW).cell).mono (fun e w' ⟨a, b⟩ => ⟨a, hW.trans (b.mono hW.size)⟩))
    tooMuch_mono
  refine h.mono ?_
  rintro e W' ⟨r, rfl, h1, h2, h3, h4⟩
  obtain rfl := search_is hm0 hD h1 h2 h3
  exact ⟨by rw [hee], h4⟩

theorem over_close {w W W9 W10 : World} {A2 A3 A10 : Option Addr} {c2 m N c3 D c10 R : Nat} {q : List Int} (h : OMid w W W9 A2 c2 m N q A3 c3 D) (hb : Below W9.heap.size W9 W10) (hn : Nm W10 (.slice A10 (bd 10000 R).length c10) R) :
    KeepsOthers W (W10.setCell ⟨w.heap.size + 1 + 1, 0, none⟩ (.slice A10 (bd 10000 R).length c10)) ∧ KB w.heap.size (w.heap.size + 1 + 1 + 1 + 1) W (W10.setCell ⟨w.heap.size + 1 + 1, 0, none⟩ (.slice A10 (bd 10000 R).length c10)) ∧
    (∃ A c, Boxed (W10.setCell ⟨w.heap.size + 1 + 1, 0, none⟩ (.slice A10 (bd 10000 R).length c10)) (w.heap.size + 1 + 1) 98 (.slice A (bd 10000 R).length c) ∧ Nm (W10.setCell ⟨w.heap.size + 1 + 1, 0, none⟩ (.slice A10 (bd 10000 R).length c10)) (.slice A (bd 10000 R).length c) R) ∧
    OSt w (W10.setCell ⟨w.heap.size + 1 + 1, 0, none⟩ (.slice A10 (bd 10000 R).length c10)) A2 c2 m N q := by
  have h1 := h.below hb
  exact ⟨h1.ko.trans (KeepsOthers.setCell _ _ _), h1.kb.trans (KB.setCell _ _ _ (by omega) (by omega)), ⟨A10, c10, h1.rb.set _, Nm.setBox hn h1.rb _⟩, h1.st.setR _⟩
theorem over_close' {w W W9 W10 : World} {A2 A3 A10 : Option Addr} {c2 m N c3 D c10 n0 R : Nat} {q : List Int} {S : Nat × List Int} (h0 : n0 = R) (hsn : S = (R, q)) (h : OMid w W W9 A2 c2 m N q A3 c3 D) (hb : Below W9.heap.size W9 W10) (hn : Nm W10 (.slice A10 (bd 10000 n0).length c10) n0) :
    KeepsOthers W (W10.setCell ⟨w.heap.size + 1 + 1, 0, none⟩ (.slice A10 (bd 10000 n0).length c10)) ∧ KB w.heap.size (w.heap.size + 1 + 1 + 1 + 1) W (W10.setCell ⟨w.heap.size + 1 + 1, 0, none⟩ (.slice A10 (bd 10000 n0).length c10)) ∧
    ((∃ A c, Boxed (W10.setCell ⟨w.heap.size + 1 + 1, 0, none⟩ (.slice A10 (bd 10000 n0).length c10)) (w.heap.size + 1 + 1) 98 (.slice A (bd 10000 S.1).length c) ∧ Nm (W10.setCell ⟨w.heap.size + 1 + 1, 0, none⟩ (.slice A10 (bd 10000 n0).length c10)) (.slice A (bd 10000 S.1).length c) S.1) ∧
    OSt w (W10.setCell ⟨w.heap.size + 1 + 1, 0, none⟩ (.slice A10 (bd 10000 n0).length c10)) A2 c2 m N S.2) := by
  subst h0; subst hsn
  exact over_close h hb hn
theorem OMid.boxQ {W : World} {B k i : Nat} {ty : TypeId} {v u : Value} (h : Boxed W B ty v) (hk : B ≠ k) : Boxed (W.setCell ⟨k, i, none⟩ u) B ty v := (Below.heap_setCell W ⟨k, i, none⟩ u B hk).trans h

/-- at over's end: both results lie in their boxes -/
theorem over_done {w W W3 : World} {A2 A3 A : Option Addr} {c2 m N c3 c n r D : Nat} {q : List Int} (hO : OSt w W A2 c2 m N q) (hrb : Boxed W (w.heap.size + 1 + 1) 98 (.slice A (bd 10000 r).length c)) (hrn : Nm W (.slice A (bd 10000 r).length c) r)
    (hb : Below W.heap.size W W3) (hn : Nm W3 (.slice A3 (bd 10000 n).length c3) n) (hK : W.heap[D]? = some (.deferred (some []))) :
    ∃ W5, (W3.setCell ⟨w.heap.size + 1, 0, none⟩ (.slice A3 (bd 10000 n).length c3)).setCell ⟨w.heap.size + 1 + 1, 0, none⟩ (.slice A (bd 10000 r).length c) = W5 ∧ W5.cell? ⟨w.heap.size + 1, 0, none⟩ = some (.slice A3 (bd 10000 n).length c3) ∧ W5.cell? ⟨w.heap.size + 1 + 1, 0, none⟩ = some (.slice A (bd 10000 r).length c) ∧
      Nm W5 (.slice A3 (bd 10000 n).length c3) n ∧ Nm W5 (.slice A (bd 10000 r).length c) r ∧ Below w.heap.size w W5 ∧ W5.heap[D]? = some (.deferred (some [])) := by
  have h3 := hO.below hb
  have hr3 := Boxed.below hrb hb
  have hn3 := Nm.below hrn hb
  have q1 := h3.qb.set (.slice A3 (bd 10000 n).length c3)
  have r1 := Boxed.keepB (k := w.heap.size + 1) hr3 (.slice A3 (bd 10000 n).length c3) (by omega)
  have q2 := Boxed.keepB (k := w.heap.size + 1 + 1) q1 (.slice A (bd 10000 r).length c) (by omega)
  have r2 := r1.set (.slice A (bd 10000 r).length c)
  refine ⟨_, rfl, q2.cell, r2.cell, Nm.setBox (Nm.setBox hn h3.qb _) r1 _, Nm.setBox (Nm.setBox hn3 h3.qb _) r1 _, ?_, ?_⟩
  · exact (h3.bl.setCell (p := ⟨w.heap.size + 1, 0, none⟩) (by show _ ≤ w.heap.size + 1; omega) _).setCell (p := ⟨w.heap.size + 1 + 1, 0, none⟩) (by show _ ≤ w.heap.size + 1 + 1; omega) _
  · exact ((KeepsOthers.setCell _ _ _).trans (KeepsOthers.setCell _ _ _)).same D _ (((others_of_below hb).same D _ hK rfl)) rfl

end Go.Proofs.YtnhjidbjibehpaaGreatDoor.L3
