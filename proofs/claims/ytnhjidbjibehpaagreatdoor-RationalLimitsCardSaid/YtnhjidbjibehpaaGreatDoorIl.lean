/- Layer 3: the state of number.over's loop. -/
import Derived.Test.YtnhjidbjibehpaaGreatDoorIk
namespace Go.Proofs.YtnhjidbjibehpaaGreatDoor.L3
open Go.Shelf Go.RowKit Go.Proofs.YtnhjidbjibehpaaGreatDoorW.PrintWords Go.Proofs.YtnhjidbjibehpaaGreatDoorW.PrintLast Go.Proofs.YtnhjidbjibehpaaGreatDoorW.PrintMore Yd
set_option linter.unusedVariables false
set_option linter.unusedSimpArgs false

/-- The slice value is the number n, and what it reads lies in blocks from base on. -/
def NmV (base : Nat) (w : World) (v : Value) (n : Nat) : Prop :=
  ∃ A c, v = .slice A (bd 10000 n).length c ∧ (bd 10000 n).length ≤ c ∧ ∀ W' : World, (∀ k, base ≤ k → k < w.heap.size → W'.heap[k]? = w.heap[k]?) → ReadsInt W' .i64 A (bd 10000 n).length (bd 10000 n)
theorem NmV.nm {base : Nat} {w : World} {v : Value} {n : Nat} (h : NmV base w v n) : Nm w v n := by
  obtain ⟨A, c, e, hc, hr⟩ := h
  exact ⟨A, c, e, hc, hr w (fun _ _ _ => rfl)⟩
theorem NmV.move {base : Nat} {w W : World} {v : Value} {n : Nat} (h : NmV base w v n) (hb : ∀ k, base ≤ k → k < w.heap.size → W.heap[k]? = w.heap[k]?) (hs : w.heap.size ≤ W.heap.size) : NmV base W v n := by
  obtain ⟨A, c, e, hc, hr⟩ := h
  exact ⟨A, c, e, hc, fun W' hW => hr W' (fun k h1 h2 => (hW k h1 (by omega)).trans (hb k h1 h2))⟩
theorem NmV.below {base : Nat} {w W : World} {v : Value} {n : Nat} (h : NmV base w v n) (hb : Below w.heap.size w W) : NmV base W v n :=
  h.move (fun k _ h2 => hb.block k h2) hb.size
theorem NmV.setCell {base : Nat} {w : World} {v : Value} {n : Nat} (h : NmV base w v n) (p : Addr) (u : Value) (hp : p.block < base) : NmV base (w.setCell p u) v n :=
  h.move (fun k h1 _ => Below.heap_setCell w p u k (by omega)) (by simp)

open Go.Proofs.YtnhjidbjibehpaaGreatDoor.Ref in
theorem trimmed_callsV (base : Nat) (v : Value) (xs : List Int) (n : Nat) (w : World) (h : w.ownsRow base 3 1 v xs.length (nums .i64 xs)) (hbase : base ≤ w.heap.size) (hl : xs.length ≤ 1000000000) (hn : trimL xs = bd 10000 n) :
    Calls Tryz.prog 107 #[v] w fun e w' => ∃ v', e = .returned v' ∧ NmV base w' v' n ∧ Below w.heap.size w w' := by
  obtain ⟨A, c, rfl, hr⟩ := own_reads h
  have hc := own_le h
  have hV : Kd.V (Kd.int .i64) 3 w w.heap.size (fun k_ => base ≤ k_) (.slice A xs.length c) xs :=
    ⟨A, c, rfl, hc, fun W' hW => by
      have h2 := own_move (w1 := W') h (fun k hk => hW k (own_base h k hk) (own_lt h k hk))
      obtain ⟨A', c', e, hr'⟩ := own_reads h2
      obtain rfl : A = A' := by injection e
      exact Kd.C_of_reads (enc := Value.int .i64) (d := (0 : Int)) (h1 := fun _ => rfl) hr'⟩
  refine (integer_number_trimmed.calls (xs.length + 1) _ A c xs (trimL xs) w hV (trimmed_f xs hl)).mono ?_
  rintro e w' ⟨v', rfl, hv, hb⟩
  refine ⟨v', rfl, ?_, hb⟩
  rw [hn] at hv
  obtain ⟨A', c', e', hc', hf⟩ := hv
  exact ⟨A', c', e', hc', fun W' hW => Kd.reads_of_C (enc := Value.int .i64) (d := (0 : Int)) (h1 := fun _ => rfl) (hf W' (fun k hk hlt => hW k (by rcases hk with hk | hk <;> omega) hlt))⟩

/-- what the loop of over keeps: the boxes of m, q and r, and q's row. -/
structure OSt (w W : World) (A2 : Option Addr) (c2 m N : Nat) (q : List Int) : Prop where
  mb : Boxed W w.heap.size 98 (.slice A2 (bd 10000 m).length c2)
  qb : Boxed W (w.heap.size + 1) 98 (.slice (some ⟨w.heap.size + 1 + 1 + 1, 0, none⟩) N N)
  qd : W.ownsRow w.heap.size 3 1 (.slice (some ⟨w.heap.size + 1 + 1 + 1, 0, none⟩) N N) N (nums .i64 q)
  ql : q.length = N
  bl : Below w.heap.size w W
  sz : w.heap.size + 5 ≤ W.heap.size

theorem OSt.below {w W W' : World} {A2 : Option Addr} {c2 m N : Nat} {q : List Int} (h : OSt w W A2 c2 m N q) (hb : Below W.heap.size W W') : OSt w W' A2 c2 m N q :=
  ⟨Boxed.below h.mb hb, Boxed.below h.qb hb, pw_own_below h.qd hb, h.ql, h.bl.trans (hb.mono h.bl.size), Nat.le_trans h.sz hb.size⟩
theorem own_kept_nc {w w1 : World} {base : Nat} {e : TypeId} {size n : Nat} {v : Value} {xs : List Value} (h : w.ownsRow base e size v n xs) {row : Option Nat} (hg : w.grownBy w1 row) (hr : ∀ r, row = some r → ∃ o : Obj, w.heap[r]? = some o ∧ o.isCells = false) : w1.ownsRow base e size v n xs := by
  refine own_move h (fun k hk => hg.block k (own_lt h k hk) (fun he => ?_))
  obtain ⟨o, ho, hc⟩ := hr k he.symm
  obtain ⟨cells, hcl⟩ := own_typed h k hk
  rw [hcl] at ho
  injection ho with ho
  subst ho
  cases hc
theorem OSt.own {w W W' : World} {A2 : Option Addr} {c2 m N : Nat} {q : List Int} (h : OSt w W A2 c2 m N q) {row : Option Nat} (hg : W.grownBy W' row) (hr : ∀ r, row = some r → ∃ o : Obj, W.heap[r]? = some o ∧ o.isCells = false) (hbl : Below w.heap.size w W') : OSt w W' A2 c2 m N q :=
  ⟨Boxed.own h.mb hg hr, Boxed.own h.qb hg hr, own_kept_nc h.qd hg hr, h.ql, hbl, Nat.le_trans h.sz hg.size⟩
theorem OSt.setR {w W : World} {A2 : Option Addr} {c2 m N : Nat} {q : List Int} (h : OSt w W A2 c2 m N q) (u : Value) : OSt w (W.setCell ⟨w.heap.size + 1 + 1, 0, none⟩ u) A2 c2 m N q :=
  ⟨Boxed.keepB h.mb _ (by omega), Boxed.keepB h.qb _ (by omega), own_setCell h.qd (by simp [Value.ownBlock]) _, h.ql, h.bl.setCell (p := ⟨w.heap.size + 1 + 1, 0, none⟩) (by show _ ≤ w.heap.size + 1 + 1; omega) _, by simpa using h.sz⟩
theorem OSt.setQ {w W : World} {A2 : Option Addr} {c2 m N : Nat} {q : List Int} (h : OSt w W A2 c2 m N q) (i x : Int) : OSt w (W.setCell ⟨w.heap.size + 1 + 1 + 1, i.toNat, none⟩ (.int .i64 x)) A2 c2 m N (q.set i.toNat x) := by
  have hs := own_store h.qd i x
  refine ⟨?_, ?_, hs.1, by simp [h.ql], h.bl.setCell (p := ⟨w.heap.size + 1 + 1 + 1, i.toNat, none⟩) (by show _ ≤ w.heap.size + 1 + 1 + 1; omega) _, by simpa using h.sz⟩
  · exact (Below.heap_setCell W ⟨w.heap.size + 1 + 1 + 1, i.toNat, none⟩ _ _ (by show w.heap.size ≠ w.heap.size + 1 + 1 + 1; omega)).trans h.mb
  · exact (Below.heap_setCell W ⟨w.heap.size + 1 + 1 + 1, i.toNat, none⟩ _ _ (by show w.heap.size + 1 ≠ w.heap.size + 1 + 1 + 1; omega)).trans h.qb

theorem OSt.start (w : World) (A1 A2 : Option Addr) (c1 c2 l m N : Nat) (hN : N ≤ 1000) :
    OSt w (((((w.alloc (.cells #[.slice A2 (bd 10000 m).length c2] 98)).alloc (.cells #[.slice (some ⟨w.heap.size + 1 + 1 + 1, 0, none⟩) N N] 98)).alloc (.cells #[.slice none 0 0] 98)).alloc (.cells (madeCells #[.int .i64 0] N) 3)).alloc (.cells #[.slice A1 (bd 10000 l).length c1] 98)) A2 c2 m N (List.replicate N 0) ∧
    Boxed (((((w.alloc (.cells #[.slice A2 (bd 10000 m).length c2] 98)).alloc (.cells #[.slice (some ⟨w.heap.size + 1 + 1 + 1, 0, none⟩) N N] 98)).alloc (.cells #[.slice none 0 0] 98)).alloc (.cells (madeCells #[.int .i64 0] N) 3)).alloc (.cells #[.slice A1 (bd 10000 l).length c1] 98)) (w.heap.size + 1 + 1) 98 (.slice none 0 0) ∧
    Boxed (((((w.alloc (.cells #[.slice A2 (bd 10000 m).length c2] 98)).alloc (.cells #[.slice (some ⟨w.heap.size + 1 + 1 + 1, 0, none⟩) N N] 98)).alloc (.cells #[.slice none 0 0] 98)).alloc (.cells (madeCells #[.int .i64 0] N) 3)).alloc (.cells #[.slice A1 (bd 10000 l).length c1] 98)) (w.heap.size + 1 + 1 + 1 + 1) 98 (.slice A1 (bd 10000 l).length c1) ∧
    (((((w.alloc (.cells #[.slice A2 (bd 10000 m).length c2] 98)).alloc (.cells #[.slice (some ⟨w.heap.size + 1 + 1 + 1, 0, none⟩) N N] 98)).alloc (.cells #[.slice none 0 0] 98)).alloc (.cells (madeCells #[.int .i64 0] N) 3)).alloc (.cells #[.slice A1 (bd 10000 l).length c1] 98)).heap.size = w.heap.size + 5 := by
  obtain ⟨b0, b1⟩ := boxed3 w (.slice A2 (bd 10000 m).length c2) (.slice (some ⟨w.heap.size + 1 + 1 + 1, 0, none⟩) N N) (.slice none 0 0) 98 98 98
  have b2 := Boxed.new ((w.alloc (.cells #[.slice A2 (bd 10000 m).length c2] 98)).alloc (.cells #[.slice (some ⟨w.heap.size + 1 + 1 + 1, 0, none⟩) N N] 98)) 98 (.slice none 0 0)
  have hbl : Below w.heap.size w (((w.alloc (.cells #[.slice A2 (bd 10000 m).length c2] 98)).alloc (.cells #[.slice (some ⟨w.heap.size + 1 + 1 + 1, 0, none⟩) N N] 98)).alloc (.cells #[.slice none 0 0] 98)) := below_alloc (below_alloc (below_alloc (Below.refl _ _) _) _) _
  have hs : (((w.alloc (.cells #[.slice A2 (bd 10000 m).length c2] 98)).alloc (.cells #[.slice (some ⟨w.heap.size + 1 + 1 + 1, 0, none⟩) N N] 98)).alloc (.cells #[.slice none 0 0] 98)).heap.size = w.heap.size + 3 := by simp
  rw [show ((w.alloc (.cells #[.slice A2 (bd 10000 m).length c2] 98)).alloc (.cells #[.slice (some ⟨w.heap.size + 1 + 1 + 1, 0, none⟩) N N] 98)).heap.size = w.heap.size + 1 + 1 by simp] at b2
  generalize (((w.alloc (.cells #[.slice A2 (bd 10000 m).length c2] 98)).alloc (.cells #[.slice (some ⟨w.heap.size + 1 + 1 + 1, 0, none⟩) N N] 98)).alloc (.cells #[.slice none 0 0] 98)) = W3 at *
  have hq := own_made W3 w.heap.size 3 .i64 N (by omega) (by omega)
  rw [hs] at hq
  have hz := Boxed.new (W3.alloc (.cells (madeCells #[.int .i64 0] N) 3)) 98 (.slice A1 (bd 10000 l).length c1)
  rw [show (W3.alloc (.cells (madeCells #[.int .i64 0] N) 3)).heap.size = w.heap.size + 1 + 1 + 1 + 1 by simp [hs]] at hz
  refine ⟨⟨(b0.alloc _).alloc _, (b1.alloc _).alloc _, World.ownsRow.alloc hq _, by simp, below_alloc (below_alloc hbl _) _, by simp [hs]⟩, (b2.alloc _).alloc _, hz, by simp [hs]⟩

theorem Nm.setBox' {W : World} {B : Nat} {ty : TypeId} {A0 : Option Addr} {l0 c0 : Nat} {v : Value} {n : Nat} (h : Nm W v n) (hb : Boxed W B ty (.slice A0 l0 c0)) (u : Value) : Nm (W.setCell ⟨B, 0, none⟩ u) v n := Nm.setBox h hb u

theorem over_grown {W w1 W3 : World} {u : Value} {m m' : Nat} (hg : (W.alloc (.cells #[u] 3)).grownBy w1 (Value.slice (some ⟨W.heap.size, 0, none⟩) m m').ownBlock) (hb : Below w1.heap.size w1 W3) : Below W.heap.size W W3 := by
  have h34 : Below W.heap.size W w1 := ((Below.refl _ W).alloc (Nat.le_refl _) _).grown hg (by simp) (by intro k hk; simp [Value.ownBlock] at hk; omega)
  exact h34.trans (hb.mono h34.size)

/-- the middle of a round: r's box holds the number that is divided -/
structure OMid (w W W5 : World) (A2 : Option Addr) (c2 m N : Nat) (q : List Int) (A3 : Option Addr) (c3 D : Nat) : Prop where
  st : OSt w W5 A2 c2 m N q
  rb : Boxed W5 (w.heap.size + 1 + 1) 98 (.slice A3 (bd 10000 D).length c3)
  rn : NmV W.heap.size W5 (.slice A3 (bd 10000 D).length c3) D
  ko : KeepsOthers W W5
  kb : KB w.heap.size (w.heap.size + 1 + 1 + 1 + 1) W W5
  sz : W.heap.size ≤ W5.heap.size
  s5 : w.heap.size + 5 ≤ W.heap.size
theorem over_mid {w W W3 : World} {A2 A3 A : Option Addr} {c2 m N c3 c l0 D : Nat} {q : List Int} (hO : OSt w W A2 c2 m N q) (hrb : Boxed W (w.heap.size + 1 + 1) 98 (.slice A l0 c))
    (hb : Below W.heap.size W W3) (hn : NmV W.heap.size W3 (.slice A3 (bd 10000 D).length c3) D) :
    OMid w W (W3.setCell ⟨w.heap.size + 1 + 1, 0, none⟩ (.slice A3 (bd 10000 D).length c3)) A2 c2 m N q A3 c3 D := by
  have h3 := hO.below hb
  have hr3 := Boxed.below hrb hb
  have hs := hO.sz
  have hs2 := hb.size
  exact ⟨h3.setR _, hr3.set _, hn.setCell _ _ (by show w.heap.size + 1 + 1 < _; omega), (others_of_below hb).trans (KeepsOthers.setCell _ _ _), (KB.of_below hb hO.bl.size (by omega)).trans (KB.setCell _ _ _ (by omega) (by omega)), by simpa using hs2, hs⟩
theorem OMid.below {w W W5 W6 : World} {A2 A3 : Option Addr} {c2 m N c3 D : Nat} {q : List Int} (h : OMid w W W5 A2 c2 m N q A3 c3 D) (hb : Below W5.heap.size W5 W6) : OMid w W W6 A2 c2 m N q A3 c3 D := by
  have h1 := h.sz
  have h2 := h.s5
  have h3 := h.st.sz
  exact ⟨h.st.below hb, Boxed.below h.rb hb, h.rn.below hb, h.ko.trans (others_of_below hb), h.kb.trans (KB.of_below hb h.st.bl.size (by omega)), Nat.le_trans h1 hb.size, h2⟩
theorem OMid.setQ {w W W5 : World} {A2 A3 : Option Addr} {c2 m N c3 D : Nat} {q : List Int} (h : OMid w W W5 A2 c2 m N q A3 c3 D) (i x : Int) : OMid w W (W5.setCell ⟨w.heap.size + 1 + 1 + 1, i.toNat, none⟩ (.int .i64 x)) A2 c2 m N (q.set i.toNat x) A3 c3 D := by
  have h2 := h.s5
  have hk : ∀ k, k ≠ w.heap.size + 1 + 1 + 1 → (W5.setCell ⟨w.heap.size + 1 + 1 + 1, i.toNat, none⟩ (.int .i64 x)).heap[k]? = W5.heap[k]? := fun k hk => Below.heap_setCell W5 ⟨w.heap.size + 1 + 1 + 1, i.toNat, none⟩ _ _ hk
  refine ⟨h.st.setQ i x, (hk _ (by omega)).trans h.rb, h.rn.setCell _ _ (by show w.heap.size + 1 + 1 + 1 < _; omega), h.ko.trans (KeepsOthers.setCell _ _ _), h.kb.trans ⟨(Below.refl w.heap.size W5).setCell (p := ⟨w.heap.size + 1 + 1 + 1, i.toNat, none⟩) (by show _ ≤ w.heap.size + 1 + 1 + 1; omega) _, hk _ (by omega)⟩, by simpa using h.sz, h2⟩

theorem over_search {m D ee Bb Br : Nat} {Am Ar : Option Addr} {cm cr : Nat} (W : World) (hm0 : 0 < m) (hgm : GL m ≤ 300) (hgr : GL D ≤ 1000) (hD : D / m ≤ 9999) (hee : D / m = ee) {tb tr : TypeId}
    (hm : Nm W (.slice Am (bd 10000 m).length cm) m) (hr : Nm W (.slice Ar (bd 10000 D).length cr) D)
    (hb : Boxed W Bb tb (.func (.func 108) #[.slice Am (bd 10000 m).length cm] #[])) (hrb : Boxed W Br tr (.slice Ar (bd 10000 D).length cr)) :
    Calls Tryz.prog 110 #[.int .i64 9999, .func (.func 109) #[] #[.pointer (some ⟨Bb, 0, none⟩), .pointer (some ⟨Br, 0, none⟩)]] W fun e W' => e = .returned (.int .i64 (ee : Int)) ∧ Below W.heap.size W W' := by
  have h := search_calls 109 #[.pointer (some ⟨Bb, 0, none⟩), .pointer (some ⟨Br, 0, none⟩)] 9999 (tooMuch m D) W (enters_of Tryz.func109 (by kernel_rfl) rfl) (by omega)
    (fun W' i hW hi => (over1_calls m D i Bb Br Am Ar cm cr W' (Nm.below hm hW) (Nm.below hr hW) hgm hgr hi (Boxed.below hb hW).cell (Boxed.below hrb hW).cell).mono (fun e w' ⟨a, b⟩ => ⟨a, hW.trans (b.mono hW.size)⟩))
    tooMuch_mono
  refine h.mono ?_
  rintro e W' ⟨r, rfl, h1, h2, h3, h4⟩
  obtain rfl := search_is hm0 hD h1 h2 h3
  exact ⟨by rw [hee], h4⟩

theorem over_close {w W W9 W10 : World} {A2 A3 A10 : Option Addr} {c2 m N c3 D c10 R : Nat} {q : List Int} (h : OMid w W W9 A2 c2 m N q A3 c3 D) (hb : Below W9.heap.size W9 W10) (hn : Nm W10 (.slice A10 (bd 10000 R).length c10) R) :
    KeepsOthers W (W10.setCell ⟨w.heap.size + 1 + 1, 0, none⟩ (.slice A10 (bd 10000 R).length c10)) ∧ KB w.heap.size (w.heap.size + 1 + 1 + 1 + 1) W (W10.setCell ⟨w.heap.size + 1 + 1, 0, none⟩ (.slice A10 (bd 10000 R).length c10)) ∧
    (∃ A c, Boxed (W10.setCell ⟨w.heap.size + 1 + 1, 0, none⟩ (.slice A10 (bd 10000 R).length c10)) (w.heap.size + 1 + 1) 98 (.slice A (bd 10000 R).length c) ∧ Nm (W10.setCell ⟨w.heap.size + 1 + 1, 0, none⟩ (.slice A10 (bd 10000 R).length c10)) (.slice A (bd 10000 R).length c) R) ∧
    OSt w (W10.setCell ⟨w.heap.size + 1 + 1, 0, none⟩ (.slice A10 (bd 10000 R).length c10)) A2 c2 m N q := by
  have h1 := h.below hb
  exact ⟨h1.ko.trans (KeepsOthers.setCell _ _ _), h1.kb.trans (KB.setCell _ _ _ (by omega) (by omega)), ⟨A10, c10, h1.rb.set _, Nm.setBox hn h1.rb _⟩, h1.st.setR _⟩
theorem over_close' {w W W9 W10 : World} {A2 A3 A10 : Option Addr} {c2 m N c3 D c10 n0 R : Nat} {q : List Int} {S : Nat × List Int} (h0 : n0 = R) (hsn : S = (R, q)) (h : OMid w W W9 A2 c2 m N q A3 c3 D) (hb : Below W9.heap.size W9 W10) (hn : Nm W10 (.slice A10 (bd 10000 n0).length c10) n0) :
    KeepsOthers W (W10.setCell ⟨w.heap.size + 1 + 1, 0, none⟩ (.slice A10 (bd 10000 n0).length c10)) ∧ KB w.heap.size (w.heap.size + 1 + 1 + 1 + 1) W (W10.setCell ⟨w.heap.size + 1 + 1, 0, none⟩ (.slice A10 (bd 10000 n0).length c10)) ∧
    ((∃ A c, Boxed (W10.setCell ⟨w.heap.size + 1 + 1, 0, none⟩ (.slice A10 (bd 10000 n0).length c10)) (w.heap.size + 1 + 1) 98 (.slice A (bd 10000 S.1).length c) ∧ Nm (W10.setCell ⟨w.heap.size + 1 + 1, 0, none⟩ (.slice A10 (bd 10000 n0).length c10)) (.slice A (bd 10000 S.1).length c) S.1) ∧
    OSt w (W10.setCell ⟨w.heap.size + 1 + 1, 0, none⟩ (.slice A10 (bd 10000 n0).length c10)) A2 c2 m N S.2) := by
  subst h0; subst hsn
  exact over_close h hb hn
theorem OMid.boxQ {W : World} {B k i : Nat} {ty : TypeId} {v u : Value} (h : Boxed W B ty v) (hk : B ≠ k) : Boxed (W.setCell ⟨k, i, none⟩ u) B ty v := (Below.heap_setCell W ⟨k, i, none⟩ u B hk).trans h

/-- at over's end: both results lie in their boxes -/
theorem over_done {w W W3 : World} {A2 A3 A : Option Addr} {c2 m N c3 c n r D : Nat} {q : List Int} (hO : OSt w W A2 c2 m N q) (hrb : Boxed W (w.heap.size + 1 + 1) 98 (.slice A (bd 10000 r).length c)) (hrn : Nm W (.slice A (bd 10000 r).length c) r)
    (hb : Below W.heap.size W W3) (hn : Nm W3 (.slice A3 (bd 10000 n).length c3) n) (hK : W.heap[D]? = some (.deferred (some []))) :
    ∃ W5, (W3.setCell ⟨w.heap.size + 1, 0, none⟩ (.slice A3 (bd 10000 n).length c3)).setCell ⟨w.heap.size + 1 + 1, 0, none⟩ (.slice A (bd 10000 r).length c) = W5 ∧ W5.cell? ⟨w.heap.size + 1, 0, none⟩ = some (.slice A3 (bd 10000 n).length c3) ∧ W5.cell? ⟨w.heap.size + 1 + 1, 0, none⟩ = some (.slice A (bd 10000 r).length c) ∧
      Nm W5 (.slice A3 (bd 10000 n).length c3) n ∧ Nm W5 (.slice A (bd 10000 r).length c) r ∧ Below w.heap.size w W5 ∧ W5.heap[D]? = some (.deferred (some [])) := by
  have h3 := hO.below hb
  have hr3 := Boxed.below hrb hb
  have hn3 := Nm.below hrn hb
  have q1 := h3.qb.set (.slice A3 (bd 10000 n).length c3)
  have r1 := Boxed.keepB (k := w.heap.size + 1) hr3 (.slice A3 (bd 10000 n).length c3) (by omega)
  have q2 := Boxed.keepB (k := w.heap.size + 1 + 1) q1 (.slice A (bd 10000 r).length c) (by omega)
  have r2 := r1.set (.slice A (bd 10000 r).length c)
  refine ⟨_, rfl, q2.cell, r2.cell, Nm.setBox (Nm.setBox hn h3.qb _) r1 _, Nm.setBox (Nm.setBox hn3 h3.qb _) r1 _, ?_, ?_⟩
  · exact (h3.bl.setCell (p := ⟨w.heap.size + 1, 0, none⟩) (by show _ ≤ w.heap.size + 1; omega) _).setCell (p := ⟨w.heap.size + 1 + 1, 0, none⟩) (by show _ ≤ w.heap.size + 1 + 1; omega) _
  · exact ((KeepsOthers.setCell _ _ _).trans (KeepsOthers.setCell _ _ _)).same D _ (((others_of_below hb).same D _ hK rfl)) rfl

end Go.Proofs.YtnhjidbjibehpaaGreatDoor.L3
