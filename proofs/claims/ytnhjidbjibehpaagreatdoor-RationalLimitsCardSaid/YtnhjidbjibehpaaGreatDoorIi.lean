/- Layer 3, walked: the binary search, and the closure that it asks in number.over. -/
import Derived.Test.YtnhjidbjibehpaaGreatDoorIh
import Derived.Deep.RegionWith
namespace Go.Proofs.YtnhjidbjibehpaaGreatDoor.L3
open Go.Shelf Go.RowKit Go.Proofs.YtnhjidbjibehpaaGreatDoorW.PrintWords Go.Proofs.YtnhjidbjibehpaaGreatDoorW.PrintLast Go.Proofs.YtnhjidbjibehpaaGreatDoorW.PrintMore Yd
set_option linter.unusedVariables false
set_option linter.unusedSimpArgs false

set_option maxHeartbeats 4000000 in
set_option maxRecDepth 100000 in
/-- sort.Search: the first place at which the closure says yes. -/
theorem search_calls (g : Nat) (cb : Array Value) (n : Nat) (p : Nat → Bool) (w : World) (eg : ∀ args w, (callFunc g args).run Tryz.prog w = .ok (.enter g args) w) (hsz : n < 100000)
    (hf : ∀ (W : World) (i : Nat), Below w.heap.size w W → i < n → Calls Tryz.prog g (#[.int .i64 i] ++ cb) W fun e w' => e = .returned (.bool (p i)) ∧ Below w.heap.size w w')
    (hmono : ∀ a b, a ≤ b → b < n → p a = true → p b = true) :
    Calls Tryz.prog 110 #[.int .i64 n, .func (.func g) #[] cb] w fun e w' => ∃ r : Nat, e = .returned (.int .i64 r) ∧ r ≤ n ∧ (∀ t, t < r → p t = false) ∧ (∀ t, r ≤ t → t < n → p t = true) ∧ Below w.heap.size w w' := by
  have HF := Aside0.mk hf
  have M := Aside0.mk hmono
  clear hf hmono
  go_enter Tryz.func110, Tryz.ntmps110
  go_wp2
  go_loopg [5, 6] n (fun kx s5 s6 wr => ∃ (lo hi : Nat), s5 = .int .i64 lo ∧ s6 = .int .i64 hi ∧ lo ≤ hi ∧ hi ≤ n ∧ hi - lo ≤ kx ∧ Aside0 (Below w.heap.size w wr) ∧
    Aside0 ((∀ t, t < lo → p t = false) ∧ (∀ t, hi ≤ t → t < n → p t = true)))
  case atStart => exact ⟨0, n, rfl, rfl, Nat.zero_le _, Nat.le_refl _, by omega, ⟨Below.refl _ _⟩, ⟨fun t ht => absurd ht (Nat.not_lt_zero _), fun t h1 h2 => by omega⟩⟩
  case round =>
    obtain ⟨lo, hi, rfl, rfl, hlh, hin, hg, HB, I⟩ := hrel
    by_cases hlt : lo < hi
    · have hc := HF.out wr ((lo + hi) / 2) HB.out (by omega)
      rw [show (((lo + hi) / 2 : Nat) : Int) = ((lo : Int) + (hi : Int)) / 2 by omega] at hc
      cases hp : p ((lo + hi) / 2) <;> rw [hp] at hc
      · have HP := Aside0.mk hp
        have HC := Aside0.mk hc
        clear hp hc
        go_wp2_with fail
        refine HC.out.mono ?_
        rintro e w' ⟨rfl, hb⟩
        have HB' := Aside0.mk hb
        clear hb
        go_wp2_with fail
        go_roundg (hi - ((lo + hi) / 2 + 1))
        case measure => omega
        case rel =>
          have I2 : Aside0 ((∀ t, t < (lo + hi) / 2 + 1 → p t = false) ∧ (∀ t, hi ≤ t → t < n → p t = true)) := ⟨fun t ht => (by
            cases h : p t with
            | false => rfl
            | true => have := M.out t ((lo + hi) / 2) (by omega) (by omega) h; rw [HP.out] at this; cases this), I.out.2⟩
          exact ⟨(lo + hi) / 2 + 1, hi, by rw [show ((lo : Int) + (hi : Int)) / 2 + 1 = (((lo + hi) / 2 + 1 : Nat) : Int) by omega], rfl, by omega, hin, Nat.le_refl _, HB', I2⟩
      · have HP := Aside0.mk hp
        have HC := Aside0.mk hc
        clear hp hc
        go_wp2_with fail
        refine HC.out.mono ?_
        rintro e w' ⟨rfl, hb⟩
        have HB' := Aside0.mk hb
        clear hb
        go_wp2_with fail
        go_roundg ((lo + hi) / 2 - lo)
        case measure => omega
        case rel =>
          have I2 : Aside0 ((∀ t, t < lo → p t = false) ∧ (∀ t, (lo + hi) / 2 ≤ t → t < n → p t = true)) := ⟨I.out.1, fun t ht htn => M.out ((lo + hi) / 2) t ht htn HP.out⟩
          exact ⟨lo, (lo + hi) / 2, rfl, by rw [show ((lo : Int) + (hi : Int)) / 2 = (((lo + hi) / 2 : Nat) : Int) by omega], by omega, by omega, Nat.le_refl _, HB', I2⟩
    · obtain rfl : hi = lo := by omega
      go_wp2
      go_ret
      exact ⟨hi, rfl, hin, I.out.1, I.out.2, HB.out⟩

/-- r < m * (d + 1) -/
def tooMuch (m r d : Nat) : Bool := decide (r < m * (d + 1))
theorem tooMuch_cmp (m r d : Nat) : decide (0 < cmpI ((m * (d + 1) : Nat) : Int) (r : Int)) = tooMuch m r d := by
  unfold tooMuch cmpI
  by_cases h : r < m * (d + 1)
  · rw [if_neg (by omega), if_pos (by omega)]; simp [h]
  · rw [decide_eq_false h]
    by_cases h2 : m * (d + 1) < r
    · rw [if_pos (by omega)]; rfl
    · rw [if_neg (by omega), if_neg (by omega)]; rfl

set_option maxHeartbeats 4000000 in
set_option maxRecDepth 100000 in
theorem over1_calls (m r d Bb Br : Nat) (Am Ar : Option Addr) (cm cr : Nat) (w : World) (hm : Nm w (.slice Am (bd 10000 m).length cm) m) (hr : Nm w (.slice Ar (bd 10000 r).length cr) r) (hgm : GL m ≤ 300) (hgr : GL r ≤ 1000) (hd : d < 9999)
    (hb : w.cell? ⟨Bb, 0, none⟩ = some (.func (.func 108) #[.slice Am (bd 10000 m).length cm] #[])) (hrb : w.cell? ⟨Br, 0, none⟩ = some (.slice Ar (bd 10000 r).length cr)) :
    Calls Tryz.prog 109 #[.int .i64 d, .pointer (some ⟨Bb, 0, none⟩), .pointer (some ⟨Br, 0, none⟩)] w fun e w' => e = .returned (.bool (tooMuch m r d)) ∧ Below w.heap.size w w' := by
  have HM := Aside0.mk hm
  have HR := Aside0.mk hr
  have HGM := Aside0.mk hgm
  have HGR := Aside0.mk hgr
  have HGL := Aside0.mk (GL_mul_le (a := m) (d := d + 1) hgm (by omega))
  have ht := tooMuch_cmp m r d
  rw [show ((m * (d + 1) : Nat) : Int) = (m : Int) * ((d : Int) + 1) by norm_cast] at ht
  have HT := Aside0.mk ht
  clear ht
  have hblt := eq_true (World.block_lt_of_cell? w _ hrb)
  have HBLT := Aside0.mk (World.block_lt_of_cell? w _ hrb)
  have hsum : IntKind.i64.wrap ((d : Int) + 1) = (d : Int) + 1 := IntWalk.i64_in _ (by omega)
  clear hm hr hgm hgr
  go_enter Tryz.func109, Tryz.ntmps109
  go_wp2_with fail
  go_region_with (first
    | (go_at_call 108; refine (nby_calls _ m (d + 1) _ (Nm.below (w := w) HM.out (below_drew (Below.refl _ w))) (by have := HGM.out; omega) (by omega)).mono ?_; rintro e W3 ⟨v3, rfl, hn3, hb3⟩; have hc3 := (Below.cell hb3 (p := ⟨Br, 0, none⟩) HBLT.out).trans hrb; have HN3 := Aside0.mk hn3; have HB3 := Aside0.mk hb3; clear hn3 hb3)
    | (go_at_call 80; refine (ncmp_calls _ _ (m * (d + 1)) r _ HN3.out (Nm.below (w := w.drew) HR.out HB3.out) (Nat.le_trans HGL.out (by omega)) HGR.out).mono ?_; rintro e W4 ⟨rfl, hb4⟩; have HB4 := Aside0.mk hb4; clear hb4))
  all_goals
    rw [HT.out]
    go_wp2_with fail
    go_ret
    exact ⟨rfl, (below_drew (Below.refl _ w)).trans (HB3.out.trans (HB4.out.mono HB3.out.size))⟩

end Go.Proofs.YtnhjidbjibehpaaGreatDoor.L3
