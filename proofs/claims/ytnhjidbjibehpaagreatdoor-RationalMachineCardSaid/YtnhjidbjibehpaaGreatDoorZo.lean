/- Layer 4: sane, walked. -/
import Derived.Test.YtnhjidbjibehpaaGreatDoorZn
namespace Go.Proofs.YtnhjidbjibehpaaGreatDoor.L4
open Go.Shelf Go.RowKit Go.Proofs.YtnhjidbjibehpaaGreatDoorW.PrintWords Go.Proofs.YtnhjidbjibehpaaGreatDoorW.PrintLast Go.Proofs.YtnhjidbjibehpaaGreatDoorW.PrintMore Yd L3
set_option linter.unusedVariables false
set_option linter.unusedSimpArgs false
attribute [local go_sem ↓] Go.wp_at_zero Go.wp_at_succ

/-- boxes of fractions, as they lie in the world -/
structure All (l : List (Nat × ByteArray × ByteArray)) (w W : World) : Prop where
  bl : Below w.heap.size w W
  bx : ∀ x ∈ l, W.heap[x.1]? = some (.cells #[.string x.2.1, .string x.2.2] 23)
theorem All.nil (w : World) : All [] w w := ⟨Below.refl _ w, fun _ h => by cases h⟩
theorem All.next {l : List (Nat × ByteArray × ByteArray)} {w W W' : World} (h : All l w W) (hb : Below W.heap.size W W') : All l w W' :=
  ⟨h.bl.trans (hb.mono h.bl.size), fun x hx => (hb.block _ (blk_lt (h.bx x hx))).trans (h.bx x hx)⟩
theorem All.push {l : List (Nat × ByteArray × ByteArray)} {w W : World} (h : All l w W) (s t : ByteArray) : All ((W.heap.size, s, t) :: l) w (W.alloc (.cells #[.string s, .string t] 23)) := by
  refine ⟨(h.next (below_alloc (Below.refl _ W) _)).bl, fun x hx => ?_⟩
  rcases List.mem_cons.1 hx with rfl | hx
  · exact alloc_here W _
  · exact (h.next (below_alloc (Below.refl _ W) _)).bx x hx
theorem All.env {l : List (Nat × ByteArray × ByteArray)} {w W : World} (h : All l w W) (he : Env w) : Env W := he.below h.bl
theorem All.tail {x : Nat × ByteArray × ByteArray} {l : List (Nat × ByteArray × ByteArray)} {w W : World} (h : All (x :: l) w W) : All l w W := ⟨h.bl, fun y hy => h.bx y (List.mem_cons_of_mem _ hy)⟩
theorem All.apart {l : List (Nat × ByteArray × ByteArray)} {w W : World} (h : All l w W) : w.heap.size ≤ W.heap.size ∧ ∀ x ∈ l, x.1 ≠ W.heap.size := ⟨h.bl.size, fun x hx => Nat.ne_of_lt (blk_lt (h.bx x hx))⟩
theorem All.put {a : Nat} {s t : ByteArray} {l : List (Nat × ByteArray × ByteArray)} {w W : World} (h : All ((a, s, t) :: l) w W) (ha : w.heap.size ≤ a ∧ ∀ x ∈ l, x.1 ≠ a) (s' t' : ByteArray) : All ((a, s', t') :: l) w ((W.setCell ⟨a, 0, none⟩ (.string s')).setCell ⟨a, 1, none⟩ (.string t')) := by
  refine ⟨(h.bl.setCell (p := ⟨a, 0, none⟩) ha.1 _).setCell (p := ⟨a, 1, none⟩) ha.1 _, fun x hx => ?_⟩
  rcases List.mem_cons.1 hx with rfl | hx
  · exact blk_set (blk_set (h.bx _ (List.mem_cons_self ..)) 0 (.string s')) 1 (.string t')
  · exact ((Below.heap_setCell _ ⟨a, 1, none⟩ _ _ (ha.2 x hx)).trans (Below.heap_setCell _ ⟨a, 0, none⟩ _ _ (ha.2 x hx))).trans (h.bx x (List.mem_cons_of_mem _ hx))
/-- the cells -/
def Cells (W : World) : List (Nat × ByteArray × ByteArray) → Prop
  | [] => True
  | [x] => W.cell? ⟨x.1, 0, none⟩ = some (.string x.2.1) ∧ W.cell? ⟨x.1, 1, none⟩ = some (.string x.2.2)
  | x :: y :: l => W.cell? ⟨x.1, 0, none⟩ = some (.string x.2.1) ∧ W.cell? ⟨x.1, 1, none⟩ = some (.string x.2.2) ∧ Cells W (y :: l)
theorem cells_of {W : World} : ∀ l : List (Nat × ByteArray × ByteArray), (∀ x ∈ l, W.heap[x.1]? = some (.cells #[.string x.2.1, .string x.2.2] 23)) → Cells W l
  | [], _ => trivial
  | [x], h => ⟨blk_cell (h x (List.mem_cons_self ..)) 0, blk_cell (h x (List.mem_cons_self ..)) 1⟩
  | x :: y :: l, h => ⟨blk_cell (h x (List.mem_cons_self ..)) 0, blk_cell (h x (List.mem_cons_self ..)) 1, cells_of (y :: l) (fun z hz => h z (List.mem_cons_of_mem _ hz))⟩
theorem All.cells {l : List (Nat × ByteArray × ByteArray)} {w W : World} (h : All l w W) : Cells W l := cells_of l h.bx

set_option maxRecDepth 100000 in
set_option maxHeartbeats 16000000 in
/-- sane -/
theorem sane_calls (w : World) (hE : Env w) :
    Calls Tryz.prog 11 #[] w fun e w' => e = .returned (.bool true) ∧ Below w.heap.size w w' := by
  have HE := Aside0.mk hE
  have HL := Aside0.mk (All.nil w)
  clear hE
  go_enter Tryz.func11, Tryz.ntmps11
  go_wp2_with fail
  refine (p_of 6 (-4) _ (HL.out.env HE.out) (by omega) (by omega) (by omega) (by omega)).mono ?_
  rintro e V ⟨rfl, hb⟩
  have hl := HL.out.next hb
  clear HL
  rw [s_a]
  unfold ratV
  go_wp2_with fail
  have HL := Aside0.mk (hl.push ⟨#[45, 51]⟩ ⟨#[50]⟩)
  clear hb hl
  generalize V.alloc (.cells #[.string ⟨#[45, 51]⟩, .string ⟨#[50]⟩] 23) = W at *
  generalize V.heap.size = a1 at *
  go_wp2_with fail
  refine (p_of 0 (-5) _ (HL.out.env HE.out) (by omega) (by omega) (by omega) (by omega)).mono ?_
  rintro e V ⟨rfl, hb⟩
  have hl := HL.out.next hb
  clear HL
  rw [s_b]
  unfold ratV
  go_wp2_with fail
  have HL := Aside0.mk (hl.push ⟨#[48]⟩ ⟨#[49]⟩)
  clear hb hl
  generalize V.alloc (.cells #[.string ⟨#[48]⟩, .string ⟨#[49]⟩] 23) = W at *
  generalize V.heap.size = a3 at *
  go_wp2_with fail
  refine (p_of 1 0 _ (HL.out.env HE.out) (by omega) (by omega) (by omega) (by omega)).mono ?_
  rintro e V ⟨rfl, hb⟩
  have hl := HL.out.next hb
  clear HL
  rw [s_g]
  unfold badR ratV
  go_wp2_with fail
  have HL := Aside0.mk (hl.push ⟨#[]⟩ ⟨#[]⟩)
  clear hb hl
  generalize V.alloc (.cells #[.string ⟨#[]⟩, .string ⟨#[]⟩] 23) = W at *
  generalize V.heap.size = a5 at *
  go_wp2_with fail
  refine (p_is ⟨#[49]⟩ ⟨#[50]⟩ _).mono ?_
  rintro e V ⟨rfl, hb⟩
  have hl := HL.out.next hb
  clear HL
  have HL := Aside0.mk hl
  clear hb hl
  go_wp2_with fail
  refine (p_is ⟨#[49]⟩ ⟨#[51]⟩ _).mono ?_
  rintro e V ⟨rfl, hb⟩
  have hl := HL.out.next hb
  clear HL
  have HL := Aside0.mk hl
  clear hb hl
  go_wp2_with fail
  refine (p_add ⟨#[49]⟩ ⟨#[50]⟩ ⟨#[49]⟩ ⟨#[51]⟩ _ (HL.out.env HE.out)).mono ?_
  rintro e V ⟨rfl, hb⟩
  have hl := HL.out.next hb
  clear HL
  rw [s_c]
  unfold ratV
  go_wp2_with fail
  have HL := Aside0.mk (hl.push ⟨#[53]⟩ ⟨#[54]⟩)
  clear hb hl
  generalize V.alloc (.cells #[.string ⟨#[53]⟩, .string ⟨#[54]⟩] 23) = W at *
  generalize V.heap.size = a7 at *
  go_wp2_with fail
  refine (p_is ⟨#[49]⟩ ⟨#[50]⟩ _).mono ?_
  rintro e V ⟨rfl, hb⟩
  have hl := HL.out.next hb
  clear HL
  have HL := Aside0.mk hl
  clear hb hl
  go_wp2_with fail
  refine (p_is ⟨#[45, 49]⟩ ⟨#[52]⟩ _).mono ?_
  rintro e V ⟨rfl, hb⟩
  have hl := HL.out.next hb
  clear HL
  have HL := Aside0.mk hl
  clear hb hl
  go_wp2_with fail
  refine (p_div ⟨#[49]⟩ ⟨#[50]⟩ ⟨#[45, 49]⟩ ⟨#[52]⟩ _ (HL.out.env HE.out)).mono ?_
  rintro e V ⟨rfl, hb⟩
  have hl := HL.out.next hb
  clear HL
  rw [s_d]
  unfold ratV
  go_wp2_with fail
  have HL := Aside0.mk (hl.push ⟨#[45, 50]⟩ ⟨#[49]⟩)
  clear hb hl
  generalize V.alloc (.cells #[.string ⟨#[45, 50]⟩, .string ⟨#[49]⟩] 23) = W at *
  generalize V.heap.size = a9 at *
  go_cut [12] (fun v12 wc => v12 = .int .i64 40 ∧ Aside0 (All [(a9, ⟨#[45, 50]⟩, ⟨#[49]⟩), (a7, ⟨#[53]⟩, ⟨#[54]⟩), (a5, ⟨#[]⟩, ⟨#[]⟩), (a3, ⟨#[48]⟩, ⟨#[49]⟩), (a1, ⟨#[45, 51]⟩, ⟨#[50]⟩)] w wc))
  case first =>
    obtain ⟨c0, c1, f0, f1⟩ := pair_facts (HL.out.bx (a3, ⟨#[48]⟩, ⟨#[49]⟩) (by simp))
    have hw := HL.out.next (below_drew (Below.refl _ W))
    clear HL
    have HL := Aside0.mk hw
    clear hw
    go_region_held3 (fun w' => w'.cell? ⟨a3, 0, none⟩ = some (.string ⟨#[48]⟩) ∧ w'.cell? ⟨a3, 1, none⟩ = some (.string ⟨#[49]⟩)) (first | exact ⟨c0, c1⟩ | go_keep) (first
    | (go_at_call 24; refine (p_is ⟨#[49]⟩ ⟨#[49]⟩ _).mono ?_; rintro e V ⟨rfl, hb⟩; have hl := HL.out.next hb; clear HL; have HL := Aside0.mk hl; obtain ⟨c0, c1, f0, f1⟩ := pair_facts (hl.bx (a3, ⟨#[48]⟩, ⟨#[49]⟩) (by simp)); obtain ⟨x0, x1, xf0, xf1⟩ := pair_facts (hl.bx _ (List.mem_cons_self ..)); clear hb hl)
    | (go_at_call 24; have hap := HL.out.apart; (try rw [show W.drew.heap.size = W.heap.size from rfl] at hap); have HAP := Aside0.mk hap; have hne3 := hap.2 (a3, ⟨#[48]⟩, ⟨#[49]⟩) (by simp); dsimp only at hne3; have hne3' := Ne.symm hne3; have hpu := HL.out.push ⟨#[]⟩ ⟨#[]⟩; (try rw [show W.drew.heap.size = W.heap.size from rfl] at hpu); have HPU := Aside0.mk hpu; clear hap hpu; refine (p_is ⟨#[49]⟩ ⟨#[49]⟩ _).mono ?_; rintro e V ⟨rfl, hb⟩; have hl := HPU.out.next hb; clear HL HPU; have HL := Aside0.mk hl; obtain ⟨c0, c1, f0, f1⟩ := pair_facts (hl.bx (a3, ⟨#[48]⟩, ⟨#[49]⟩) (by simp)); obtain ⟨x0, x1, xf0, xf1⟩ := pair_facts (hl.bx _ (List.mem_cons_self ..)); clear hb hl)
    | (go_at_call 26; refine (p_div ⟨#[49]⟩ ⟨#[49]⟩ ⟨#[48]⟩ ⟨#[49]⟩ _ (HL.out.env HE.out)).mono ?_; rintro e V ⟨rfl, hb⟩; have hl := HL.out.next hb; clear HL; have HL := Aside0.mk hl; rw [s_j]; unfold badR ratV; obtain ⟨c0, c1, f0, f1⟩ := pair_facts (hl.bx (a3, ⟨#[48]⟩, ⟨#[49]⟩) (by simp)); obtain ⟨x0, x1, xf0, xf1⟩ := pair_facts (hl.bx _ (List.mem_cons_self ..)); clear hb hl)
    | (go_at_call 26; have hap := HL.out.apart; (try rw [show W.drew.heap.size = W.heap.size from rfl] at hap); have HAP := Aside0.mk hap; have hne3 := hap.2 (a3, ⟨#[48]⟩, ⟨#[49]⟩) (by simp); dsimp only at hne3; have hne3' := Ne.symm hne3; have hpu := HL.out.push ⟨#[]⟩ ⟨#[]⟩; (try rw [show W.drew.heap.size = W.heap.size from rfl] at hpu); have HPU := Aside0.mk hpu; clear hap hpu; refine (p_div ⟨#[49]⟩ ⟨#[49]⟩ ⟨#[48]⟩ ⟨#[49]⟩ _ (HPU.out.env HE.out)).mono ?_; rintro e V ⟨rfl, hb⟩; have hl := HPU.out.next hb; clear HL HPU; have HL := Aside0.mk hl; rw [s_j]; unfold badR ratV; obtain ⟨c0, c1, f0, f1⟩ := pair_facts (hl.bx (a3, ⟨#[48]⟩, ⟨#[49]⟩) (by simp)); obtain ⟨x0, x1, xf0, xf1⟩ := pair_facts (hl.bx _ (List.mem_cons_self ..)); clear hb hl))
    all_goals
      go_wp2_with fail
      go_meet
      case rel => exact ⟨rfl, ⟨by first | exact (HL.out.put HAP.out _ _).tail | exact (HL.out.push _ _).tail⟩⟩
  case rest =>
    obtain ⟨rfl, hl0⟩ := hcut
    clear HL
    have HL := hl0
    clear hl0
    go_wp2_with fail
    refine (p_is ⟨#[45, 49]⟩ ⟨#[51]⟩ _).mono ?_
    rintro e V ⟨rfl, hb⟩
    have hl := HL.out.next hb
    clear HL
    have HL := Aside0.mk hl
    clear hb hl
    go_wp2_with fail
    refine (p_down ⟨#[45, 49]⟩ ⟨#[51]⟩ 2 _ (HL.out.env HE.out)).mono ?_
    rintro e V ⟨rfl, hb⟩
    have hl := HL.out.next hb
    clear HL
    rw [s_k]
    unfold ratV
    go_wp2_with fail
    have HL := Aside0.mk (hl.push ⟨#[45, 49, 55]⟩ ⟨#[53, 48]⟩)
    clear hb hl
    generalize V.alloc (.cells #[.string ⟨#[45, 49, 55]⟩, .string ⟨#[53, 48]⟩] 23) = W at *
    generalize V.heap.size = a13 at *
    go_wp2_with fail
    refine (p_is ⟨#[49]⟩ ⟨#[51]⟩ _).mono ?_
    rintro e V ⟨rfl, hb⟩
    have hl := HL.out.next hb
    clear HL
    have HL := Aside0.mk hl
    clear hb hl
    go_wp2_with fail
    refine (p_up ⟨#[49]⟩ ⟨#[51]⟩ 2 _ (HL.out.env HE.out)).mono ?_
    rintro e V ⟨rfl, hb⟩
    have hl := HL.out.next hb
    clear HL
    rw [s_m]
    unfold ratV
    go_wp2_with fail
    have HL := Aside0.mk (hl.push ⟨#[49, 55]⟩ ⟨#[53, 48]⟩)
    clear hb hl
    generalize V.alloc (.cells #[.string ⟨#[49, 55]⟩, .string ⟨#[53, 48]⟩] 23) = W at *
    generalize V.heap.size = a15 at *
    go_wp2_with fail
    refine (p_parse ⟨#[45, 51, 47, 50]⟩ _ (HL.out.env HE.out) (by decide)).mono ?_
    rintro e V ⟨rfl, hb⟩
    have hl := HL.out.next hb
    clear HL
    rw [s_o]
    unfold ratV
    go_wp2_with fail
    have HL := Aside0.mk (hl.push ⟨#[45, 51]⟩ ⟨#[50]⟩)
    clear hb hl
    generalize V.alloc (.cells #[.string ⟨#[45, 51]⟩, .string ⟨#[50]⟩] 23) = W at *
    generalize V.heap.size = a17 at *
    go_wp2_with fail
    refine (p_parse ⟨#[54, 47, 52]⟩ _ (HL.out.env HE.out) (by decide)).mono ?_
    rintro e V ⟨rfl, hb⟩
    have hl := HL.out.next hb
    clear HL
    rw [s_q]
    unfold badR ratV
    go_upto_region 11 with (fail)
    have HL := Aside0.mk (hl.push ⟨#[]⟩ ⟨#[]⟩)
    clear hb hl
    generalize V.alloc (.cells #[.string ⟨#[]⟩, .string ⟨#[]⟩] 23) = W at *
    generalize V.heap.size = a19 at *
    have hl7 : All [(a17, ⟨#[45, 51]⟩, ⟨#[50]⟩), (a15, ⟨#[49, 55]⟩, ⟨#[53, 48]⟩), (a13, ⟨#[45, 49, 55]⟩, ⟨#[53, 48]⟩), (a9, ⟨#[45, 50]⟩, ⟨#[49]⟩), (a7, ⟨#[53]⟩, ⟨#[54]⟩), (a3, ⟨#[48]⟩, ⟨#[49]⟩), (a1, ⟨#[45, 51]⟩, ⟨#[50]⟩)] w W := ⟨HL.out.bl, fun x hx => HL.out.bx x (by
      simp only [List.mem_cons, List.mem_nil_iff, or_false] at hx ⊢
      rcases hx with h | h | h | h | h | h | h <;> simp [h])⟩
    clear HL
    have HL := Aside0.mk hl7
    clear hl7
    go_cut [21] (fun v21 wc => v21 = .bool true ∧ Aside0 (All [(a17, ⟨#[45, 51]⟩, ⟨#[50]⟩), (a15, ⟨#[49, 55]⟩, ⟨#[53, 48]⟩), (a13, ⟨#[45, 49, 55]⟩, ⟨#[53, 48]⟩), (a9, ⟨#[45, 50]⟩, ⟨#[49]⟩), (a7, ⟨#[53]⟩, ⟨#[54]⟩), (a3, ⟨#[48]⟩, ⟨#[49]⟩), (a1, ⟨#[45, 51]⟩, ⟨#[50]⟩)] w wc))
    case first =>
      go_wp2_with fail
      go_meet
      case rel => exact ⟨rfl, HL⟩
    case rest =>
      obtain ⟨rfl, hl0⟩ := hcut
      clear HL
      have HL := Aside0.mk (hl0.out.next (below_drew (Below.refl _ wc)))
      have hS := HL.out.cells
      clear hl0
      go_wp2_with fail
      go_region_held3 (fun w' => w'.cell? ⟨a17, 0, none⟩ = some (.string ⟨#[45, 51]⟩) ∧ w'.cell? ⟨a17, 1, none⟩ = some (.string ⟨#[50]⟩) ∧ w'.cell? ⟨a15, 0, none⟩ = some (.string ⟨#[49, 55]⟩) ∧ w'.cell? ⟨a15, 1, none⟩ = some (.string ⟨#[53, 48]⟩) ∧ w'.cell? ⟨a13, 0, none⟩ = some (.string ⟨#[45, 49, 55]⟩) ∧ w'.cell? ⟨a13, 1, none⟩ = some (.string ⟨#[53, 48]⟩) ∧ w'.cell? ⟨a9, 0, none⟩ = some (.string ⟨#[45, 50]⟩) ∧ w'.cell? ⟨a9, 1, none⟩ = some (.string ⟨#[49]⟩) ∧ w'.cell? ⟨a7, 0, none⟩ = some (.string ⟨#[53]⟩) ∧ w'.cell? ⟨a7, 1, none⟩ = some (.string ⟨#[54]⟩) ∧ w'.cell? ⟨a3, 0, none⟩ = some (.string ⟨#[48]⟩) ∧ w'.cell? ⟨a3, 1, none⟩ = some (.string ⟨#[49]⟩) ∧ w'.cell? ⟨a1, 0, none⟩ = some (.string ⟨#[45, 51]⟩) ∧ w'.cell? ⟨a1, 1, none⟩ = some (.string ⟨#[50]⟩)) (first | exact hS | go_keep) (first
      | (go_at_call 24; (with_reducible refine (p_is _ _ _).mono ?_); rintro e V ⟨rfl, hb⟩; have hl := HL.out.next hb; clear HL hS; have HL := Aside0.mk hl; have hS := hl.cells; clear hb hl)
      | (go_at_call 14; (with_reducible refine (p_print ⟨#[45, 51]⟩ ⟨#[50]⟩ _ (HL.out.env HE.out)).mono ?_); rintro e V ⟨rfl, hb⟩; have hl := HL.out.next hb; clear HL hS; have HL := Aside0.mk hl; have hS := hl.cells; rw [s_print]; clear hb hl)
      | (go_at_call 23; (with_reducible refine (p_cmp _ _ _ _ _ (HL.out.env HE.out)).mono ?_); rintro e V ⟨rfl, hb⟩; have hl := HL.out.next hb; clear HL hS; have HL := Aside0.mk hl; have hS := hl.cells; rw [s_cmp]; clear hb hl)
      | (go_at_call 17; (with_reducible refine (p_valid ⟨#[45, 51]⟩ ⟨#[50]⟩ _ (HL.out.env HE.out)).mono ?_); rintro e V ⟨rfl, hb⟩; have hl := HL.out.next hb; clear HL hS; have HL := Aside0.mk hl; have hS := hl.cells; rw [s_val]; clear hb hl)
      | (go_at_call 17; (with_reducible refine (p_valid ⟨#[]⟩ ⟨#[]⟩ _ (HL.out.env HE.out)).mono ?_); rintro e V ⟨rfl, hb⟩; have hl := HL.out.next hb; clear HL hS; have HL := Aside0.mk hl; have hS := hl.cells; rw [s_inv]; clear hb hl))
      all_goals
        go_wp2_with fail
        go_ret
        exact ⟨rfl, HL.out.bl⟩
end Go.Proofs.YtnhjidbjibehpaaGreatDoor.L4
