/- Layer 3, walked: isValid, Valid. -/
import Derived.Test.YtnhjidbjibehpaaGreatDoorId
import Derived.Test.YtnhjidbjibehpaaGreatDoorDec
import Derived.Test.YtnhjidbjibehpaaGreatDoorRef11
import Derived.Test.YtnhjidbjibehpaaGreatDoorShelf
import Derived.Deep.RegionWith
namespace Go.Proofs.YtnhjidbjibehpaaGreatDoor.L3
open Go.Shelf Go.RowKit Go.Proofs.YtnhjidbjibehpaaGreatDoorW.PrintWords Go.Proofs.YtnhjidbjibehpaaGreatDoorW.PrintLast Go.Proofs.YtnhjidbjibehpaaGreatDoorW.PrintMore Yd
set_option linter.unusedVariables false
set_option linter.unusedSimpArgs false

theorem ba_ext {a b : ByteArray} (h : a.data.toList = b.data.toList) : a = b := by
  obtain ⟨⟨l⟩⟩ := a
  obtain ⟨⟨m⟩⟩ := b
  simp only at h
  rw [h]
theorem ba_of {a : ByteArray} {l : List UInt8} (h : a.data.toList = l) : a = ⟨l.toArray⟩ := ba_ext (by rw [h])

theorem hasPrefix_dash (s : ByteArray) : Ref.stringslite_HasPrefix.f s ⟨#[45]⟩ = some (neg s.data.toList) := by
  unfold Ref.stringslite_HasPrefix.f
  have hz : ((⟨#[45]⟩ : ByteArray).size : Int) = 1 := rfl
  rw [hz]
  have hs := Lib.size_eq s
  cases hl : s.data.toList with
  | nil => rw [hl] at hs; rw [if_neg (by rw [hs]; simp)]; rfl
  | cons b t =>
    rw [hl] at hs
    rw [if_pos (by rw [hs]; simp; omega), if_pos (by omega), if_pos (by rw [hs]; simp; omega), Lib.extract_toList, Lib.toList_data, hl]
    simp [neg]
theorem trimPrefix_dash (s : ByteArray) : Ref.strings_TrimPrefix.f s ⟨#[45]⟩ = some ⟨(body s.data.toList).toArray⟩ := by
  unfold Ref.strings_TrimPrefix.f Ref.stringslite_TrimPrefix.f
  rw [hasPrefix_dash]
  simp only [Option.bind_some]
  have hz : ((⟨#[45]⟩ : ByteArray).size : Int) = 1 := rfl
  rw [hz]
  have hs := Lib.size_eq s
  cases hl : s.data.toList with
  | nil => rw [if_neg (by simp [neg])]; rw [Option.bind_some]; exact congrArg some (ba_of (by rw [hl]; rfl))
  | cons b t =>
    rw [hl] at hs
    by_cases hb : b = 45
    · subst hb
      rw [if_pos (by rfl), if_pos (by omega), if_pos (by rw [hs]; simp; omega), Option.bind_some]
      refine congrArg some (ba_of ?_)
      rw [Lib.extract_data, hl, hs]
      simp [body]
    · rw [if_neg (by simp [neg, hb]), Option.bind_some]
      exact congrArg some (ba_of (by rw [hl]; simp [body, hb]))
theorem trimPrefix_calls (s : ByteArray) (w : World) : Calls Tryz.prog 102 #[.string s, .string ⟨#[45]⟩] w fun e w' => e = .returned (.string ⟨(body s.data.toList).toArray⟩) ∧ Drawn0 w w' :=
  Ref.strings_TrimPrefix.calls s ⟨#[45]⟩ _ w (trimPrefix_dash s)

def digs : List UInt8 := [48, 49, 50, 51, 52, 53, 54, 55, 56, 57]
theorem digs_contains (b : UInt8) : digs.contains b = isDig b := by
  have h : ∀ i : Fin 256, digs.contains (UInt8.ofNat i.1) = isDig (UInt8.ofNat i.1) := by decide +kernel
  have := h ⟨b.toNat, b.toNat_lt⟩
  simpa using this
theorem dropWhile_nil_iff {α : Type} (p : α → Bool) : ∀ l : List α, l.dropWhile p = [] ↔ l.all p = true
  | [] => by simp
  | a :: t => by
    rw [List.dropWhile_cons, List.all_cons]
    cases h : p a
    · simp
    · simpa using dropWhile_nil_iff p t
theorem trimS_digs (l : List UInt8) : Lib.trimS l digs = [] ↔ l.all isDig = true := by
  have hc : (fun b => digs.contains b) = isDig := funext digs_contains
  unfold Lib.trimS Lib.trimLeftS Lib.trimRightS
  rw [hc, dropWhile_nil_iff]
  constructor
  · intro h
    rw [List.all_reverse] at h
    have h2 : (l.reverse.dropWhile isDig) = [] := by
      cases hd : l.reverse.dropWhile isDig with
      | nil => rfl
      | cons a t =>
        have := List.head_dropWhile_not isDig (l := l.reverse) (by rw [hd]; simp)
        rw [hd] at h
        simp only [hd, List.head_cons] at this
        simp [this] at h
    rw [dropWhile_nil_iff, List.all_reverse] at h2
    exact h2
  · intro h
    have h2 : l.reverse.dropWhile isDig = [] := by rw [dropWhile_nil_iff, List.all_reverse]; exact h
    rw [h2]; rfl
theorem trim_calls (s : ByteArray) (w : World) (hs : s.size ≤ 200) : Calls Tryz.prog 103 #[.string s, .string ⟨#[48, 49, 50, 51, 52, 53, 54, 55, 56, 57]⟩] w fun e w' => e = .returned (.string ⟨(Lib.trimS s.data.toList digs).toArray⟩) ∧ Below w.heap.size w w' :=
  Tryz.strings_Trim_set s ⟨#[48, 49, 50, 51, 52, 53, 54, 55, 56, 57]⟩ w (by omega) (by decide) (by
    intro j b hb
    have hm : b ∈ digs := List.mem_of_getElem? hb
    have h2 : isDig b = true := by rw [← digs_contains]; exact List.contains_iff_mem.2 hm
    have := isDig_iff.1 h2
    omega)

theorem isValid_no {l m : List UInt8} (h1 : ¬ body l = []) (h2 : ((body l).length : Int) ≤ 200) (h3 : (!m.isEmpty) = true) (hm : Lib.trimS (body l) digs = m) : ivalid l = false := by
  have : ¬ (body l).all isDig = true := by
    rw [← trimS_digs, hm]
    intro h
    rw [h] at h3
    cases h3
  simp [ivalid, this]
theorem isValid_yes {s : ByteArray} {m : List UInt8} (h1 : ¬ body s.data.toList = []) (hl : (body s.data.toList).length ≤ 200) (h3 : (!m.isEmpty) = false) (hm : Lib.trimS (body s.data.toList) digs = m) (h4 : ¬ s.toList = [48]) (h5 : 0 < (body s.data.toList).length) :
    ivalid s.data.toList = (s.toList == [48] || (((⟨(body s.data.toList).toArray⟩ : ByteArray)[0]'h5).toNat : Int) != 48) := by
  have hm0 : m = [] := by simpa using h3
  have ha : (body s.data.toList).all isDig = true := by rw [← trimS_digs, hm, hm0]
  rw [Lib.toList_data] at h4 ⊢
  obtain ⟨b, t, hb⟩ : ∃ b t, body s.data.toList = b :: t := by
    cases hb : body s.data.toList with
    | nil => exact absurd hb h1
    | cons b t => exact ⟨b, t, rfl⟩
  · have e0 : ((⟨(body s.data.toList).toArray⟩ : ByteArray)[0]'h5) = b := by
      show (body s.data.toList)[0]'h5 = b
      simp [hb]
    simp only [e0]
    rw [hb] at ha hl
    unfold ivalid
    rw [hb, ha]
    have hbb : (((b :: t).head? != some 48)) = ((b.toNat : Int) != 48) := by
      rw [Bool.eq_iff_iff]
      simp only [List.head?_cons, bne_iff_ne, ne_eq, Option.some.injEq]
      constructor
      · intro h h'
        apply h
        apply UInt8.toNat_inj.1
        have : (48 : UInt8).toNat = 48 := rfl
        omega
      · rintro h rfl
        exact h rfl
    rw [hbb]
    simp
    intro _
    simpa using hl

set_option maxRecDepth 100000 in
set_option maxHeartbeats 4000000 in
/-- isValid -/
theorem isValid_calls (s : ByteArray) (w : World) :
    Calls Tryz.prog 78 #[.string s] w fun e w' => e = .returned (.bool (ivalid s.data.toList)) ∧ Below w.heap.size w w' := by
  go_enter Tryz.func78, Tryz.ntmps78
  go_wp2_with fail
  refine (trimPrefix_calls s _).mono ?_
  rintro e w1 ⟨rfl, hd1⟩
  have HD := Aside0.mk hd1
  clear hd1
  go_wp2_with fail
  · go_ret
    rename_i h
    exact ⟨by simp [ivalid, h], HD.out.below⟩
  · have h1 := (by assumption : ¬ body s.data.toList = [])
    have h2 := (by assumption : ((body s.data.toList).length : Int) ≤ 200)
    have hl : (body s.data.toList).length ≤ 200 := by omega
    refine (trim_calls ⟨(body s.data.toList).toArray⟩ _ (by rw [Lib.size_eq]; exact hl)).mono ?_
    rintro e w2 ⟨rfl, hb2⟩
    have HB := Aside0.mk (HD.out.below.trans (hb2.mono HD.out.below.size))
    clear hb2 HD
    simp only []
    obtain ⟨m, hm⟩ : ∃ m, Lib.trimS (body s.data.toList) digs = m := ⟨_, rfl⟩
    rw [hm]
    have HM := Aside0.mk hm
    clear hm
    go_wp2_with fail
    · go_ret
      rename_i h3
      refine ⟨?_, HB.out⟩
      rw [isValid_no h1 h2 (h3.resolve_left (by rintro (h | h); exact h1 (by simpa using h); omega)) HM.out]; rfl
    · go_ret
      rename_i h3 h4
      refine ⟨?_, HB.out⟩
      rw [Lib.toList_data] at h4
      rw [h4]; rfl
    · go_ret
      rename_i h3 h4 h5
      refine ⟨?_, HB.out⟩
      rw [isValid_yes h1 hl h3.2 HM.out h4 h5]; rfl
    · rename_i h3 h4 h5
      exact absurd (List.length_pos_iff.2 h1) h5
  · go_ret
    rename_i h1 h2
    exact ⟨by have : ¬ (body s.data.toList).length ≤ 200 := by omega
              simp [ivalid, this], HD.out.below⟩

set_option maxRecDepth 100000 in
set_option maxHeartbeats 4000000 in
/-- Valid -/
theorem valid_calls (s : ByteArray) (w : World) :
    Calls Tryz.prog 49 #[.string s] w fun e w' => e = .returned (.bool (ivalid s.data.toList)) ∧ Below w.heap.size w w' := by
  go_enter Tryz.func49, Tryz.ntmps49
  go_wp2_with fail
  refine (isValid_calls s _).mono ?_
  rintro e w1 ⟨rfl, hb⟩
  have HB := Aside0.mk hb
  clear hb
  go_wp2_with fail
  go_ret
  exact ⟨rfl, HB.out⟩

end Go.Proofs.YtnhjidbjibehpaaGreatDoor.L3
