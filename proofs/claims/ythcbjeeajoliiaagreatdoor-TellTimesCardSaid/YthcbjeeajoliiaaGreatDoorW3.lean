/- ascii.letter, mark, Token; path.Kind. -/
import Derived.Test.YthcbjeeajoliiaaGreatDoorW2
set_option linter.unusedVariables false
set_option linter.unusedSimpArgs false
namespace Go.Proofs.YthcbjeeajoliiaaGreatDoor
open Go.RowKit
open Cr (Str)

theorem or32 (c : UInt8) : bits .or .u8 (c.toNat : Int) 32 = ((c ||| 32).toNat : Int) := by
  have h : ∀ x : Fin 256, bits .or .u8 (x.val : Int) 32 = ((UInt8.ofNat x.val ||| 32).toNat : Int) := by decide +kernel
  have := h ⟨c.toNat, c.toNat_lt⟩
  simpa using this

theorem letter_any (w : World) (c : UInt8) :
    Calls Tryz.prog 174 #[.int .u8 c.toNat] w fun e w' => e = .returned (.bool (Cr.letter c)) ∧ Fr No w w' := by
  have hor := or32 c
  obtain ⟨q, hq⟩ : ∃ q, (c ||| 32).toNat = q := ⟨_, rfl⟩
  have hl : Cr.letter c = (decide (97 ≤ q) && decide (q ≤ 122)) := by
    unfold Cr.letter
    simp only [UInt8.le_iff_toNat_le, hq]
    rfl
  rw [hl]
  rw [hq] at hor
  clear hq hl
  go_enter Tryz.func174, Tryz.ntmps174
  go_wp2_with fail
  all_goals go_ret
  all_goals refine ⟨congrArg (fun z => Ending.returned (Value.bool z)) ?_, Fr.refl _ _⟩
  all_goals first | (simp; done) | (rw [Bool.eq_iff_iff]; simp only [decide_eq_true_eq, Bool.and_eq_true, true_iff, false_iff, Bool.false_eq_true]; omega) | omega

theorem toNat_beq (c : UInt8) (n : Nat) (hn : n < 256) : ((c.toNat : Int) == (n : Int)) = (c == UInt8.ofNat n) := by
  rw [Bool.eq_iff_iff, beq_iff_eq, beq_iff_eq]
  constructor
  · intro h
    apply UInt8.toNat_inj.1
    rw [UInt8.toNat_ofNat']
    omega
  · rintro rfl
    rw [UInt8.toNat_ofNat']
    omega

set_option maxRecDepth 100000 in
theorem mark_any (w : World) (c : UInt8) :
    Calls Tryz.prog 139 #[.int .u8 c.toNat] w fun e w' => e = .returned (.bool (Cr.mark c)) ∧ Fr No w w' := by
  have HL := Lib.hid (fun W => letter_any W c)
  obtain ⟨L, hL⟩ : ∃ L, Cr.letter c = L := ⟨_, rfl⟩
  obtain ⟨q, hq⟩ : ∃ q, c.toNat = q := ⟨_, rfl⟩
  have hm : Cr.mark c = ([33, 35, 36, 37, 38, 39, 42, 43, 45, 46, 94, 95, 124, 126, 96].contains q || (L || (decide (48 ≤ q) && decide (q ≤ 57)))) := by
    unfold Cr.mark
    rw [hL]
    congr 1
    · have h : ∀ x : Fin 256, [33, 35, 36, 37, 38, 39, 42, 43, 45, 46, 94, 95, 124, 126, 96].contains (UInt8.ofNat x.val) = [33, 35, 36, 37, 38, 39, 42, 43, 45, 46, 94, 95, 124, 126, 96].contains x.val := by decide +kernel
      have := h ⟨c.toNat, c.toNat_lt⟩
      simp only [UInt8.ofNat_toNat] at this
      rw [this, hq]
    · simp only [UInt8.le_iff_toNat_le, hq]
      rfl
  rw [hL] at HL
  rw [hm]
  rw [hq] at HL ⊢
  clear hq hL hm
  by_cases hin : q ∈ [33, 35, 36, 37, 38, 39, 42, 43, 45, 46, 94, 95, 124, 126, 96]
  · have hc : [33, 35, 36, 37, 38, 39, 42, 43, 45, 46, 94, 95, 124, 126, 96].contains q = true := by simpa using hin
    rw [hc, Bool.true_or]
    clear hc
    simp only [List.mem_cons, List.not_mem_nil, or_false] at hin
    rcases hin with rfl | rfl | rfl | rfl | rfl | rfl | rfl | rfl | rfl | rfl | rfl | rfl | rfl | rfl | rfl
    all_goals go_enter Tryz.func139, Tryz.ntmps139
    all_goals go_wp2_with fail
    all_goals go_ret
    all_goals exact ⟨rfl, Fr.refl _ _⟩
  · have hc : [33, 35, 36, 37, 38, 39, 42, 43, 45, 46, 94, 95, 124, 126, 96].contains q = false := by simpa using hin
    rw [hc, Bool.false_or]
    clear hc
    simp only [List.mem_cons, List.not_mem_nil, or_false, not_or] at hin
    obtain ⟨n0, n1, n2, n3, n4, n5, n6, n7, n8, n9, n10, n11, n12, n13, n14⟩ := hin
    have e0 : ((q : Int) == 33) = false := by rw [beq_eq_false_iff_ne]; omega
    have e1 : ((q : Int) == 35) = false := by rw [beq_eq_false_iff_ne]; omega
    have e2 : ((q : Int) == 36) = false := by rw [beq_eq_false_iff_ne]; omega
    have e3 : ((q : Int) == 37) = false := by rw [beq_eq_false_iff_ne]; omega
    have e4 : ((q : Int) == 38) = false := by rw [beq_eq_false_iff_ne]; omega
    have e5 : ((q : Int) == 39) = false := by rw [beq_eq_false_iff_ne]; omega
    have e6 : ((q : Int) == 42) = false := by rw [beq_eq_false_iff_ne]; omega
    have e7 : ((q : Int) == 43) = false := by rw [beq_eq_false_iff_ne]; omega
    have e8 : ((q : Int) == 45) = false := by rw [beq_eq_false_iff_ne]; omega
    have e9 : ((q : Int) == 46) = false := by rw [beq_eq_false_iff_ne]; omega
    have e10 : ((q : Int) == 94) = false := by rw [beq_eq_false_iff_ne]; omega
    have e11 : ((q : Int) == 95) = false := by rw [beq_eq_false_iff_ne]; omega
    have e12 : ((q : Int) == 124) = false := by rw [beq_eq_false_iff_ne]; omega
    have e13 : ((q : Int) == 126) = false := by rw [beq_eq_false_iff_ne]; omega
    have e14 : ((q : Int) == 96) = false := by rw [beq_eq_false_iff_ne]; omega
    clear n0 n1 n2 n3 n4 n5 n6 n7 n8 n9 n10 n11 n12 n13 n14
    go_enter Tryz.func139, Tryz.ntmps139
    go_wp2_with (go_at_call 174; refine (HL.out _).mono ?_)
    rintro e w1 ⟨rfl, hf1⟩
    cases L
    all_goals go_wp2_with fail
    all_goals go_ret
    all_goals refine ⟨congrArg (fun z => Ending.returned (Value.bool z)) ?_, hf1⟩
    all_goals first | (simp; done) | (rw [Bool.eq_iff_iff]; simp; omega)

theorem token_any (w : World) (s : Str) (hs : s.length ≤ 1000000) :
    Calls Tryz.prog 114 #[.string ⟨s.toArray⟩] w fun e w' => e = .returned (.bool (Cr.token s)) ∧ Fr No w w' := by
  have hs' : (s.length : Int) ≤ 1000000 := by omega
  go_enter Tryz.func114, Tryz.ntmps114
  go_wp2_with fail
  go_loopg [6] s.length (fun gm i wr => ∃ k : Nat, k + gm = s.length ∧ i = .int .i64 k ∧ Fr No w wr ∧ Hid (∀ x ∈ s.take k, Cr.mark x = true))
  case atStart => exact ⟨0, by omega, rfl, Fr.refl _ _, (by simp : ∀ x ∈ s.take 0, Cr.mark x = true)⟩
  case round =>
    obtain ⟨k, hk, rfl, hfr, HI⟩ := hrel
    by_cases hlt : k < s.length
    · have hlt' : (k : Int) < (s.length : Int) := by omega
      obtain ⟨c, hc⟩ : ∃ c, s[k]? = some c := ⟨s[k], by simp [hlt]⟩
      have hidx := run_str_at (P := Tryz.prog) 9 Tryz.underlying9 s k c hc
      have Hc := Lib.hid hc
      clear hc
      go_wp2_with (go_at_call 139; refine (mark_any _ c).mono ?_)
      rintro e w1 ⟨rfl, hf1⟩
      by_cases hm : Cr.mark c = true
      · rw [hm]
        have Hm := Lib.hid hm
        clear hm
        go_wp2_with fail
        go_roundg (gk - 1)
        case measure => omega
        case rel =>
          refine ⟨k + 1, by omega, by go_num, hfr.trans hf1 (fun _ _ h => h), ?_⟩
          intro x hx
          rw [List.take_add_one, Hc.out] at hx
          simp only [Option.toList_some, List.mem_append, List.mem_singleton] at hx
          rcases hx with hx | rfl
          · exact HI.out x hx
          · exact Hm.out
      · have hm' : Cr.mark c = false := by simpa using hm
        rw [hm']
        have Hm := Lib.hid hm'
        clear hm hm'
        go_wp2_with fail
        go_ret
        refine ⟨?_, hfr.trans hf1 (fun _ _ h => h)⟩
        have : Cr.token s = false := by
          unfold Cr.token
          have : s.all Cr.mark = false := by
            rw [List.all_eq_false]
            exact ⟨c, List.mem_of_getElem? Hc.out, by rw [Hm.out]; simp⟩
          rw [this]; rfl
        rw [this]; rfl
    · have hlt' : ¬ (k : Int) < (s.length : Int) := by omega
      have hkk : k = s.length := by omega
      have Hk := Lib.hid hkk
      clear hkk
      go_wp2_with fail
      go_ret
      have hall : s.all Cr.mark = true := by
        rw [List.all_eq_true]
        intro x hx
        refine HI.out x ?_
        rw [Hk.out, List.take_length]
        exact hx
      refine ⟨?_, hfr⟩
      unfold Cr.token
      rw [hall]
      cases s <;> simp

theorem kind_any (w : World) (s : Str) (hs : s.length ≤ 1000000) :
    Calls Tryz.prog 116 #[.string ⟨s.toArray⟩] w fun e w' => e = .returned (.int .i64 (Cr.kindOf s : Nat)) ∧ Fr No w w' := by
  cases s with
  | nil =>
    go_enter Tryz.func116, Tryz.ntmps116
    go_wp2_with fail
    go_ret
    exact ⟨rfl, Fr.refl _ _⟩
  | cons c l =>
    have hidx := run_str_at (P := Tryz.prog) 9 Tryz.underlying9 (c :: l) 0 c rfl
    have h1 : ((c.toNat : Int) == 58) = (c == UInt8.ofNat 58) := toNat_beq c 58 (by omega)
    have h2 : ((c.toNat : Int) == 42) = (c == UInt8.ofNat 42) := toNat_beq c 42 (by omega)
    have hz : ∀ h, (ByteArray.mk (c :: l).toArray)[0]'h = c := fun _ => rfl
    by_cases e1 : c = 58
    · subst e1
      go_enter Tryz.func116, Tryz.ntmps116
      go_wp2_with fail
      go_ret
      exact ⟨rfl, Fr.refl _ _⟩
    · by_cases e2 : c = 42
      · subst e2
        go_enter Tryz.func116, Tryz.ntmps116
        go_wp2_with fail
        go_ret
        exact ⟨rfl, Fr.refl _ _⟩
      · have e1' : (c == UInt8.ofNat 58) = false := by simpa using e1
        have e2' : (c == UInt8.ofNat 42) = false := by simpa using e2
        rw [e1'] at h1
        rw [e2'] at h2
        go_enter Tryz.func116, Tryz.ntmps116
        go_wp2_with fail
        go_ret
        refine ⟨?_, Fr.refl _ _⟩
        have : Cr.kindOf (c :: l) = 0 := by simp [Cr.kindOf, e1, e2]
        rw [this]
        rfl
end Go.Proofs.YthcbjeeajoliiaaGreatDoor
