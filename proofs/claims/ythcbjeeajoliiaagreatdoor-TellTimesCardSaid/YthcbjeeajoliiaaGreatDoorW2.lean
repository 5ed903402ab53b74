/- ascii.Words. -/
import Derived.Test.YthcbjeeajoliiaaGreatDoorW1
set_option linter.unusedVariables false
set_option linter.unusedSimpArgs false
namespace Go.Proofs.YthcbjeeajoliiaaGreatDoor
open Go.RowKit
open Cr (Str wordsGo words)

set_option maxRecDepth 100000 in
theorem words_any (w : World) (s : Str) (b : UInt8) (hs : s.length ≤ 1000000) :
    Calls Tryz.prog 65 #[.string ⟨s.toArray⟩, .int .u8 b.toNat] w fun e w' => ∃ v, e = .returned v ∧ w'.ownsRow w.heap.size 9 1 v (words s b).length (strsV (words s b)) ∧ Fr No w w' := by
  have hs' : (s.length : Int) ≤ 1000000 := by omega
  go_enter Tryz.func65, Tryz.ntmps65
  go_wp2_with fail
  go_loopg [5, 6, 11] (s.length + 1) (fun gm out fr i wr => ∃ (k f : Nat) (outM : List Str), k + gm = s.length + 1 ∧ i = .int .i64 k ∧ fr = .int .i64 f ∧ f ≤ s.length + 1 ∧ outM.length ≤ k ∧ wr.ownsRow w.heap.size 9 1 out outM.length (strsV outM) ∧ Fr No w wr ∧
    Hid ((k ≤ s.length → f ≤ k ∧ words s b = outM ++ wordsGo b ((s.take k).drop f) (s.drop k)) ∧ (k = s.length + 1 → words s b = outM)))
  case atStart => exact ⟨0, 0, [], by omega, rfl, rfl, by omega, by simp, ⟨rfl, .inl ⟨rfl, rfl⟩⟩, Fr.refl _ _, ⟨fun _ => ⟨by omega, by simp [words]⟩, fun h => by omega⟩⟩
  case round =>
    obtain ⟨k, f, outM, hk, rfl, rfl, hf, hol, hown, hfr, HI⟩ := hrel
    have hsz := hfr.size
    rcases Nat.lt_trichotomy k s.length with hlt | heq | hgt
    · obtain ⟨c, hc⟩ : ∃ c, s[k]? = some c := ⟨s[k], by simp [hlt]⟩
      have hfk := (HI.1 (by omega)).1
      have hidx := run_str_at (P := Tryz.prog) 9 Tryz.underlying9 s k c hc
      have hcut := run_str_cut (P := Tryz.prog) 9 Tryz.underlying9 s f k hfk (by omega)
      have hne : ((k : Int) == (s.length : Int)) = false := by rw [beq_eq_false_iff_ne]; omega
      have hlt' : (k : Int) < (s.length : Int) + 1 := by omega
      have hw := Lib.hid (words_at s b c k f hfk hc)
      have Hc := Lib.hid hc
      clear hc
      by_cases hcb : c = b
      · have hcb' : ((c.toNat : Int) == (b.toNat : Int)) = true := by rw [hcb]; simp
        go_wp2_with (at_builtin; go_must (refine wpList_app (Pr := fun _ => True) _ rfl (.tmp 25) (.tmp 30) _ rfl w.heap.size 9 _ 1 16 Tryz.underlying68 infoStr rfl (by decide) u5 outM.length (strsV outM) rfl ?a0 _ 1 1 (strsV [(s.take k).drop f]) rfl rfl ?a2 ?a3 ?a4 (by decide) ?a5 ?_))
        case a0 => exact hown.alloc _
        case a2 => exact Rd.mono (Rd.newAt (by simp) rfl) (fun _ _ _ => trivial)
        case a3 => intro u hu; simp [strsV] at hu; subst hu; rfl
        case a4 => omega
        case a5 => simp; omega
        intro v1 w1 hown1 hfr1 _
        have hfr2 : Fr No w w1 := (hfr.alloc _).trans hfr1 (fun i hi h => by have := (hown.lt i h).1; omega)
        clear hfr1
        go_wp2_with fail
        go_roundg (gk - 1)
        case measure => omega
        case rel =>
          refine ⟨k + 1, k + 1, outM ++ [(s.take k).drop f], by omega, by go_num, by go_num, by omega, by simp; omega, ?_, hfr2, ?_⟩
          · rw [strsV_append, List.length_append]; exact hown1
          · refine ⟨fun _ => ⟨by omega, ?_⟩, fun h => by omega⟩
            have h1 := (HI.1 (by omega)).2
            rw [hw.out, if_pos hcb] at h1
            rw [h1, List.append_assoc]
            rfl
      · have hcb' : ((c.toNat : Int) == (b.toNat : Int)) = false := by
          rw [beq_eq_false_iff_ne]
          intro h
          exact hcb (UInt8.toNat_inj.1 (by omega))
        go_wp2_with fail
        go_roundg (gk - 1)
        case measure => omega
        case rel =>
          refine ⟨k + 1, f, outM, by omega, by go_num, rfl, by omega, by omega, hown, hfr, ?_⟩
          refine ⟨fun _ => ⟨by omega, ?_⟩, fun h => by omega⟩
          have h1 := (HI.1 (by omega)).2
          rw [hw.out, if_neg hcb] at h1
          exact h1
    · have hfk := (HI.1 (by omega)).1
      have hcut := run_str_cut (P := Tryz.prog) 9 Tryz.underlying9 s f k hfk (by omega)
      have hne : ((k : Int) == (s.length : Int)) = true := by rw [beq_iff_eq]; omega
      have hlt' : (k : Int) < (s.length : Int) + 1 := by omega
      have Heq := Lib.hid heq
      clear heq
      go_wp2_with (at_builtin; go_must (refine wpList_app (Pr := fun _ => True) _ rfl (.tmp 25) (.tmp 30) _ rfl w.heap.size 9 _ 1 16 Tryz.underlying68 infoStr rfl (by decide) u5 outM.length (strsV outM) rfl ?b0 _ 1 1 (strsV [(s.take k).drop f]) rfl rfl ?b2 ?b3 ?b4 (by decide) ?b5 ?_))
      case b0 => exact hown.alloc _
      case b2 => exact Rd.mono (Rd.newAt (by simp) rfl) (fun _ _ _ => trivial)
      case b3 => intro u hu; simp [strsV] at hu; subst hu; rfl
      case b4 => omega
      case b5 => simp; omega
      intro v1 w1 hown1 hfr1 _
      have hfr2 : Fr No w w1 := (hfr.alloc _).trans hfr1 (fun i hi h => by have := (hown.lt i h).1; omega)
      clear hfr1
      go_wp2_with fail
      go_roundg (gk - 1)
      case measure => omega
      case rel =>
        refine ⟨k + 1, k + 1, outM ++ [(s.take k).drop f], by omega, by go_num, by go_num, by omega, by simp; omega, ?_, hfr2, ?_⟩
        · rw [strsV_append, List.length_append]; exact hown1
        · refine ⟨fun h => by have := Heq.out; omega, fun _ => ?_⟩
          have h1 := (HI.1 (by have := Heq.out; omega)).2
          obtain rfl : k = s.length := Heq.out
          rw [words_end] at h1
          rw [h1, List.take_length]
    · have hlt' : ¬ (k : Int) < (s.length : Int) + 1 := by omega
      go_wp2_with fail
      go_ret
      have hk1 : k = s.length + 1 := by omega
      exact ⟨_, rfl, by rw [HI.2 hk1]; exact hown, hfr⟩

theorem words_lit (w : World) (s : Str) (b : UInt8) (n : Int) (hn : (b.toNat : Int) = n) (hs : s.length ≤ 1000000) :
    Calls Tryz.prog 65 #[.string ⟨s.toArray⟩, .int .u8 n] w fun e w' => ∃ v, e = .returned v ∧ w'.ownsRow w.heap.size 9 1 v (words s b).length (strsV (words s b)) ∧ Fr No w w' := by
  subst hn
  exact words_any w s b hs
end Go.Proofs.YthcbjeeajoliiaaGreatDoor
