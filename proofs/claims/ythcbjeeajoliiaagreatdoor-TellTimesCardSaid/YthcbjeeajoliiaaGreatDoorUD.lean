/- crossroadlaw19.digits. -/
import Derived.Test.YthcbjeeajoliiaaGreatDoorW5
import Derived.Lib.ItoaNum
set_option linter.unusedVariables false
set_option linter.unusedSimpArgs false
namespace Go.Proofs.YthcbjeeajoliiaaGreatDoor
open Go.RowKit
open Cr (Str)

set_option maxRecDepth 100000 in
theorem digits_one (w : World) (n : Nat) (hn : n < 10) : Calls Tryz.prog 20 #[.int .i64 n] w fun e w' => e = .returned (.string ⟨(Lib.decDigits n).toArray⟩) ∧ Fr No w w' := by
  have hn' : (n : Int) < 10 := by omega
  rw [Lib.decDigits_one hn]
  obtain ⟨c, hc⟩ : ∃ c : UInt8, UInt8.ofNat (48 + n) = c := ⟨_, rfl⟩
  have hu : (48 : Int) + (n : Int) = (c.toNat : Int) := by rw [← hc, UInt8.toNat_ofNat', Nat.mod_eq_of_lt (by omega)]; omega
  rw [hc]
  have hcv : (convert 51 9 (.slice (some ⟨w.heap.size, 0, none⟩) 1 1)).run Tryz.prog (w.alloc (.cells #[.int .u8 (48 + n)] 5)) = .ok (.string ⟨#[c]⟩) (w.alloc (.cells #[.int .u8 (48 + n)] 5)) :=
    run_conv_bytes _ 51 9 5 Tryz.underlying51 Tryz.underlying5 Tryz.underlying9 _ 1 1 [c] rfl (Rd.new w 5 _ _ (by rw [hu]; rfl))
  clear hc
  clear hu
  go_enter Tryz.func20, Tryz.ntmps20
  go_wp2_with fail
  go_ret
  exact ⟨rfl, (Fr.refl _ _).alloc _⟩
set_option maxRecDepth 100000 in
theorem digits_two (w : World) (n : Nat) (h1 : ¬ n < 10) (hn : n < 100) : Calls Tryz.prog 20 #[.int .i64 n] w fun e w' => e = .returned (.string ⟨(Lib.decDigits n).toArray⟩) ∧ Fr No w w' := by
  have hn' : ¬ (n : Int) < 10 := by omega
  have e1 : Lib.decDigits n = Lib.decDigits (n / 10) ++ Lib.decDigits (n % 10) := by
    rw [Lib.decDigits_two h1 hn, Lib.decDigits_one (by omega), Lib.decDigits_one (by omega)]
    rfl
  rw [e1]
  have HA : Hid (∀ W, Calls Tryz.prog 20 #[.int .i64 ((n : Int) / 10)] W fun e w' => e = .returned (.string ⟨(Lib.decDigits (n / 10)).toArray⟩) ∧ Fr No W w') := Lib.hid (fun W => digits_one W (n / 10) (by omega))
  have HB : Hid (∀ W, Calls Tryz.prog 20 #[.int .i64 ((n : Int) % 10)] W fun e w' => e = .returned (.string ⟨(Lib.decDigits (n % 10)).toArray⟩) ∧ Fr No W w') := Lib.hid (fun W => digits_one W (n % 10) (by omega))
  have l1 : (Lib.decDigits (n / 10)).length = 1 := by rw [Lib.decDigits_one (by omega)]; rfl
  have l2 : (Lib.decDigits (n % 10)).length = 1 := by rw [Lib.decDigits_one (by omega)]; rfl
  have hcat := run_cat (P := Tryz.prog) (Lib.decDigits (n / 10)) (Lib.decDigits (n % 10)) (by omega)
  clear e1 l1 l2
  generalize Lib.decDigits (n / 10) = D1 at *
  generalize Lib.decDigits (n % 10) = D2 at *
  go_enter Tryz.func20, Tryz.ntmps20
  go_wp2_with fail
  refine (HA.out w).mono (Hid.out ?_)
  refine Lib.hid ?_
  try simp only [and_imp, forall_exists_index]
  rintro e w1 rfl hf1
  go_wp2_with fail
  refine (HB.out w1).mono (Hid.out ?_)
  refine Lib.hid ?_
  try simp only [and_imp, forall_exists_index]
  rintro e w2 rfl hf2
  go_wp2_with fail
  go_ret
  exact ⟨rfl, hf1.trans hf2 (fun _ _ h => h)⟩
theorem digits_any (w : World) (n : Nat) (hn : n < 100) : Calls Tryz.prog 20 #[.int .i64 n] w fun e w' => e = .returned (.string ⟨(Lib.decDigits n).toArray⟩) ∧ Fr No w w' := by
  by_cases h : n < 10
  · exact digits_one w n h
  · exact digits_two w n h hn
end Go.Proofs.YthcbjeeajoliiaaGreatDoor
