/- The walk of crossroadlaw19.TellTimes. -/
import Derived.Test.YthcbjeeajoliiaaGreatDoorUB
import Derived.Test.YthcbjeeajoliiaaGreatDoorUD
import Derived.Test.YthcbjeeajoliiaaGreatDoorU9
import Derived.Test.YthcbjeeajoliiaaGreatDoorV3
set_option linter.unusedVariables false
set_option linter.unusedSimpArgs false
namespace Go.Proofs.YthcbjeeajoliiaaGreatDoor
open Go.RowKit
open Cr (Str ActM)

def cfg0 : Cr.Cfg := ⟨0, 0, 0, 0, 0, 0, []⟩
theorem fr_base {B : Nat} {w w' : World} (h : Fr (fun k => B ≤ k) w w') (hB : w.heap.size ≤ B) : Fr No w w' := h.mono fun k hk h => by omega

set_option maxRecDepth 100000 in
theorem tellRun_nil (w : World) (hh : Hands w) :
    Calls Tryz.prog 35 #[.agg #[.int .i64 0, .int .i64 0, .int .i64 0, .int .i64 0, .int .i64 0, .int .i64 0, .string ⟨#[]⟩], .slice none 0 0] w fun e w' => e = .returned (.string ⟨(tellStr 0 0).toArray⟩) ∧ Fr No w w' := by
  have hcfg : Fr No w (w.alloc (.cells #[.int .i64 0, .int .i64 0, .int .i64 0, .int .i64 0, .int .i64 0, .int .i64 0, .string ⟨#[]⟩] 23)) := (Fr.refl _ _).alloc _
  have HN := Lib.hid (serverNew_all _ (hh.fr hcfg id) cfg0)
  go_enter Tryz.func35, Tryz.ntmps35
  go_wp2_with (go_at_call 7; refine HN.out.mono (Hid.out ?_))
  refine Lib.hid ?_
  rintro e w1 hnew
  obtain ⟨g, p, rfl, hq, _, _, hf1⟩ := QStD.new hnew
  have hq0 := hq.st
  have HQ := Lib.hid hq0
  clear hq hq0 hnew
  have HD := Lib.hid (decode_any (fun _ => True) none 0 [] w1 (Rd.nil _ _ _) (Nat.le_refl _) (by simp))
  have Hf1 := Lib.hid hf1
  clear hf1
  go_wp2_with (go_at_call 21; refine HD.out.mono (Hid.out ?_))
  refine Lib.hid ?_
  rintro e w2 ⟨v, rfl, hown, hf2⟩
  rw [Cr.decodeAll_nil] at hown
  obtain ⟨A, c, rfl, hc, _⟩ := own_form hown
  have HR := Lib.hid (run_none No (some ⟨g, 0, none⟩) A c [] w2 (Rd.nil _ _ _) (by simp) (by simp))
  clear hown
  go_wp2_with (go_at_call 8; refine HR.out.mono (Hid.out ?_))
  refine Lib.hid ?_
  rintro e w3 ⟨rfl, hf3⟩
  have HT := Lib.hid (tell_quiet _ w3 g p [] [] [] 0 ((HQ.out.no hf2).no hf3) (by omega) (by simp) (by simp))
  go_wp2_with (go_at_call 19; refine HT.out.mono (Hid.out ?_))
  refine Lib.hid ?_
  rintro e w4 ⟨rfl, hf4⟩
  go_wp2_with fail
  go_ret
  exact ⟨rfl, (((hcfg.trans Hf1.out (fun _ _ h => h)).trans hf2 (fun _ _ h => h)).trans hf3 (fun _ _ h => h)).trans hf4 (fun _ _ h => h)⟩

theorem tellStr_00 : tellStr 0 0 = [114, 117, 110, 110, 105, 110, 103, 32, 48, 32, 48, 32, 48, 32, 49, 10] := by
  unfold tellStr
  rw [Lib.decDigits_one (by omega)]
  rfl

set_option maxRecDepth 100000 in
theorem fit19_any (w : World) (hh : Hands w) : Calls Tryz.prog 18 #[] w fun e w' => e = .returned (.bool true) ∧ Fr No w w' := by
  have HT := Lib.hid (tellRun_nil w hh)
  rw [tellStr_00] at HT
  go_enter Tryz.func18, Tryz.ntmps18
  go_wp2_with (go_at_call 35; refine HT.out.mono (Hid.out ?_))
  refine Lib.hid ?_
  rintro e w1 ⟨rfl, hf1⟩
  go_wp2_with fail
  go_ret
  exact ⟨rfl, hf1⟩
end Go.Proofs.YthcbjeeajoliiaaGreatDoor
