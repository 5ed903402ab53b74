/- ScriptAny: whatever bytes come in, the Go function returns true: any bytes are acts, and told again they are the same. No conditions. -/
import Derived.Test.YthpoiopfmjeklaaS6
import Derived.Deep.QuietTactic
import Derived.BigQuiet
import Derived.Laws.StructEq
set_option linter.unusedVariables false
set_option linter.unusedSimpArgs false
namespace Go.Proofs.Ythpoiopfmjeklaa
open Go.RowKit Go.Deep Go.ChangeShapes Go.WideShapes Go.ChangeAt Go.Joins
open Go.ChangeMaps (open_string shut_string)
open Cr (Str ActM encode decodeAll norm)

set_option maxRecDepth 100000 in
set_option maxHeartbeats 1000000 in
theorem any_walk (A : Option Addr) (c : Nat) (b : Str) (w : World) (hr : Rd (fun k => k < w.heap.size) w A (byV b)) (hc : b.length ≤ c) (hcm : c ≤ maxLen) :
    Calls Try.prog 4 #[.slice A b.length c] w fun e w' => e = .returned (.bool true) ∧ Fr No w w' := by
  have hfit := fun W => fit_any W
  have Hfit := Lib.hid hfit
  clear hfit
  unfold maxLen at hcm
  by_cases h2000 : 2000 < b.length
  · have h2000' : (2000 : Int) < (b.length : Int) := by omega
    go_enter Try.func4, Try.ntmps4
    go_wp2_with (go_at_call 7; refine (Hfit.out _).mono ?_)
    rintro e w1 ⟨rfl, hf1⟩
    go_wp2_with fail
    go_ret
    exact ⟨rfl, hf1⟩
  · have h2000' : (b.length : Int) ≤ 2000 := by omega
    have hD1 : decide ((2000 : Int) < (b.length : Int)) = false := by simp; omega
    go_enter Try.func4, Try.ntmps4
    go_wp2_with (go_at_call 7; refine (Hfit.out _).mono ?_)
    rintro e w1 ⟨rfl, hf1⟩
    have hr1 : Rd (fun k => k < w1.heap.size) w1 A (byV b) := (hr.fr hf1 (fun _ _ h => h)).mono (fun k hk _ => hk)
    go_wp2_with (go_at_call 9; refine (decode_any No A c b w1 hr1 hc (by omega)).mono ?_)
    rintro e w2 ⟨v2, rfl, hown2, hf2⟩
    obtain ⟨A2, c2, rfl, hc2, hr2⟩ := own_form hown2
    have hdl : (decodeAll b).length ≤ b.length := Cr.decode_length _ _
    have hdb := Cr.decode_bounds b
    have hag := Cr.decodeAll_again b
    have hemp := Cr.decodeAll_empty b
    generalize decodeAll b = l at *
    go_wp2_with (go_at_call 10; refine (encode_any A2 c2 l w2 (hr2.mono (fun k hk _ => hk)) hc2 (by omega) (fun a ha => by have := hdb a ha; omega)).mono ?_)
    rintro e w3 ⟨v3, rfl, hown3, hf3⟩
    obtain ⟨A3, c3, rfl, hc3, hr3⟩ := own_form hown3
    have hlen := encode_le l
    go_wp2_with (go_at_call 9; refine (decode_any No A3 c3 (encode l) w3 (hr3.mono (fun k hk _ => hk)) hc3 (by omega)).mono ?_)
    rintro e w4 ⟨v4, rfl, hown4, hf4⟩
    rw [hag] at hown4
    obtain ⟨A4, c4, rfl, hc4, hr4⟩ := own_form hown4
    have hf14 : Fr No w w4 := ((hf1.trans hf2 (fun _ _ h => h)).trans hf3 (fun _ _ h => h)).trans hf4 (fun _ _ h => h)
    have hr2' : Rd (fun k => k < w4.heap.size) w4 A2 (actsV l) := ((hr2.fr hf3 (fun _ _ h => h)).fr hf4 (fun _ _ h => h)).mono (fun k hk _ => hk)
    have hr4' : Rd (fun k => k < w4.heap.size) w4 A4 (actsV l) := hr4.mono (fun _ hk _ => hk)
    obtain ⟨B0, hB0⟩ : ∃ B0 : Bool, ((l.length : Int) == 0) = B0 := ⟨_, rfl⟩
    have hB1 : ((b.length : Int) == 0) = B0 := by
      rw [← hB0]
      by_cases h0 : b.length = 0
      · have := hemp.2 h0
        simp [this, h0]
      · have h1 : ¬ l.length = 0 := fun h => h0 (hemp.1 h)
        have e1 : ((l.length : Int) == 0) = false := by rw [beq_eq_false_iff_ne]; omega
        have e2 : ((b.length : Int) == 0) = false := by rw [beq_eq_false_iff_ne]; omega
        rw [e1, e2]
    have hD2 : decide (b.length < l.length) = false := by simp; omega
    have hag2 := hag
    clear hown2 hown3 hown4 hr2 hr3 hr4 hf1 hf2 hf3 hf4 hr hr1 Hfit hag hag2 hemp
    have hle' : (l.length : Int) ≤ (b.length : Int) := by omega
    have hl2 : (l.length : Int) ≤ 2000 := by omega
    go_wp2_with fail
    go_loopg [41] l.length (fun gm i wr => ∃ k : Nat, k + gm = l.length ∧ i = .int .i64 k ∧ Fr No w4 wr)
    case atStart => exact ⟨0, by omega, rfl, Fr.refl _ _⟩
    case round =>
      obtain ⟨k, hk, rfl, hfr4⟩ := hrel
      by_cases hlt : k < l.length
      · have hlt' : (k : Int) < (l.length : Int) := by omega
        obtain ⟨gb, off, rfl, hgb, hcell⟩ := hr2'.form (fun h => by have := actsV_length l; rw [h] at this; simp at this; omega)
        obtain ⟨gd, of2, rfl, hgd, hcell2⟩ := hr4'.form (fun h => by have := actsV_length l; rw [h] at this; simp at this; omega)
        obtain ⟨a, ha⟩ : ∃ a, l[k]? = some a := ⟨l[k], by simp [hlt]⟩
        have hx := flat_get actV 4 (fun _ => rfl) l k a ha
        have q0 := hfr4.cell (hcell (k * 4 + 0) (.int .i64 a.kind) (hx 0 (by omega))) id
        have q1 := hfr4.cell (hcell (k * 4 + 1) (.int .i64 a.conn) (hx 1 (by omega))) id
        have q2 := hfr4.cell (hcell (k * 4 + 2) (.int .i64 a.n) (hx 2 (by omega))) id
        have q3 := hfr4.cell (hcell (k * 4 + 3) (.string ⟨a.data.toArray⟩) (hx 3 (by omega))) id
        have r0 := hfr4.cell (hcell2 (k * 4 + 0) (.int .i64 a.kind) (hx 0 (by omega))) id
        have r1 := hfr4.cell (hcell2 (k * 4 + 1) (.int .i64 a.conn) (hx 1 (by omega))) id
        have r2 := hfr4.cell (hcell2 (k * 4 + 2) (.int .i64 a.n) (hx 2 (by omega))) id
        have r3 := hfr4.cell (hcell2 (k * 4 + 3) (.string ⟨a.data.toArray⟩) (hx 3 (by omega))) id
        simp only [← Nat.add_assoc, Nat.add_zero] at q0 q1 q2 q3 r0 r1 r2 r3
        obtain ⟨b1, b2, b3, b4, _⟩ := hdb a (List.mem_of_getElem? ha)
        have hk0 : (0 : Int) ≤ (k : Int) := by omega
        clear hcell hcell2 hdb hx
        go_wp2_with fail
        go_quiet (fail)
        go_wp2_with fail
        go_roundg (gk - 1)
        case measure => omega
        case rel => exact ⟨k + 1, by omega, by go_num, hfr4.drewN _⟩
      · go_wp2_with fail
        go_ret
        exact ⟨rfl, hf14.trans hfr4 (fun _ _ h => h)⟩

set_option maxRecDepth 100000 in
theorem any_lifted (os : Os) (started : os.Started) (H : Type) (enc : TypeId × Value → H) :
    ReturnsInHanded {} Try.checked os 4 .any (Rows.scriptAnySpec.pre6 enc Try.prog Try.f4 Rows.scriptAnyRow.domain false) (Rows.scriptAnySpec.post enc Try.prog Try.f4 false true false false) := by
  refine returnsInHanded_of_change (C := Try.checked) own started (by kernel_rfl) Try.func4
    (ChangeSpec.witness6 (enc := enc) (C := Try.checked) false ⟨#[], #[.slice none 0 0], []⟩ 8 (by kernel_rfl) (by kernel_rfl) (by kernel_rfl) (by kernel_rfl)) ?_
  intro W base args ds gs before hval0 hW hcnd _
  have hval : ∀ (j : Nat) t v, Try.f4.params[j]? = some t → args[j]? = some v → Value.okWide Try.prog W .any base t v := hval0
  have hW' := hW
  obtain ⟨p, q, hA0, hV, rfl, hfz, hnd⟩ := hW
  have hA : DataW.TrodAll enc Try.prog W 0 (fun _ => true) true Try.f4.params.toList args.toList ds p := hA0
  rw [Try.params4] at hA hval
  obtain ⟨v0, vs0, d0, ds0, p0, q0, hargs, rfl, rfl, h0, r0⟩ := trodAll_cons hA
  obtain ⟨rfl, rfl, rfl⟩ := trodAll_nil r0
  obtain rfl : args = #[v0] := by cases args; simp_all
  obtain ⟨rfl, rfl⟩ := trodVars_none hV
  obtain ⟨a0, len0, cap0, rfl⟩ := okWide_slice Try.underlying26 (hval 0 26 v0 rfl rfl)
  have k0 := h0
  have lt0 : ∀ x ∈ p0, x.block < W.heap.size := by obtain ⟨m, hm⟩ := k0; exact DataW.trod_lt m _ _ _ hm
  obtain ⟨l0, e0, hl0, hc0, hr0⟩ : ∃ l : List UInt8, len0 = List.length l ∧ l.length ≤ cap0 ∧ cap0 ≤ maxLen ∧ Rd (fun k => k < W.heap.size) W a0 (byV l) := by
    obtain ⟨fuel, hf⟩ := h0
    obtain ⟨A, c, l, hcs, h1, h2, h3⟩ := open_bytes hf
    simp [Value.cells] at hcs
    obtain ⟨rfl, rfl, rfl⟩ := hcs
    exact ⟨l, rfl, h1, h2, h3⟩
  subst e0
  clear hA0 hval0
  refine (any_walk a0 cap0 l0 W hr0 hl0 hc0).mono fun e W' ⟨he, fr⟩ => ?_
  have bel : Below W.heap.size W W' := fr.below (fun _ _ h => h) (Nat.le_refl _)
  subst he
  exact ⟨_, rfl, _, _, _, [], _, [], hW', trodAll_mk1 (shut_bool Try.underlying4 _), (trodAll_cons_mk (Below.trod laidOut (by kernel_rfl) (of_decide_eq_true (by kernel_rfl)) k0 bel lt0) trodAll_mk0), rfl, bel.frame _, fun h => by cases h⟩

theorem any_holds : Rows.ScriptAnySaid :=
  OpenClaim.holds_of_wide 4 Try.f4 rfl rfl rfl rfl rfl rfl rfl ⟨rfl, rfl, rfl, rfl, rfl⟩ rfl rfl rfl rfl rfl (by kernel_rfl) Try.func4 (by kernel_rfl)
    (of_decide_eq_true (by kernel_rfl)) (by unfold Func.isWrapper; first | (rw [if_pos (by decide +kernel)]; kernel_rfl) | (rw [if_neg (by decide +kernel)]; exact ⟨rfl, rfl⟩))
    (fun os started H enc _ => any_lifted os started H enc)
#print axioms any_holds
end Go.Proofs.Ythpoiopfmjeklaa
