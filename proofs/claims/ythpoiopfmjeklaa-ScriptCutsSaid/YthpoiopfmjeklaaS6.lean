/- ScriptBack: whatever acts come in, the Go function returns true: acts come back from their bytes as far as these tell them. No conditions. -/
import Derived.Test.YthpoiopfmjeklaaS5
set_option linter.unusedVariables false
set_option linter.unusedSimpArgs false
namespace Go.Proofs.Ythpoiopfmjeklaa
open Go.RowKit Go.Deep Go.ChangeShapes Go.WideShapes Go.ChangeAt Go.Joins
open Go.ChangeMaps (open_string shut_string)
open Cr (Str ActM encode decodeAll norm)

theorem lightB_true {l : List ActM} (h : lightB l = true) : l.length ≤ 60 ∧ ∀ a ∈ l, a.data.length ≤ 2000 := by
  unfold lightB at h
  simpa using h

set_option maxRecDepth 100000 in
set_option maxHeartbeats 1000000 in
theorem back_walk (A : Option Addr) (c : Nat) (l : List ActM) (w : World) (hr : Rd (fun k => k < w.heap.size) w A (actsV l)) (hc : l.length ≤ c) (hcm : c ≤ maxLen) (hd : ∀ a ∈ l, a.data.length ≤ maxLen) :
    Calls Try.prog 3 #[.slice A l.length c] w fun e w' => e = .returned (.bool true) ∧ Fr No w w' := by
  have hfit := fun W => fit_any W
  have Hfit := Lib.hid hfit
  clear hfit
  unfold maxLen at hcm hd
  go_enter Try.func3, Try.ntmps3
  go_wp2_with (go_at_call 7; refine (Hfit.out _).mono ?_)
  rintro e w1 ⟨rfl, hf1⟩
  have hr1 := hr.fr hf1 (fun _ _ h => h)
  cases hl : lightB l with
  | false =>
    have hlight := light_any (fun k => k < w.heap.size) A c l w1 hr1 (by omega) hd
    rw [hl] at hlight
    have Hlight := Lib.hid hlight
    clear hlight hl
    go_wp2_with (go_at_call 8; refine Hlight.out.mono ?_)
    rintro e w2 ⟨rfl, hf2⟩
    go_wp2_with fail
    go_ret
    exact ⟨rfl, hf1.trans hf2 (fun _ _ h => h)⟩
  | true =>
    obtain ⟨h60, h2000⟩ := lightB_true hl
    have hlight := light_any (fun k => k < w.heap.size) A c l w1 hr1 (by omega) hd
    rw [hl] at hlight
    have Hlight := Lib.hid hlight
    clear hlight hl
    go_wp2_with (go_at_call 8; refine Hlight.out.mono ?_)
    rintro e w2 ⟨rfl, hf2⟩
    have hf12 : Fr No w w2 := hf1.trans hf2 (fun _ _ h => h)
    have hr2 : Rd (fun k => k < w2.heap.size) w2 A (actsV l) := (hr1.fr hf2 (fun _ _ h => h)).mono (fun k hk _ => hk)
    go_wp2_with (go_at_call 10; refine (encode_any A c l w2 hr2 hc (by omega) (fun a ha => by have := h2000 a ha; omega)).mono ?_)
    rintro e w3 ⟨v3, rfl, hown3, hf3⟩
    obtain ⟨A3, c3, rfl, hc3, hr3⟩ := own_form hown3
    have hlen := encode_le l
    go_wp2_with (go_at_call 9; refine (decode_any No A3 c3 (encode l) w3 (hr3.mono (fun k hk _ => hk)) hc3 (by omega)).mono ?_)
    rintro e w4 ⟨v4, rfl, hown4, hf4⟩
    rw [Cr.decode_encode'] at hown4
    obtain ⟨A4, c4, rfl, hc4, hr4⟩ := own_form hown4
    simp only [List.length_map] at hr4 hc4 ⊢
    have hf14 : Fr No w w4 := (hf12.trans hf3 (fun _ _ h => h)).trans hf4 (fun _ _ h => h)
    have hr0 : Rd (fun k => k < w.heap.size) w4 A (actsV l) := hr.fr hf14 (fun _ _ h => h)
    have hr4' : Rd (fun k => k < w4.heap.size) w4 A4 (actsV (l.map norm)) := hr4.mono (fun _ hk _ => hk)
    clear hown3 hown4 hr4 hr3 hf1 hf2 hf3 hf4 hr hr1 hr2 Hfit Hlight
    go_wp2_with fail
    go_loopg [23] l.length (fun gm i wr => ∃ k : Nat, k + gm = l.length ∧ i = .int .i64 k ∧ Fr No w wr ∧ Fr No w4 wr)
    case atStart => exact ⟨0, by omega, rfl, hf14, Fr.refl _ _⟩
    case round =>
      obtain ⟨k, hk, rfl, hfr, hfr4⟩ := hrel
      by_cases hlt : k < l.length
      · have hlt' : (k : Int) < (l.length : Int) := by omega
        have hn60 : (l.length : Int) ≤ 60 := by omega
        obtain ⟨gb, off, rfl, hgb, hcell⟩ := hr0.form (fun h => by have := actsV_length l; rw [h] at this; simp at this; omega)
        obtain ⟨gd, of2, rfl, hgd, hcell2⟩ := hr4'.form (fun h => by have := actsV_length (l.map norm); rw [h] at this; simp at this; omega)
        obtain ⟨a, ha⟩ : ∃ a, l[k]? = some a := ⟨l[k], by simp [hlt]⟩
        have hx := flat_get actV 4 (fun _ => rfl) l k a ha
        have hy := flat_get actV 4 (fun _ => rfl) (l.map norm) k (norm a) (by simp [ha])
        have q0 := hfr4.cell (hcell (k * 4 + 0) (.int .i64 a.kind) (hx 0 (by omega))) id
        have q1 := hfr4.cell (hcell (k * 4 + 1) (.int .i64 a.conn) (hx 1 (by omega))) id
        have q2 := hfr4.cell (hcell (k * 4 + 2) (.int .i64 a.n) (hx 2 (by omega))) id
        have q3 := hfr4.cell (hcell (k * 4 + 3) (.string ⟨a.data.toArray⟩) (hx 3 (by omega))) id
        have r0 := hfr4.cell (hcell2 (k * 4 + 0) (.int .i64 (norm a).kind) (hy 0 (by omega))) id
        have r1 := hfr4.cell (hcell2 (k * 4 + 1) (.int .i64 (norm a).conn) (hy 1 (by omega))) id
        have r2 := hfr4.cell (hcell2 (k * 4 + 2) (.int .i64 (norm a).n) (hy 2 (by omega))) id
        have r3 := hfr4.cell (hcell2 (k * 4 + 3) (.string ⟨(norm a).data.toArray⟩) (hy 3 (by omega))) id
        simp only [← Nat.add_assoc, Nat.add_zero] at q0 q1 q2 q3 r0 r1 r2 r3
        have r0' := ((Fr.refl No wr).alloc (.cells #[.int .i64 a.kind, .int .i64 a.conn, .int .i64 a.n, .string ⟨a.data.toArray⟩] 29)).cell r0 id
        have r1' := ((Fr.refl No wr).alloc (.cells #[.int .i64 a.kind, .int .i64 a.conn, .int .i64 a.n, .string ⟨a.data.toArray⟩] 29)).cell r1 id
        have r2' := ((Fr.refl No wr).alloc (.cells #[.int .i64 a.kind, .int .i64 a.conn, .int .i64 a.n, .string ⟨a.data.toArray⟩] 29)).cell r2 id
        have r3' := ((Fr.refl No wr).alloc (.cells #[.int .i64 a.kind, .int .i64 a.conn, .int .i64 a.n, .string ⟨a.data.toArray⟩] 29)).cell r3 id
        have hdl := h2000 a (List.mem_of_getElem? ha)
        have e15 := and15 a.kind
        have e15' := and15 a.conn
        have e255 := and255 a.n
        simp only [Cr.norm] at r0' r1' r2' r3'
        clear r0 r1 r2 r3
        by_cases hkd : a.kind % 16 = 1
        · have hkb : (a.kind % 16 == 1) = true := by simpa using hkd
          simp only [hkd, if_true] at r0' r3'
          have hex : (⟨a.data.toArray⟩ : ByteArray).extract 0 255 = ⟨(a.data.take 255).toArray⟩ := by rw [ByteArray.extract_mk]; simp
          by_cases hl : 255 < a.data.length
          · have hl' : (255 : Int) < (a.data.length : Int) := by omega
            go_wp2_with fail
            go_roundg (gk - 1)
            case measure => omega
            case rel => exact ⟨k + 1, by omega, by go_num, (hfr.alloc _).alloc _, (hfr4.alloc _).alloc _⟩
          · have hl' : (a.data.length : Int) ≤ 255 := by omega
            have htk : a.data.take 255 = a.data := List.take_of_length_le (by omega)
            rw [htk] at r3'
            have hex2 : (⟨a.data.toArray⟩ : ByteArray).extract 0 a.data.length = ⟨a.data.toArray⟩ := by rw [ByteArray.extract_mk]; simp
            go_wp2_with fail
            go_roundg (gk - 1)
            case measure => omega
            case rel => exact ⟨k + 1, by omega, by go_num, (hfr.alloc _).alloc _, (hfr4.alloc _).alloc _⟩
        · have hkb : (a.kind % 16 == 1) = false := by simpa using hkd
          simp only [hkd, if_false] at r3'
          go_wp2_with fail
          go_roundg (gk - 1)
          case measure => omega
          case rel => exact ⟨k + 1, by omega, by go_num, (hfr.alloc _).alloc _, (hfr4.alloc _).alloc _⟩
      · go_wp2_with fail
        go_ret
        exact ⟨rfl, hfr⟩

set_option maxRecDepth 100000 in
theorem back_lifted (os : Os) (started : os.Started) (H : Type) (enc : TypeId × Value → H) :
    ReturnsInHanded {} Try.checked os 3 .any (Rows.scriptBackSpec.pre6 enc Try.prog Try.f3 Rows.scriptBackRow.domain false) (Rows.scriptBackSpec.post enc Try.prog Try.f3 false true false false) := by
  refine returnsInHanded_of_change (C := Try.checked) own started (by kernel_rfl) Try.func3
    (ChangeSpec.witness6 (enc := enc) (C := Try.checked) false ⟨#[], #[.slice none 0 0], []⟩ 8 (by kernel_rfl) (by kernel_rfl) (by kernel_rfl) (by kernel_rfl)) ?_
  intro W base args ds gs before hval0 hW hcnd _
  have hval : ∀ (j : Nat) t v, Try.f3.params[j]? = some t → args[j]? = some v → Value.okWide Try.prog W .any base t v := hval0
  have hW' := hW
  obtain ⟨p, q, hA0, hV, rfl, hfz, hnd⟩ := hW
  have hA : DataW.TrodAll enc Try.prog W 0 (fun _ => true) true Try.f3.params.toList args.toList ds p := hA0
  rw [Try.params3] at hA hval
  obtain ⟨v0, vs0, d0, ds0, p0, q0, hargs, rfl, rfl, h0, r0⟩ := trodAll_cons hA
  obtain ⟨rfl, rfl, rfl⟩ := trodAll_nil r0
  obtain rfl : args = #[v0] := by cases args; simp_all
  obtain ⟨rfl, rfl⟩ := trodVars_none hV
  obtain ⟨a0, len0, cap0, rfl⟩ := okWide_slice Try.underlying22 (hval 0 22 v0 rfl rfl)
  have k0 := h0
  have lt0 : ∀ x ∈ p0, x.block < W.heap.size := by obtain ⟨m, hm⟩ := k0; exact DataW.trod_lt m _ _ _ hm
  obtain ⟨l, e0, hl0, hc0, hr0, hd0⟩ : ∃ l, len0 = List.length l ∧ l.length ≤ cap0 ∧ cap0 ≤ maxLen ∧ Rd (fun k => k < W.heap.size) W a0 (actsV l) ∧ ∀ a ∈ l, a.data.length ≤ maxLen := by
    obtain ⟨fuel, hf⟩ := h0
    obtain ⟨A, c, l, hcs, h1, h2, h3, h4⟩ := open_acts hf
    simp [Value.cells] at hcs
    obtain ⟨rfl, rfl, rfl⟩ := hcs
    exact ⟨l, rfl, h1, h2, h3, h4⟩
  subst e0
  clear hA0 hval0
  refine (back_walk a0 cap0 l W hr0 hl0 hc0 hd0).mono fun e W' ⟨he, fr⟩ => ?_
  have bel : Below W.heap.size W W' := fr.below (fun _ _ h => h) (Nat.le_refl _)
  subst he
  exact ⟨_, rfl, _, _, _, [], _, [], hW', trodAll_mk1 (shut_bool Try.underlying4 _), (trodAll_cons_mk (Below.trod laidOut (by kernel_rfl) (of_decide_eq_true (by kernel_rfl)) k0 bel lt0) trodAll_mk0), rfl, bel.frame _, fun h => by cases h⟩

theorem back_holds : Rows.ScriptBackSaid :=
  OpenClaim.holds_of_wide 3 Try.f3 rfl rfl rfl rfl rfl rfl rfl ⟨rfl, rfl, rfl, rfl, rfl⟩ rfl rfl rfl rfl rfl (by kernel_rfl) Try.func3 (by kernel_rfl)
    (of_decide_eq_true (by kernel_rfl)) (by unfold Func.isWrapper; first | (rw [if_pos (by decide +kernel)]; kernel_rfl) | (rw [if_neg (by decide +kernel)]; exact ⟨rfl, rfl⟩))
    (fun os started H enc _ => back_lifted os started H enc)
#print axioms back_holds
end Go.Proofs.Ythpoiopfmjeklaa
