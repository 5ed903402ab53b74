/- ScriptJoins: whatever two lists of acts come in, the Go function returns true: acts of two texts that are whole, one behind the other, are those of both. No conditions. -/
import Derived.Test.YthpoiopfmjeklaaS6
import Derived.Test.YthpoiopfmjeklaaR
import Derived.RegionCalls
import Derived.Deep.DrawnRows
import Derived.IntWalk
import Derived.Deep.QuietTactic
import Derived.Deep.RegionHeld3
import Derived.BigQuiet
set_option linter.unusedVariables false
set_option linter.unusedSimpArgs false
namespace Go.Proofs.Ythpoiopfmjeklaa
attribute [local go_sem ↓] Go.wp_at_zero Go.wp_at_succ
open Go.RowKit Go.Deep Go.ChangeShapes Go.WideShapes Go.ChangeAt Go.Joins
open Go.ChangeMaps (open_string shut_string)
open Cr (Str ActM encode decodeAll norm)

/-- script.Encode, at every world in which the cells lie as they did. -/
theorem encode_at (w : World) (A : Option Addr) (n c : Nat) (l : List ActM) (hr : Rd (fun k => k < w.heap.size) w A (actsV l)) (hn : n = l.length) (hc : l.length ≤ c) (h6 : l.length ≤ 100000)
    (hd : ∀ a ∈ l, a.data.length ≤ 4611686018427387904) (W : World) (hW : Fr No w W) :
    Calls Try.prog 10 #[.slice A n c] W fun e w' =>
      ∃ A' c', e = .returned (.slice A' (encode l).length c') ∧ (encode l).length ≤ c' ∧ Rd (fun k => k < w'.heap.size) w' A' (byV (encode l)) ∧ Fr No w w' ∧ Fr No W w' := by
  subst hn
  refine (encode_any A c l W ((hr.fr hW (fun _ _ h => h)).mono (fun k hk _ => hk)) hc h6 hd).mono ?_
  rintro e w' ⟨v, rfl, hown, hf⟩
  obtain ⟨A', c', rfl, hc', hr'⟩ := own_form hown
  exact ⟨A', c', rfl, hc', hr'.mono (fun k hk _ => hk), hW.trans hf (fun _ _ h => h), hf⟩

set_option maxRecDepth 100000 in
set_option maxHeartbeats 2000000 in
theorem joins_walk (A B : Option Addr) (c d : Nat) (a b : List ActM) (w : World) (hra : Rd (fun k => k < w.heap.size) w A (actsV a)) (hrb : Rd (fun k => k < w.heap.size) w B (actsV b))
    (hca : a.length ≤ c) (hcb : b.length ≤ d) (hcm : c ≤ maxLen) (hdm : d ≤ maxLen) (hda : ∀ x ∈ a, x.data.length ≤ maxLen) (hdb : ∀ x ∈ b, x.data.length ≤ maxLen) :
    Calls Try.prog 5 #[.slice A a.length c, .slice B b.length d] w fun e w' => e = .returned (.bool true) ∧ Fr No w w' := by
  have hfit := fun W => fit_any W
  have Hfit := Lib.hid hfit
  clear hfit
  unfold maxLen at hcm hdm hda hdb
  go_enter Try.func5, Try.ntmps5
  go_wp2_with (go_at_call 7; refine (Hfit.out _).mono ?_)
  rintro e w1 ⟨rfl, hf1⟩
  clear Hfit
  have hlight := light_any (fun k => k < w.heap.size) A c a w1 (hra.fr hf1 (fun _ _ h => h)) (by omega) hda
  cases hl : lightB a with
  | false =>
    rw [hl] at hlight
    have Hlight := Lib.hid hlight
    clear hlight hl
    go_wp2_with (go_at_call 8; refine Hlight.out.mono ?_)
    rintro e w2 ⟨rfl, hf2⟩
    go_wp2_with fail
    go_ret
    exact ⟨rfl, hf1.trans hf2 (fun _ _ h => h)⟩
  | true =>
    obtain ⟨h60, h2000⟩ := lightB_true hl
    rw [hl] at hlight
    have Hlight := Lib.hid hlight
    clear hlight hl
    go_wp2_with (go_at_call 8; refine Hlight.out.mono ?_)
    rintro e w2 ⟨rfl, hf2⟩
    have hf12 : Fr No w w2 := hf1.trans hf2 (fun _ _ h => h)
    clear Hlight
    have hlight := light_any (fun k => k < w.heap.size) B d b w2 (hrb.fr hf12 (fun _ _ h => h)) (by omega) hdb
    cases hl : lightB b with
    | false =>
      rw [hl] at hlight
      have Hlight := Lib.hid hlight
      clear hlight hl
      go_wp2_with (go_at_call 8; refine Hlight.out.mono ?_)
      rintro e w3 ⟨rfl, hf3⟩
      go_wp2_with fail
      go_ret
      exact ⟨rfl, hf12.trans hf3 (fun _ _ h => h)⟩
    | true =>
      obtain ⟨g60, g2000⟩ := lightB_true hl
      rw [hl] at hlight
      have Hlight := Lib.hid hlight
      clear hlight hl
      go_wp2_with (go_at_call 8; refine Hlight.out.mono ?_)
      rintro e w3 ⟨rfl, hf3⟩
      have hf13 : Fr No w w3 := hf12.trans hf3 (fun _ _ h => h)
      clear Hlight
      go_wp2_with (go_at_call 10; refine (encode_at w A a.length c a hra rfl hca (by omega) (fun x hx => by have := h2000 x hx; omega) w3 hf13).mono ?_)
      rintro e w4 ⟨A4, c4, rfl, hc4, hr4, hf4, _⟩
      go_wp2_with (go_at_call 10; refine (encode_at w B b.length d b hrb rfl hcb (by omega) (fun x hx => by have := g2000 x hx; omega) w4 hf4).mono ?_)
      rintro e w5 ⟨A5, c5, rfl, hc5, hr5, hf5, hf45⟩
      have hr4' : Rd (fun k => k < w5.heap.size) w5 A4 (byV (encode a)) := (hr4.fr hf45 (fun _ _ h => h)).mono (fun k hk _ => hk)
      clear hr4 hf45
      have hla := encode_le a
      have hlb := encode_le b
      go_wp2_with (at_builtin; go_must (refine wpList_app _ rfl (.const (.slice none 0 0)) (.tmp 22) _ rfl w5.heap.size 5 _ 1 1 Try.underlying26 u8Info rfl Nat.one_pos (.slice none 0 0) 0 [] rfl (World.ownsRow_nil _ _ _ _) A4 (encode a).length c4 (byV (encode a)) rfl ?a1 hr4' (byV_one _) ?a4 Nat.one_pos (Nat.le_refl _) ?_))
      case a1 => simp
      case a4 => omega
      intro v6 w6 hown6 hf6 _
      have hf56 : Fr No w5 w6 := hf6.mono (fun k _ h => by simp [Value.ownBlock] at h)
      have hr5' : Rd (fun k => k < w6.heap.size) w6 A5 (byV (encode b)) := (hr5.fr hf56 (fun _ _ h => h)).mono (fun k hk _ => by have := hf56.size; omega)
      have hsz6 := hf56.size
      go_wp2_with (at_builtin; go_must (refine wpList_app _ rfl (.tmp 23) (.tmp 24) _ rfl w5.heap.size 5 _ 1 1 Try.underlying26 u8Info rfl Nat.one_pos v6 (encode a).length (byV (encode a)) rfl hown6 A5 (encode b).length c5 (byV (encode b)) rfl ?b1 hr5' (byV_one _) ?b4 Nat.one_pos hsz6 ?_))
      case b1 => simp
      case b4 => omega
      intro v7 w7 hown7 hf7 _
      have hv6 : ∀ k, v6.ownBlock = some k → w5.heap.size ≤ k := fun k hk => (hown6.lt k hk).1
      have hf57 : Fr No w5 w7 := hf7.after hf56 (fun k hk h => by have := hv6 k h; omega)
      rw [← byV_append] at hown7
      rw [← List.length_append] at hown7
      have he : encode a ++ encode b = encode (a ++ b) := (encode_append a b).symm
      rw [he] at hown7
      obtain ⟨A7, c7, rfl, hc7, hr7⟩ := own_form hown7
      have hdec : decodeAll (encode (a ++ b)) = (a ++ b).map norm := Cr.decode_encode' _
      have hlab := encode_le (a ++ b)
      rw [List.length_append] at hlab
      go_wp2_with (go_at_call 9; refine (decode_any No A7 c7 (encode (a ++ b)) w7 (hr7.mono (fun k hk _ => hk)) hc7 (by omega)).mono ?_)
      rintro e w8 ⟨v8, rfl, hown8, hf8⟩
      rw [hdec] at hown8
      obtain ⟨A8, c8, rfl, hc8, hr8⟩ := own_form hown8
      have hf58 : Fr No w5 w8 := hf57.trans hf8 (fun _ _ h => h)
      have hfw8 : Fr No w w8 := hf5.trans hf58 (fun _ _ h => h)
      have hx : Rd (fun k => k < w8.heap.size) w8 A4 (byV (encode a)) := (hr4'.fr hf58 (fun _ _ h => h)).mono (fun k hk _ => hk)
      have hy : Rd (fun k => k < w8.heap.size) w8 A5 (byV (encode b)) := (hr5.fr hf58 (fun _ _ h => h)).mono (fun k hk _ => hk)
      have hz : Rd (fun k => k < w8.heap.size) w8 A8 (actsV (a.map norm ++ b.map norm)) := by
        rw [← List.map_append]
        exact hr8.mono (fun k hk _ => hk)
      simp only [List.length_map, List.length_append] at hc8 ⊢
      clear hown6 hown7 hown8 hr8 hr7 hf6 hf7 hf8 hr4' hr5 hr5' hf57 hf56 hf58 hdec he hra hrb hf1 hf2 hf3 hf12 hf13 hf4 hf5 hv6
      have hx2 : ∀ W, Fr No w8 W → (convert 26 9 (.slice A4 (encode a).length c4)).run Try.prog W = .ok (.string ⟨(encode a).toArray⟩) W := fun W hW =>
        run_conv_bytes (P := Try.prog) W 26 9 5 Try.underlying26 Try.underlying5 Try.underlying9 A4 _ c4 (encode a) rfl (hx.fr hW (fun _ _ h => h))
      have hy2 : ∀ W, Fr No w8 W → (convert 26 9 (.slice A5 (encode b).length c5)).run Try.prog W = .ok (.string ⟨(encode b).toArray⟩) W := fun W hW =>
        run_conv_bytes (P := Try.prog) W 26 9 5 Try.underlying26 Try.underlying5 Try.underlying9 A5 _ c5 (encode b) rfl (hy.fr hW (fun _ _ h => h))
      have hnd : ∀ l : List ActM, (∀ x ∈ l, x.data.length ≤ 2000) → ∀ x ∈ l.map norm, x.data.length ≤ 4611686018427387904 := by
        intro l hl x hx
        obtain ⟨y, hy, rfl⟩ := List.mem_map.1 hx
        have := hl y hy
        unfold Cr.norm
        dsimp only
        split
        · simp; omega
        · simp
      have hz1 : Rd (fun k => k < w8.heap.size) w8 A8 (actsV (a.map norm)) := by
        have := hz.take_ (a.length * 4)
        rw [actsV_append, List.take_left' (by rw [actsV_length, List.length_map])] at this
        exact this
      have E1 := encode_at w8 A8 a.length c8 (a.map norm) hz1 (by simp) (by simp; omega) (by simp; omega) (hnd a h2000)
      rw [Cr.encode_norm] at E1
      have hA9 : ∃ A9, (if c8 = a.length then A8 else A8.map (fun x => x.add (a.length * 4))) = A9 := ⟨_, rfl⟩
      obtain ⟨A9, hA9⟩ := hA9
      have hz2 : Rd (fun k => k < w8.heap.size) w8 A9 (actsV (b.map norm)) := by
        rw [← hA9]
        rcases Nat.eq_zero_or_pos b.length with h0 | h0
        · rw [List.eq_nil_of_length_eq_zero h0]; exact Rd.nil _ _ _
        · have := hz.drop_ (n := a.length + b.length) (c := c8) (k := a.length) (by omega) hc8 (a.length * 4)
          rw [actsV_append, List.drop_left' (by rw [actsV_length, List.length_map])] at this
          exact this
      have E2 := encode_at w8 A9 b.length (c8 - a.length) (b.map norm) hz2 (by simp) (by simp; omega) (by simp; omega) (hnd b g2000)
      rw [Cr.encode_norm] at E2
      have D1 := fun W => decode_any No none 0 [] W (Rd.nil _ _ _) (by simp) (by simp)
      have hdr : Fr No w8 w8.drew := (Fr.refl _ _).drew
      have HE1 := Lib.hid E1
      have HE2 := Lib.hid E2
      have HD1 := Lib.hid D1
      have hs1 : (a.length : Int) + (b.length : Int) ≤ 120 := by omega
      have hc8' : (a.length : Int) ≤ (c8 : Int) := by omega
      have hc8'' : (a.length : Int) + (b.length : Int) ≤ (c8 : Int) := by omega
      clear E1 E2 D1 hz hz1 hz2 hnd hx hy
      by_cases hcq : c8 = a.length
      · obtain rfl : b = [] := List.eq_nil_of_length_eq_zero (by omega)
        subst hcq
        have E3 := encode_at w8 A8 0 0 [] (Rd.nil _ _ _) rfl (Nat.le_refl _) (by simp) (by simp)
        have HE3 := Lib.hid E3
        clear E3 hA9 hs1 hc8''
        go_wp2_with fail
        have hw : IntKind.i64.wrap (a.length : Int) = (a.length : Int) := IntWalk.i64_in _ (by omega)
        have hl0 : (0 : Int) ≤ (a.length : Int) := by omega
        refine wp_region_steps (Fr No) [(0, false), (1, false), (2, false), (3, false), (4, false), (5, false), (6, false), (7, false), (8, false), (9, false), (10, false), (11, false), (12, false), (15, false), (16, false), (13, true), (14, false), (17, false), (18, false), (19, false), (20, false), (21, false), (22, false), (23, false), (26, false), (27, false), (24, true), (25, false), (28, false), (29, false), (30, false), (31, true), (32, false), (33, false), (34, false), (35, false)] (by rfl) (PlanRel.refl _) (PlanRel.trans _) (by intro c a d v w h; cases d <;> exact h) (by kernel_rfl) (fun l hl => ?_) (by kernel_rfl)
        simp only [stepsOf, List.getElem?_toArray, List.getElem?_cons_succ, List.getElem?_cons_zero, Option.some.injEq] at hl
        subst hl
        refine plan_reads ?_ (by rfl) (fun w' hR => ?_) ?_
        rotate_left
        · (go_simp; try with_reducible rfl)
        simp only [Act.put, List.setIfInBounds_toArray, List.set_cons_zero, List.set_cons_succ]
        refine plan_reads ?_ (by rfl) (fun w' hR => ?_) ?_
        rotate_left
        · (go_simp; try with_reducible rfl)
        simp only [Act.put, List.setIfInBounds_toArray, List.set_cons_zero, List.set_cons_succ]
        refine plan_reads ?_ (by rfl) (fun w' hR => ?_) ?_
        rotate_left
        · (go_simp; try with_reducible rfl)
        simp only [Act.put, List.setIfInBounds_toArray, List.set_cons_zero, List.set_cons_succ]
        refine plan_reads ?_ (by rfl) (fun w' hR => ?_) ?_
        rotate_left
        · (go_simp; try with_reducible rfl)
        simp only [Act.put, List.setIfInBounds_toArray, List.set_cons_zero, List.set_cons_succ]
        refine plan_reads ?_ (by rfl) (fun w' hR => ?_) ?_
        rotate_left
        · (go_simp; try with_reducible rfl)
        simp only [Act.put, List.setIfInBounds_toArray, List.set_cons_zero, List.set_cons_succ]
        refine plan_reads ?_ (by rfl) (fun w' hR => ?_) ?_
        rotate_left
        · (go_simp; try with_reducible rfl)
        simp only [Act.put, List.setIfInBounds_toArray, List.set_cons_zero, List.set_cons_succ]
        refine plan_reads ?_ (by rfl) (fun w' hR => ?_) ?_
        rotate_left
        · (go_simp; try with_reducible rfl)
        simp only [Act.put, List.setIfInBounds_toArray, List.set_cons_zero, List.set_cons_succ]
        refine plan_reads ?_ (by rfl) (fun w' hR => ?_) ?_
        rotate_left
        · (go_simp; try with_reducible rfl)
        simp only [Act.put, List.setIfInBounds_toArray, List.set_cons_zero, List.set_cons_succ]
        refine plan_reads ?_ (by rfl) (fun w' hR => ?_) ?_
        rotate_left
        · (go_simp; try with_reducible rfl)
        simp only [Act.put, List.setIfInBounds_toArray, List.set_cons_zero, List.set_cons_succ]
        refine plan_reads ?_ (by rfl) (fun w' hR => ?_) ?_
        rotate_left
        · (go_simp; try with_reducible rfl)
        simp only [Act.put, List.setIfInBounds_toArray, List.set_cons_zero, List.set_cons_succ]
        refine plan_reads ?_ (by rfl) (fun w' hR => ?_) ?_
        rotate_left
        · (go_simp; try with_reducible rfl)
        simp only [Act.put, List.setIfInBounds_toArray, List.set_cons_zero, List.set_cons_succ]
        refine plan_reads ?_ (by rfl) (fun w' hR => ?_) ?_
        rotate_left
        · (go_simp; try with_reducible rfl)
        simp only [Act.put, List.setIfInBounds_toArray, List.set_cons_zero, List.set_cons_succ]
        refine plan_reads ?_ (by rfl) (fun w' hR => ?_) ?_
        rotate_left
        · (go_simp; try with_reducible rfl)
        simp only [Act.put, List.setIfInBounds_toArray, List.set_cons_zero, List.set_cons_succ]
        refine plan_reads ?_ (by rfl) (fun w' hR => ?_) ?_
        rotate_left
        · (go_simp; try with_reducible rfl)
        simp only [Act.put, List.setIfInBounds_toArray, List.set_cons_zero, List.set_cons_succ]
        refine plan_reads ?_ (by rfl) (fun w' hR => ?_) ?_
        rotate_left
        · have hk := hx2 w' (hdr.trans hR (fun _ _ h => h))
          (go_simp; try with_reducible rfl)
        simp only [Act.put, List.setIfInBounds_toArray, List.set_cons_zero, List.set_cons_succ]
        refine plan_does (by rfl) (fun K hK => ?_)
        go_simp
        refine (HE1.out _ hdr).mono ?_
        rintro e w9 ⟨A10, c10, rfl, hc10, hr10, hf10, hg10⟩
        refine hK _ _ hg10 ?_
        try simp only [Act.put, List.setIfInBounds_toArray, List.set_cons_zero, List.set_cons_succ]
        refine plan_reads ?_ (by rfl) (fun w' hR => ?_) ?_
        rotate_left
        · have hk := run_conv_bytes (P := Try.prog) w' 26 9 5 Try.underlying26 Try.underlying5 Try.underlying9 A10 _ c10 (encode a) rfl (hr10.fr hR (fun _ _ h => h))
          (go_simp; try with_reducible rfl)
        simp only [Act.put, List.setIfInBounds_toArray, List.set_cons_zero, List.set_cons_succ]
        refine plan_reads ?_ (by rfl) (fun w' hR => ?_) ?_
        rotate_left
        · (go_simp; try with_reducible rfl)
        simp only [Act.put, List.setIfInBounds_toArray, List.set_cons_zero, List.set_cons_succ]
        refine plan_reads ?_ (by rfl) (fun w' hR => ?_) ?_
        rotate_left
        · (go_simp; try with_reducible rfl)
        simp only [Act.put, List.setIfInBounds_toArray, List.set_cons_zero, List.set_cons_succ]
        refine plan_reads ?_ (by rfl) (fun w' hR => ?_) ?_
        rotate_left
        · (go_simp; try with_reducible rfl)
        simp only [Act.put, List.setIfInBounds_toArray, List.set_cons_zero, List.set_cons_succ]
        refine plan_reads ?_ (by rfl) (fun w' hR => ?_) ?_
        rotate_left
        · (go_simp; try with_reducible rfl)
        simp only [Act.put, List.setIfInBounds_toArray, List.set_cons_zero, List.set_cons_succ]
        refine plan_reads ?_ (by rfl) (fun w' hR => ?_) ?_
        rotate_left
        · (go_simp; try with_reducible rfl)
        simp only [Act.put, List.setIfInBounds_toArray, List.set_cons_zero, List.set_cons_succ]
        refine plan_reads ?_ (by rfl) (fun w' hR => ?_) ?_
        rotate_left
        · (go_simp; try with_reducible rfl)
        simp only [Act.put, List.setIfInBounds_toArray, List.set_cons_zero, List.set_cons_succ]
        refine plan_reads ?_ (by rfl) (fun w' hR => ?_) ?_
        rotate_left
        · (go_simp; try with_reducible rfl)
        simp only [Act.put, List.setIfInBounds_toArray, List.set_cons_zero, List.set_cons_succ]
        refine plan_reads ?_ (by rfl) (fun w' hR => ?_) ?_
        rotate_left
        · (go_simp; try with_reducible rfl)
        simp only [Act.put, List.setIfInBounds_toArray, List.set_cons_zero, List.set_cons_succ]
        refine plan_reads ?_ (by rfl) (fun w' hR => ?_) ?_
        rotate_left
        · have hk := hy2 w' (hf10.trans hR (fun _ _ h => h))
          (go_simp; try with_reducible rfl)
        simp only [Act.put, List.setIfInBounds_toArray, List.set_cons_zero, List.set_cons_succ]
        refine plan_does (by rfl) (fun K hK => ?_)
        go_simp
        refine (HE3.out _ hf10).mono ?_
        rintro e w11 ⟨A12, c12, rfl, hc12, hr12, hf12, hg12⟩
        refine hK _ _ hg12 ?_
        try simp only [Act.put, List.setIfInBounds_toArray, List.set_cons_zero, List.set_cons_succ]
        refine plan_reads ?_ (by rfl) (fun w' hR => ?_) ?_
        rotate_left
        · have hk := run_conv_bytes (P := Try.prog) w' 26 9 5 Try.underlying26 Try.underlying5 Try.underlying9 A12 _ c12 (encode []) rfl (hr12.fr hR (fun _ _ h => h))
          (go_simp; try with_reducible rfl)
        simp only [Act.put, List.setIfInBounds_toArray, List.set_cons_zero, List.set_cons_succ]
        refine plan_reads ?_ (by rfl) (fun w' hR => ?_) ?_
        rotate_left
        · (go_simp; try with_reducible rfl)
        simp only [Act.put, List.setIfInBounds_toArray, List.set_cons_zero, List.set_cons_succ]
        refine plan_reads ?_ (by rfl) (fun w' hR => ?_) ?_
        rotate_left
        · (go_simp; try with_reducible rfl)
        simp only [Act.put, List.setIfInBounds_toArray, List.set_cons_zero, List.set_cons_succ]
        refine plan_reads ?_ (by rfl) (fun w' hR => ?_) ?_
        rotate_left
        · (go_simp; try with_reducible rfl)
        simp only [Act.put, List.setIfInBounds_toArray, List.set_cons_zero, List.set_cons_succ]
        refine plan_does (by rfl) (fun K hK => ?_)
        go_simp
        refine (HD1.out _).mono ?_
        rintro e w13 ⟨v13, rfl, hown13, hf13⟩
        obtain ⟨A14, c14, rfl, _, _⟩ := own_form hown13
        rw [Cr.decodeAll_nil] at hown13 ⊢
        refine hK _ _ hf13 ?_
        try simp only [Act.put, List.setIfInBounds_toArray, List.set_cons_zero, List.set_cons_succ]
        refine plan_reads ?_ (by rfl) (fun w' hR => ?_) ?_
        rotate_left
        · (go_simp; try with_reducible rfl)
        simp only [Act.put, List.setIfInBounds_toArray, List.set_cons_zero, List.set_cons_succ]
        refine plan_reads ?_ (by rfl) (fun w' hR => ?_) ?_
        rotate_left
        · (go_simp; try with_reducible rfl)
        simp only [Act.put, List.setIfInBounds_toArray, List.set_cons_zero, List.set_cons_succ]
        refine plan_reads ?_ (by rfl) (fun w' hR => ?_) ?_
        rotate_left
        · (go_simp; try with_reducible rfl)
        simp only [Act.put, List.setIfInBounds_toArray, List.set_cons_zero, List.set_cons_succ]
        refine plan_reads ?_ (by rfl) (fun w' hR => ?_) ?_
        rotate_left
        · (go_simp; try with_reducible rfl)
        simp only [Act.put, List.setIfInBounds_toArray, List.set_cons_zero, List.set_cons_succ]
        refine plan_end ?_
        go_wp2_with fail
        go_ret
        exact ⟨rfl, hfw8.trans (hf12.trans hf13 (fun _ _ h => h)) (fun _ _ h => h)⟩
      · rw [if_neg hcq] at hA9
        go_wp2_with fail
        have hw : IntKind.i64.wrap ((a.length : Int) + (b.length : Int)) = (a.length : Int) + (b.length : Int) := IntWalk.i64_in _ (by omega)
        have hl0 : (0 : Int) ≤ (a.length : Int) := by omega
        have hl1 : (a.length : Int) ≤ (a.length : Int) + (b.length : Int) := by omega
        refine wp_region_steps (Fr No) [(0, false), (1, false), (2, false), (3, false), (4, false), (5, false), (6, false), (7, false), (8, false), (9, false), (10, false), (11, false), (12, false), (15, false), (16, false), (13, true), (14, false), (17, false), (18, false), (19, false), (20, false), (21, false), (22, false), (23, false), (26, false), (27, false), (24, true), (25, false), (28, false), (29, false), (30, false), (31, true), (32, false), (33, false), (34, false), (35, false)] (by rfl) (PlanRel.refl _) (PlanRel.trans _) (by intro c a d v w h; cases d <;> exact h) (by kernel_rfl) (fun l hl => ?_) (by kernel_rfl)
        simp only [stepsOf, List.getElem?_toArray, List.getElem?_cons_succ, List.getElem?_cons_zero, Option.some.injEq] at hl
        subst hl
        refine plan_reads ?_ (by rfl) (fun w' hR => ?_) ?_
        rotate_left
        · (go_simp; try with_reducible rfl)
        simp only [Act.put, List.setIfInBounds_toArray, List.set_cons_zero, List.set_cons_succ]
        refine plan_reads ?_ (by rfl) (fun w' hR => ?_) ?_
        rotate_left
        · (go_simp; try with_reducible rfl)
        simp only [Act.put, List.setIfInBounds_toArray, List.set_cons_zero, List.set_cons_succ]
        refine plan_reads ?_ (by rfl) (fun w' hR => ?_) ?_
        rotate_left
        · (go_simp; try with_reducible rfl)
        simp only [Act.put, List.setIfInBounds_toArray, List.set_cons_zero, List.set_cons_succ]
        refine plan_reads ?_ (by rfl) (fun w' hR => ?_) ?_
        rotate_left
        · (go_simp; try with_reducible rfl)
        simp only [Act.put, List.setIfInBounds_toArray, List.set_cons_zero, List.set_cons_succ]
        refine plan_reads ?_ (by rfl) (fun w' hR => ?_) ?_
        rotate_left
        · (go_simp; try with_reducible rfl)
        simp only [Act.put, List.setIfInBounds_toArray, List.set_cons_zero, List.set_cons_succ]
        refine plan_reads ?_ (by rfl) (fun w' hR => ?_) ?_
        rotate_left
        · (go_simp; try with_reducible rfl)
        simp only [Act.put, List.setIfInBounds_toArray, List.set_cons_zero, List.set_cons_succ]
        refine plan_reads ?_ (by rfl) (fun w' hR => ?_) ?_
        rotate_left
        · (go_simp; try with_reducible rfl)
        simp only [Act.put, List.setIfInBounds_toArray, List.set_cons_zero, List.set_cons_succ]
        refine plan_reads ?_ (by rfl) (fun w' hR => ?_) ?_
        rotate_left
        · (go_simp; try with_reducible rfl)
        simp only [Act.put, List.setIfInBounds_toArray, List.set_cons_zero, List.set_cons_succ]
        refine plan_reads ?_ (by rfl) (fun w' hR => ?_) ?_
        rotate_left
        · (go_simp; try with_reducible rfl)
        simp only [Act.put, List.setIfInBounds_toArray, List.set_cons_zero, List.set_cons_succ]
        refine plan_reads ?_ (by rfl) (fun w' hR => ?_) ?_
        rotate_left
        · (go_simp; try with_reducible rfl)
        simp only [Act.put, List.setIfInBounds_toArray, List.set_cons_zero, List.set_cons_succ]
        refine plan_reads ?_ (by rfl) (fun w' hR => ?_) ?_
        rotate_left
        · (go_simp; try with_reducible rfl)
        simp only [Act.put, List.setIfInBounds_toArray, List.set_cons_zero, List.set_cons_succ]
        refine plan_reads ?_ (by rfl) (fun w' hR => ?_) ?_
        rotate_left
        · (go_simp; try with_reducible rfl)
        simp only [Act.put, List.setIfInBounds_toArray, List.set_cons_zero, List.set_cons_succ]
        refine plan_reads ?_ (by rfl) (fun w' hR => ?_) ?_
        rotate_left
        · (go_simp; try with_reducible rfl)
        simp only [Act.put, List.setIfInBounds_toArray, List.set_cons_zero, List.set_cons_succ]
        refine plan_reads ?_ (by rfl) (fun w' hR => ?_) ?_
        rotate_left
        · (go_simp; try with_reducible rfl)
        simp only [Act.put, List.setIfInBounds_toArray, List.set_cons_zero, List.set_cons_succ]
        refine plan_reads ?_ (by rfl) (fun w' hR => ?_) ?_
        rotate_left
        · have hk := hx2 w' (hdr.trans hR (fun _ _ h => h))
          (go_simp; try with_reducible rfl)
        simp only [Act.put, List.setIfInBounds_toArray, List.set_cons_zero, List.set_cons_succ]
        refine plan_does (by rfl) (fun K hK => ?_)
        go_simp
        refine (HE1.out _ hdr).mono ?_
        rintro e w9 ⟨A10, c10, rfl, hc10, hr10, hf10, hg10⟩
        refine hK _ _ hg10 ?_
        try simp only [Act.put, List.setIfInBounds_toArray, List.set_cons_zero, List.set_cons_succ]
        refine plan_reads ?_ (by rfl) (fun w' hR => ?_) ?_
        rotate_left
        · have hk := run_conv_bytes (P := Try.prog) w' 26 9 5 Try.underlying26 Try.underlying5 Try.underlying9 A10 _ c10 (encode a) rfl (hr10.fr hR (fun _ _ h => h))
          (go_simp; try with_reducible rfl)
        simp only [Act.put, List.setIfInBounds_toArray, List.set_cons_zero, List.set_cons_succ]
        refine plan_reads ?_ (by rfl) (fun w' hR => ?_) ?_
        rotate_left
        · (go_simp; try with_reducible rfl)
        simp only [Act.put, List.setIfInBounds_toArray, List.set_cons_zero, List.set_cons_succ]
        refine plan_reads ?_ (by rfl) (fun w' hR => ?_) ?_
        rotate_left
        · (go_simp; try with_reducible rfl)
        simp only [Act.put, List.setIfInBounds_toArray, List.set_cons_zero, List.set_cons_succ]
        refine plan_reads ?_ (by rfl) (fun w' hR => ?_) ?_
        rotate_left
        · (go_simp; try with_reducible rfl)
        simp only [Act.put, List.setIfInBounds_toArray, List.set_cons_zero, List.set_cons_succ]
        refine plan_reads ?_ (by rfl) (fun w' hR => ?_) ?_
        rotate_left
        · (go_simp; try with_reducible rfl)
        simp only [Act.put, List.setIfInBounds_toArray, List.set_cons_zero, List.set_cons_succ]
        refine plan_reads ?_ (by rfl) (fun w' hR => ?_) ?_
        rotate_left
        · (go_simp; try with_reducible rfl)
        simp only [Act.put, List.setIfInBounds_toArray, List.set_cons_zero, List.set_cons_succ]
        refine plan_reads ?_ (by rfl) (fun w' hR => ?_) ?_
        rotate_left
        · (go_simp; try with_reducible rfl)
        simp only [Act.put, List.setIfInBounds_toArray, List.set_cons_zero, List.set_cons_succ]
        refine plan_reads ?_ (by rfl) (fun w' hR => ?_) ?_
        rotate_left
        · (go_simp; try with_reducible rfl)
        simp only [Act.put, List.setIfInBounds_toArray, List.set_cons_zero, List.set_cons_succ]
        refine plan_reads ?_ (by rfl) (fun w' hR => ?_) ?_
        rotate_left
        · (go_simp; try with_reducible rfl)
        simp only [Act.put, List.setIfInBounds_toArray, List.set_cons_zero, List.set_cons_succ]
        refine plan_reads ?_ (by rfl) (fun w' hR => ?_) ?_
        rotate_left
        · have hk := hy2 w' (hf10.trans hR (fun _ _ h => h))
          (go_simp; try with_reducible rfl)
        simp only [Act.put, List.setIfInBounds_toArray, List.set_cons_zero, List.set_cons_succ]
        refine plan_does (by rfl) (fun K hK => ?_)
        go_simp
        refine (HE2.out _ hf10).mono ?_
        rintro e w11 ⟨A12, c12, rfl, hc12, hr12, hf12, hg12⟩
        refine hK _ _ hg12 ?_
        try simp only [Act.put, List.setIfInBounds_toArray, List.set_cons_zero, List.set_cons_succ]
        refine plan_reads ?_ (by rfl) (fun w' hR => ?_) ?_
        rotate_left
        · have hk := run_conv_bytes (P := Try.prog) w' 26 9 5 Try.underlying26 Try.underlying5 Try.underlying9 A12 _ c12 (encode b) rfl (hr12.fr hR (fun _ _ h => h))
          (go_simp; try with_reducible rfl)
        simp only [Act.put, List.setIfInBounds_toArray, List.set_cons_zero, List.set_cons_succ]
        refine plan_reads ?_ (by rfl) (fun w' hR => ?_) ?_
        rotate_left
        · (go_simp; try with_reducible rfl)
        simp only [Act.put, List.setIfInBounds_toArray, List.set_cons_zero, List.set_cons_succ]
        refine plan_reads ?_ (by rfl) (fun w' hR => ?_) ?_
        rotate_left
        · (go_simp; try with_reducible rfl)
        simp only [Act.put, List.setIfInBounds_toArray, List.set_cons_zero, List.set_cons_succ]
        refine plan_reads ?_ (by rfl) (fun w' hR => ?_) ?_
        rotate_left
        · (go_simp; try with_reducible rfl)
        simp only [Act.put, List.setIfInBounds_toArray, List.set_cons_zero, List.set_cons_succ]
        refine plan_does (by rfl) (fun K hK => ?_)
        go_simp
        refine (HD1.out _).mono ?_
        rintro e w13 ⟨v13, rfl, hown13, hf13⟩
        obtain ⟨A14, c14, rfl, _, _⟩ := own_form hown13
        rw [Cr.decodeAll_nil] at hown13 ⊢
        refine hK _ _ hf13 ?_
        try simp only [Act.put, List.setIfInBounds_toArray, List.set_cons_zero, List.set_cons_succ]
        refine plan_reads ?_ (by rfl) (fun w' hR => ?_) ?_
        rotate_left
        · (go_simp; try with_reducible rfl)
        simp only [Act.put, List.setIfInBounds_toArray, List.set_cons_zero, List.set_cons_succ]
        refine plan_reads ?_ (by rfl) (fun w' hR => ?_) ?_
        rotate_left
        · (go_simp; try with_reducible rfl)
        simp only [Act.put, List.setIfInBounds_toArray, List.set_cons_zero, List.set_cons_succ]
        refine plan_reads ?_ (by rfl) (fun w' hR => ?_) ?_
        rotate_left
        · (go_simp; try with_reducible rfl)
        simp only [Act.put, List.setIfInBounds_toArray, List.set_cons_zero, List.set_cons_succ]
        refine plan_reads ?_ (by rfl) (fun w' hR => ?_) ?_
        rotate_left
        · (go_simp; try with_reducible rfl)
        simp only [Act.put, List.setIfInBounds_toArray, List.set_cons_zero, List.set_cons_succ]
        refine plan_end ?_
        go_wp2_with fail
        go_ret
        exact ⟨rfl, hfw8.trans (hf12.trans hf13 (fun _ _ h => h)) (fun _ _ h => h)⟩

set_option maxRecDepth 100000 in
theorem joins_lifted (os : Os) (started : os.Started) (H : Type) (enc : TypeId × Value → H) :
    ReturnsInHanded {} Try.checked os 5 .any (Rows.scriptJoinsSpec.pre6 enc Try.prog Try.f5 Rows.scriptJoinsRow.domain false) (Rows.scriptJoinsSpec.post enc Try.prog Try.f5 false true false false) := by
  refine returnsInHanded_of_change (C := Try.checked) own started (by kernel_rfl) Try.func5
    (ChangeSpec.witness6 (enc := enc) (C := Try.checked) false ⟨#[], #[.slice none 0 0, .slice none 0 0], []⟩ 8 (by kernel_rfl) (by kernel_rfl) (by kernel_rfl) (by kernel_rfl)) ?_
  intro W base args ds gs before hval0 hW hcnd _
  have hval : ∀ (j : Nat) t v, Try.f5.params[j]? = some t → args[j]? = some v → Value.okWide Try.prog W .any base t v := hval0
  have hW' := hW
  obtain ⟨p, q, hA0, hV, rfl, hfz, hnd⟩ := hW
  have hA : DataW.TrodAll enc Try.prog W 0 (fun _ => true) true Try.f5.params.toList args.toList ds p := hA0
  rw [Try.params5] at hA hval
  obtain ⟨v0, vs0, d0, ds0, p0, q0, hargs, rfl, rfl, h0, r0⟩ := trodAll_cons hA
  obtain ⟨v1, vs1, d1, ds1, p1, q1, rfl, rfl, rfl, h1, r1⟩ := trodAll_cons r0
  obtain ⟨rfl, rfl, rfl⟩ := trodAll_nil r1
  obtain rfl : args = #[v0, v1] := by cases args; simp_all
  obtain ⟨rfl, rfl⟩ := trodVars_none hV
  obtain ⟨a0, len0, cap0, rfl⟩ := okWide_slice Try.underlying22 (hval 0 22 v0 rfl rfl)
  have k0 := h0
  have lt0 : ∀ x ∈ p0, x.block < W.heap.size := by obtain ⟨m, hm⟩ := k0; exact DataW.trod_lt m _ _ _ hm
  obtain ⟨l0, e0, hl0, hc0, hr0, hd0⟩ : ∃ l, len0 = List.length l ∧ l.length ≤ cap0 ∧ cap0 ≤ maxLen ∧ Rd (fun k => k < W.heap.size) W a0 (actsV l) ∧ ∀ a ∈ l, a.data.length ≤ maxLen := by
    obtain ⟨fuel, hf⟩ := h0
    obtain ⟨A, c, l, hcs, h1, h2, h3, h4⟩ := open_acts hf
    simp [Value.cells] at hcs
    obtain ⟨rfl, rfl, rfl⟩ := hcs
    exact ⟨l, rfl, h1, h2, h3, h4⟩
  subst e0
  obtain ⟨a1, len1, cap1, rfl⟩ := okWide_slice Try.underlying22 (hval 1 22 v1 rfl rfl)
  have k1 := h1
  have lt1 : ∀ x ∈ p1, x.block < W.heap.size := by obtain ⟨m, hm⟩ := k1; exact DataW.trod_lt m _ _ _ hm
  obtain ⟨l1, e1, hl1, hc1, hr1, hd1⟩ : ∃ l, len1 = List.length l ∧ l.length ≤ cap1 ∧ cap1 ≤ maxLen ∧ Rd (fun k => k < W.heap.size) W a1 (actsV l) ∧ ∀ a ∈ l, a.data.length ≤ maxLen := by
    obtain ⟨fuel, hf⟩ := h1
    obtain ⟨A, c, l, hcs, h1, h2, h3, h4⟩ := open_acts hf
    simp [Value.cells] at hcs
    obtain ⟨rfl, rfl, rfl⟩ := hcs
    exact ⟨l, rfl, h1, h2, h3, h4⟩
  subst e1
  clear hA0 hval0
  refine (joins_walk a0 a1 cap0 cap1 l0 l1 W hr0 hr1 hl0 hl1 hc0 hc1 hd0 hd1).mono fun e W' ⟨he, fr⟩ => ?_
  have bel : Below W.heap.size W W' := fr.below (fun _ _ h => h) (Nat.le_refl _)
  subst he
  exact ⟨_, rfl, _, _, _, [], _, [], hW', trodAll_mk1 (shut_bool Try.underlying4 _), (trodAll_cons_mk (Below.trod laidOut (by kernel_rfl) (of_decide_eq_true (by kernel_rfl)) k0 bel lt0) (trodAll_cons_mk (Below.trod laidOut (by kernel_rfl) (of_decide_eq_true (by kernel_rfl)) k1 bel lt1) trodAll_mk0)), rfl, bel.frame _, fun h => by cases h⟩

theorem joins_holds : Rows.ScriptJoinsSaid :=
  OpenClaim.holds_of_wide 5 Try.f5 rfl rfl rfl rfl rfl rfl rfl ⟨rfl, rfl, rfl, rfl, rfl⟩ rfl rfl rfl rfl rfl (by kernel_rfl) Try.func5 (by kernel_rfl)
    (of_decide_eq_true (by kernel_rfl)) (by unfold Func.isWrapper; first | (rw [if_pos (by decide +kernel)]; kernel_rfl) | (rw [if_neg (by decide +kernel)]; exact ⟨rfl, rfl⟩))
    (fun os started H enc _ => joins_lifted os started H enc)
#print axioms joins_holds
end Go.Proofs.Ythpoiopfmjeklaa
