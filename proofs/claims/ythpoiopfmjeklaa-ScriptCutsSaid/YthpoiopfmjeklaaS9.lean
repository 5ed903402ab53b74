/- ScriptCuts: whatever acts and whatever number come in, the Go function returns true: bytes that are cut tell the acts that are whole, and one more at most. No conditions. -/
import Derived.Test.YthpoiopfmjeklaaS6
import Derived.Test.YthpoiopfmjeklaaR
import Derived.Test.YthpoiopfmjeklaaS8
import Derived.IntWalk
set_option linter.unusedVariables false
set_option linter.unusedSimpArgs false
namespace Go.Proofs.Ythpoiopfmjeklaa
open Go.RowKit Go.Deep Go.ChangeShapes Go.WideShapes Go.ChangeAt Go.Joins
open Go.ChangeMaps (open_string shut_string)
open Cr (Str ActM encode decodeAll norm encAct)

theorem encode_len_le (l : List ActM) (k : Nat) : (encode (l.take k)).length ≤ (encode l).length := by
  have h : encode l = encode (l.take k) ++ encode (l.drop k) := by rw [← encode_append, List.take_append_drop]
  rw [h, List.length_append]
  omega

/-- The number of acts that are whole: the law that the statement leans on. -/
theorem cut_law (l : List ActM) (cut n : Nat) (hcut : cut ≤ (encode l).length) (hn : n ≤ l.length) (h1 : (encode (l.take n)).length ≤ cut)
    (h2 : n < l.length → cut < (encode (l.take (n + 1))).length) :
    (decodeAll ((encode l).take cut)).length = n + (if (encode (l.take n)).length < cut then 1 else 0) ∧ (decodeAll ((encode l).take cut)).take n = (l.take n).map norm := by
  have h : encode l = encode (l.take n) ++ encode (l.drop n) := by rw [← encode_append, List.take_append_drop]
  have e : (encode l).take cut = encode (l.take n) ++ (encode (l.drop n)).take (cut - (encode (l.take n)).length) := by
    rw [h, List.take_append, List.take_of_length_le h1]
  have hl : ((l.take n).map norm).length = n := by simp; omega
  rw [e, Cr.decode_encode]
  refine ⟨?_, by rw [List.take_left' hl]⟩
  rw [List.length_append, hl]
  by_cases hlt : (encode (l.take n)).length < cut
  · rw [if_pos hlt]
    have hnl : n < l.length := by
      rcases Nat.lt_or_ge n l.length with h3 | h3
      · exact h3
      · rw [List.take_of_length_le h3] at hlt; omega
    obtain ⟨a, ha⟩ : ∃ a, l[n]? = some a := ⟨l[n], by simp [hnl]⟩
    have h3 := h2 hnl
    rw [encode_take l n a ha, List.length_append] at h3
    have hd : l.drop n = a :: l.drop (n + 1) := by
      rw [List.drop_eq_getElem_cons hnl]
      congr 1
      rw [List.getElem?_eq_getElem hnl] at ha
      exact Option.some.inj ha
    rw [hd]
    simp only [encode]
    rw [List.take_append_of_le_length (by omega)]
    congr 1
    refine Cr.decAct_part a _ ((encAct a).drop (cut - (encode (l.take n)).length)) (List.take_append_drop _ _).symm ?_ ?_
    · intro h4
      have := congrArg List.length h4
      have h5 : 2 ≤ (encAct a).length := by unfold Cr.encAct; simp
      rw [List.length_take, List.length_nil] at this
      omega
    · intro h4
      have := congrArg List.length h4
      rw [List.length_drop, List.length_nil] at this
      omega
  · rw [if_neg hlt]
    rw [show cut - (encode (l.take n)).length = 0 by omega]
    simp [Cr.decodeAll_nil]

theorem decode_at (w : World) (A : Option Addr) (n c : Nat) (bs : Str) (hr : Rd (fun k => k < w.heap.size) w A (byV bs)) (hn : n = bs.length) (hc : n ≤ c) (h6 : bs.length ≤ 1000000) (W : World) (hW : Fr No w W) :
    Calls Try.prog 9 #[.slice A n c] W fun e w' =>
      ∃ A' c', e = .returned (.slice A' (decodeAll bs).length c') ∧ (decodeAll bs).length ≤ c' ∧ Rd (fun k => k < w'.heap.size) w' A' (actsV (decodeAll bs)) ∧ Fr No w w' ∧ Fr No W w' := by
  subst hn
  refine (decode_any No A c bs W ((hr.fr hW (fun _ _ h => h)).mono (fun k hk _ => hk)) hc h6).mono ?_
  rintro e w' ⟨v, rfl, hown, hf⟩
  obtain ⟨A', c', rfl, hc', hr'⟩ := own_form hown
  exact ⟨A', c', rfl, hc', hr'.mono (fun k hk _ => hk), hW.trans hf (fun _ _ h => h), hf⟩

set_option maxRecDepth 100000 in
set_option maxHeartbeats 2000000 in
theorem cuts_walk (A : Option Addr) (c : Nat) (l : List ActM) (x : Int) (w : World) (hr : Rd (fun k => k < w.heap.size) w A (actsV l)) (hc : l.length ≤ c) (hcm : c ≤ maxLen) (hd : ∀ a ∈ l, a.data.length ≤ maxLen) (hx : (Lit.int .i64 x).wf = true) :
    Calls Try.prog 6 #[.slice A l.length c, .int .i64 x] w fun e w' => e = .returned (.bool true) ∧ Fr No w w' := by
  have hfit := fun W => fit_any W
  have Hfit := Lib.hid hfit
  clear hfit
  unfold maxLen at hcm hd
  go_enter Try.func6, Try.ntmps6
  go_wp2_with (go_at_call 7; refine (Hfit.out _).mono ?_)
  rintro e w1 ⟨rfl, hf1⟩
  have hr1 := hr.fr hf1 (fun _ _ h => h)
  cases hl : lightB l with
  | false =>
    have hlight := light_any (fun k => k < w.heap.size) A c l w1 hr1 (by omega) hd
    rw [hl] at hlight
    have Hlight := Lib.hid hlight
    clear hlight hl
    go_wp2_with (go_at_call 8; refine Hlight.out.mono ?_)
    rintro e w2 ⟨rfl, hf2⟩
    go_wp2_with fail
    go_ret
    exact ⟨rfl, hf1.trans hf2 (fun _ _ h => h)⟩
  | true =>
    obtain ⟨h60, h2000⟩ := lightB_true hl
    have hlight := light_any (fun k => k < w.heap.size) A c l w1 hr1 (by omega) hd
    rw [hl] at hlight
    have Hlight := Lib.hid hlight
    clear hlight hl
    go_wp2_with (go_at_call 8; refine Hlight.out.mono ?_)
    rintro e w2 ⟨rfl, hf2⟩
    have hf12 : Fr No w w2 := hf1.trans hf2 (fun _ _ h => h)
    have hdd : ∀ a ∈ l, a.data.length ≤ 4611686018427387904 := fun a ha => by have := h2000 a ha; omega
    go_wp2_with (go_at_call 10; refine (encode_at w A l.length c l hr rfl hc (by omega) hdd w2 hf12).mono ?_)
    rintro e w3 ⟨A3, c3, rfl, hc3, hr3, hf3, _⟩
    have hlen := encode_le l
    obtain ⟨L, hL⟩ : ∃ L, (encode l).length = L := ⟨_, rfl⟩
    rw [hL] at hc3 hlen
    have HL := Lib.hid hL
    obtain ⟨q, hq⟩ : ∃ q : Int, x.tmod ((L : Int) + 1) = q := ⟨_, rfl⟩
    have hq1 : q < (L : Int) + 1 := by rw [← hq]; exact Int.tmod_lt_of_pos _ (by omega)
    have hq2 : -((L : Int) + 1) < q := by
      rw [← hq]
      have := Int.lt_tmod_of_pos x (b := (L : Int) + 1) (by omega)
      exact this
    obtain ⟨cut, hcut⟩ : ∃ cut : Nat, (q + (L : Int) + 1).tmod ((L : Int) + 1) = (cut : Int) := by
      obtain ⟨cut, h⟩ := Int.eq_ofNat_of_zero_le (Int.tmod_nonneg (a := q + (L : Int) + 1) ((L : Int) + 1) (by omega))
      exact ⟨cut, h⟩
    have hcl : (cut : Int) < (L : Int) + 1 := by rw [← hcut]; exact Int.tmod_lt_of_pos _ (by omega)
    have hLi : (L : Int) ≤ 15480 := by omega
    rw [hL]
    have hcL : cut ≤ L := by omega
    have hr3' : Rd (fun k => k < w3.heap.size) w3 A3 (byV ((encode l).take cut)) := by rw [← byV_take]; exact hr3.take_ _
    go_wp2_with (go_at_call 9; refine (decode_at w3 A3 cut c3 ((encode l).take cut) hr3' (by rw [List.length_take, HL.out]; omega) (by omega) (by rw [List.length_take, HL.out]; omega) w3 (Fr.refl _ _)).mono ?_)
    rintro e w4 ⟨A4, c4, rfl, hc4, hr4, hf4, _⟩
    have hfw4 : Fr No w w4 := hf3.trans hf4 (fun _ _ h => h)
    obtain ⟨M, hM⟩ : ∃ M, decodeAll ((encode l).take cut) = M := ⟨_, rfl⟩
    rw [hM] at hr4 hc4 ⊢
    have HM := Lib.hid hM
    have Hr := Lib.hid hr
    have Hd := Lib.hid hdd
    have HE := fun (k : Nat) (hk : k ≤ l.length) (W : World) (hW : Fr No w W) => encode_at w A k c (l.take k) (by have := hr.take_ (k * 4); rwa [show (actsV l).take (k * 4) = actsV (l.take k) from by
      have h1 : actsV l = actsV (l.take k) ++ actsV (l.drop k) := by rw [← actsV_append, List.take_append_drop]
      rw [h1, List.take_left' (by rw [actsV_length, List.length_take, Nat.min_eq_left hk])]] at this) (by rw [List.length_take, Nat.min_eq_left hk]) (by rw [List.length_take]; omega) (by rw [List.length_take]; omega) (fun a ha => hdd a (List.mem_of_mem_take ha)) W hW
    have HE' := Lib.hid HE
    clear HE hM hr3 hr3' hr hr1 hdd hd hcut hq hf1 hf2 hf12 hf3 hf4 Hfit Hlight h2000
    have hl60 : (l.length : Int) ≤ 60 := by omega
    have hlc : (l.length : Int) ≤ (c : Int) := by omega
    go_wp2_with fail
    go_loopg [7] l.length (fun gm i wr => ∃ n : Nat, n + gm = l.length ∧ i = .int .i64 n ∧ (encode (l.take n)).length ≤ cut ∧ Fr No w wr ∧ Fr No w4 wr)
    case atStart => exact ⟨0, by omega, rfl, by simp [Cr.encode], hfw4, Fr.refl _ _⟩
    case round =>
      obtain ⟨n, hn, rfl, hle, hfr, hfr4⟩ := hrel
      have hnc : (n : Int) ≤ (l.length : Int) := by omega
      by_cases hlt : n < l.length
      · have hlt' : (n : Int) < (l.length : Int) := by omega
        have hn1 : (n : Int) + 1 ≤ (c : Int) := by omega
        have hcall := HE'.out (n + 1) (by omega) wr hfr
        obtain ⟨E, hE⟩ : ∃ E, encode (l.take (n + 1)) = E := ⟨_, rfl⟩
        rw [hE] at hcall
        have Hcall := Lib.hid hcall
        have HEe := Lib.hid hE
        clear hcall hE
        by_cases hin : E.length ≤ cut
        · have hin' : (E.length : Int) ≤ (cut : Int) := by omega
          go_wp2_with (go_at_call 10; refine Hcall.out.mono ?_)
          rintro e w5 ⟨A5, c5, rfl, hc5, hr5, hf5, hg5⟩
          go_wp2_with fail
          go_roundg (gk - 1)
          case measure => omega
          case rel => exact ⟨n + 1, by omega, by go_num, by rw [HEe.out]; exact hin, hf5, hfr4.trans hg5 (fun _ _ h => h)⟩
        · have hin' : (cut : Int) < (E.length : Int) := by omega
          go_wp2_with (go_at_call 10; refine Hcall.out.mono ?_)
          rintro e w5 ⟨A5, c5, rfl, hc5, hr5, hf5, hg5⟩
          have hnn := hle
          have hlaw := cut_law l cut n (by rw [HL.out]; exact hcL) (by omega) hle (fun _ => by rw [HEe.out]; omega)
          rw [HM.out] at hlaw
          obtain ⟨hlaw1, hlaw2⟩ := hlaw
          have hcall0 := HE'.out n (by omega) w5 hf5
          have hM0 : Rd (fun k => k < w4.heap.size) w4 A4 (actsV (M.take n)) := by
            have h := hr4.take_ (n * 4)
            have hMn : n ≤ M.length := by rw [hlaw1]; omega
            have h1 : actsV M = actsV (M.take n) ++ actsV (M.drop n) := by rw [← actsV_append, List.take_append_drop]
            rw [h1, List.take_left' (by rw [actsV_length, List.length_take, Nat.min_eq_left hMn])] at h
            exact h
          have hMn : n ≤ M.length := by rw [hlaw1]; omega
          have HM1 := encode_at w4 A4 n c4 (M.take n) hM0 (by rw [List.length_take, Nat.min_eq_left hMn]) (by rw [List.length_take]; omega) (by rw [List.length_take]; omega) (by
            intro a ha
            rw [hlaw2] at ha
            obtain ⟨b, hb, rfl⟩ := List.mem_map.1 ha
            have := Hd.out b (List.mem_of_mem_take hb)
            unfold Cr.norm
            dsimp only
            split
            · simp; omega
            · simp)
          rw [hlaw2, Cr.encode_norm] at HM1
          obtain ⟨E0, hE0⟩ : ∃ E0, encode (l.take n) = E0 := ⟨_, rfl⟩
          have HEn := HE'.out n (by omega)
          rw [hE0] at hcall0 HM1 hlaw1 hle HEn
          have Hcall0 := Lib.hid hcall0
          have HM1' := Lib.hid HM1
          have HEn' := Lib.hid HEn
          have hE0i : (E0.length : Int) ≤ (cut : Int) := by omega
          have hMc : (n : Int) ≤ (M.length : Int) := by omega
          have hMc2 : (M.length : Int) ≤ (c4 : Int) := by omega
          have hn0 : (0 : Int) ≤ (n : Int) := by omega
          have hnc2 : (n : Int) ≤ (c : Int) := by omega
          have hnc3 : (n : Int) ≤ (c4 : Int) := by omega
          clear hcall0 HM1 HEn hE0 hlaw2 hM0
          by_cases hmore : E0.length < cut
          · have hmi : (E0.length : Int) < (cut : Int) := by omega
            rw [if_pos hmore] at hlaw1
            have hMl : (M.length : Int) = (n : Int) + 1 := by omega
            have hw : IntKind.i64.wrap ((n : Int) + 1) = (n : Int) + 1 := IntWalk.i64_in _ (by omega)
            have HMl := Lib.hid hMl
            clear hMl hlaw1
            go_wp2_with (go_at_call 10; refine Hcall0.out.mono ?_)
            rintro e w6 ⟨A6, c6, rfl, hc6, hr6, hf6, hg6⟩
            have hf46 : Fr No w4 w6 := (hfr4.trans hg5 (fun _ _ h => h)).trans hg6 (fun _ _ h => h)
            have hdr : Fr No w6 w6.drew := (Fr.refl _ _).drew
            go_wp2_with fail
            have hMl := HMl.out
            refine wp_region_steps (Fr No) [(0, false), (1, false), (2, false), (3, false), (4, false), (5, false), (6, false), (7, false), (8, false), (9, false), (12, false), (13, false), (14, false), (10, true), (11, false), (15, true), (16, false), (17, false), (18, false), (19, false)] (by rfl) (PlanRel.refl _) (PlanRel.trans _) (by intro c a d v w h; cases d <;> exact h) (by kernel_rfl) (fun l hl => ?_) (by kernel_rfl)
            simp only [stepsOf, List.getElem?_toArray, List.getElem?_cons_succ, List.getElem?_cons_zero, Option.some.injEq] at hl
            subst hl
            refine plan_reads ?_ (by rfl) (fun w' hR => ?_) ?_
            rotate_left
            · (go_simp; try with_reducible rfl)
            simp only [Act.put, List.setIfInBounds_toArray, List.set_cons_zero, List.set_cons_succ]
            refine plan_reads ?_ (by rfl) (fun w' hR => ?_) ?_
            rotate_left
            · (go_simp; try with_reducible rfl)
            simp only [Act.put, List.setIfInBounds_toArray, List.set_cons_zero, List.set_cons_succ]
            refine plan_reads ?_ (by rfl) (fun w' hR => ?_) ?_
            rotate_left
            · (go_simp; try with_reducible rfl)
            simp only [Act.put, List.setIfInBounds_toArray, List.set_cons_zero, List.set_cons_succ]
            refine plan_reads ?_ (by rfl) (fun w' hR => ?_) ?_
            rotate_left
            · (go_simp; try with_reducible rfl)
            simp only [Act.put, List.setIfInBounds_toArray, List.set_cons_zero, List.set_cons_succ]
            refine plan_reads ?_ (by rfl) (fun w' hR => ?_) ?_
            rotate_left
            · (go_simp; try with_reducible rfl)
            simp only [Act.put, List.setIfInBounds_toArray, List.set_cons_zero, List.set_cons_succ]
            refine plan_reads ?_ (by rfl) (fun w' hR => ?_) ?_
            rotate_left
            · (go_simp; try with_reducible rfl)
            simp only [Act.put, List.setIfInBounds_toArray, List.set_cons_zero, List.set_cons_succ]
            refine plan_reads ?_ (by rfl) (fun w' hR => ?_) ?_
            rotate_left
            · (go_simp; try with_reducible rfl)
            simp only [Act.put, List.setIfInBounds_toArray, List.set_cons_zero, List.set_cons_succ]
            refine plan_reads ?_ (by rfl) (fun w' hR => ?_) ?_
            rotate_left
            · (go_simp; try with_reducible rfl)
            simp only [Act.put, List.setIfInBounds_toArray, List.set_cons_zero, List.set_cons_succ]
            refine plan_reads ?_ (by rfl) (fun w' hR => ?_) ?_
            rotate_left
            · (go_simp; try with_reducible rfl)
            simp only [Act.put, List.setIfInBounds_toArray, List.set_cons_zero, List.set_cons_succ]
            refine plan_reads ?_ (by rfl) (fun w' hR => ?_) ?_
            rotate_left
            · (go_simp; try with_reducible rfl)
            simp only [Act.put, List.setIfInBounds_toArray, List.set_cons_zero, List.set_cons_succ]
            refine plan_reads ?_ (by rfl) (fun w' hR => ?_) ?_
            rotate_left
            · (go_simp; try with_reducible rfl)
            simp only [Act.put, List.setIfInBounds_toArray, List.set_cons_zero, List.set_cons_succ]
            refine plan_reads ?_ (by rfl) (fun w' hR => ?_) ?_
            rotate_left
            · (go_simp; try with_reducible rfl)
            simp only [Act.put, List.setIfInBounds_toArray, List.set_cons_zero, List.set_cons_succ]
            refine plan_reads ?_ (by rfl) (fun w' hR => ?_) ?_
            rotate_left
            · (go_simp; try with_reducible rfl)
            simp only [Act.put, List.setIfInBounds_toArray, List.set_cons_zero, List.set_cons_succ]
            refine plan_does (by rfl) (fun K hK => ?_)
            go_simp
            refine (HM1'.out _ (hf46.trans hdr (fun _ _ h => h))).mono ?_
            rintro e w7 ⟨A7, c7, rfl, hc7, hr7, hf7, hg7⟩
            refine hK _ _ hg7 ?_
            try simp only [Act.put, List.setIfInBounds_toArray, List.set_cons_zero, List.set_cons_succ]
            refine plan_reads ?_ (by rfl) (fun w' hR => ?_) ?_
            rotate_left
            · have hk := run_conv_bytes (P := Try.prog) w' 26 9 5 Try.underlying26 Try.underlying5 Try.underlying9 A7 _ c7 E0 rfl (hr7.fr hR (fun _ _ h => h))
              (go_simp; try with_reducible rfl)
            simp only [Act.put, List.setIfInBounds_toArray, List.set_cons_zero, List.set_cons_succ]
            refine plan_does (by rfl) (fun K hK => ?_)
            go_simp
            refine (HEn'.out _ ((hf6.trans hdr (fun _ _ h => h)).trans hg7 (fun _ _ h => h))).mono ?_
            rintro e w8 ⟨A8, c8, rfl, hc8, hr8, hf8, hg8⟩
            refine hK _ _ hg8 ?_
            try simp only [Act.put, List.setIfInBounds_toArray, List.set_cons_zero, List.set_cons_succ]
            refine plan_reads ?_ (by rfl) (fun w' hR => ?_) ?_
            rotate_left
            · have hk := run_conv_bytes (P := Try.prog) w' 26 9 5 Try.underlying26 Try.underlying5 Try.underlying9 A8 _ c8 E0 rfl (hr8.fr hR (fun _ _ h => h))
              (go_simp; try with_reducible rfl)
            simp only [Act.put, List.setIfInBounds_toArray, List.set_cons_zero, List.set_cons_succ]
            refine plan_reads ?_ (by rfl) (fun w' hR => ?_) ?_
            rotate_left
            · (go_simp; try with_reducible rfl)
            simp only [Act.put, List.setIfInBounds_toArray, List.set_cons_zero, List.set_cons_succ]
            refine plan_reads ?_ (by rfl) (fun w' hR => ?_) ?_
            rotate_left
            · (go_simp; try with_reducible rfl)
            simp only [Act.put, List.setIfInBounds_toArray, List.set_cons_zero, List.set_cons_succ]
            refine plan_reads ?_ (by rfl) (fun w' hR => ?_) ?_
            rotate_left
            · (go_simp; try with_reducible rfl)
            simp only [Act.put, List.setIfInBounds_toArray, List.set_cons_zero, List.set_cons_succ]
            refine plan_end ?_
            go_wp2_with fail
            go_ret
            exact ⟨rfl, hf8⟩
          · have hmi : (cut : Int) ≤ (E0.length : Int) := by omega
            rw [if_neg hmore] at hlaw1
            have hMl : (M.length : Int) = (n : Int) := by omega
            have hw : IntKind.i64.wrap (n : Int) = (n : Int) := IntWalk.i64_in _ (by omega)
            have HMl := Lib.hid hMl
            clear hMl hlaw1
            go_wp2_with (go_at_call 10; refine Hcall0.out.mono ?_)
            rintro e w6 ⟨A6, c6, rfl, hc6, hr6, hf6, hg6⟩
            have hf46 : Fr No w4 w6 := (hfr4.trans hg5 (fun _ _ h => h)).trans hg6 (fun _ _ h => h)
            have hdr : Fr No w6 w6.drew := (Fr.refl _ _).drew
            go_wp2_with fail
            have hMl := HMl.out
            refine wp_region_steps (Fr No) [(0, false), (1, false), (2, false), (3, false), (4, false), (5, false), (6, false), (7, false), (8, false), (9, false), (12, false), (13, false), (14, false), (10, true), (11, false), (15, true), (16, false), (17, false), (18, false), (19, false)] (by rfl) (PlanRel.refl _) (PlanRel.trans _) (by intro c a d v w h; cases d <;> exact h) (by kernel_rfl) (fun l hl => ?_) (by kernel_rfl)
            simp only [stepsOf, List.getElem?_toArray, List.getElem?_cons_succ, List.getElem?_cons_zero, Option.some.injEq] at hl
            subst hl
            refine plan_reads ?_ (by rfl) (fun w' hR => ?_) ?_
            rotate_left
            · (go_simp; try with_reducible rfl)
            simp only [Act.put, List.setIfInBounds_toArray, List.set_cons_zero, List.set_cons_succ]
            refine plan_reads ?_ (by rfl) (fun w' hR => ?_) ?_
            rotate_left
            · (go_simp; try with_reducible rfl)
            simp only [Act.put, List.setIfInBounds_toArray, List.set_cons_zero, List.set_cons_succ]
            refine plan_reads ?_ (by rfl) (fun w' hR => ?_) ?_
            rotate_left
            · (go_simp; try with_reducible rfl)
            simp only [Act.put, List.setIfInBounds_toArray, List.set_cons_zero, List.set_cons_succ]
            refine plan_reads ?_ (by rfl) (fun w' hR => ?_) ?_
            rotate_left
            · (go_simp; try with_reducible rfl)
            simp only [Act.put, List.setIfInBounds_toArray, List.set_cons_zero, List.set_cons_succ]
            refine plan_reads ?_ (by rfl) (fun w' hR => ?_) ?_
            rotate_left
            · (go_simp; try with_reducible rfl)
            simp only [Act.put, List.setIfInBounds_toArray, List.set_cons_zero, List.set_cons_succ]
            refine plan_reads ?_ (by rfl) (fun w' hR => ?_) ?_
            rotate_left
            · (go_simp; try with_reducible rfl)
            simp only [Act.put, List.setIfInBounds_toArray, List.set_cons_zero, List.set_cons_succ]
            refine plan_reads ?_ (by rfl) (fun w' hR => ?_) ?_
            rotate_left
            · (go_simp; try with_reducible rfl)
            simp only [Act.put, List.setIfInBounds_toArray, List.set_cons_zero, List.set_cons_succ]
            refine plan_reads ?_ (by rfl) (fun w' hR => ?_) ?_
            rotate_left
            · (go_simp; try with_reducible rfl)
            simp only [Act.put, List.setIfInBounds_toArray, List.set_cons_zero, List.set_cons_succ]
            refine plan_reads ?_ (by rfl) (fun w' hR => ?_) ?_
            rotate_left
            · (go_simp; try with_reducible rfl)
            simp only [Act.put, List.setIfInBounds_toArray, List.set_cons_zero, List.set_cons_succ]
            refine plan_reads ?_ (by rfl) (fun w' hR => ?_) ?_
            rotate_left
            · (go_simp; try with_reducible rfl)
            simp only [Act.put, List.setIfInBounds_toArray, List.set_cons_zero, List.set_cons_succ]
            refine plan_reads ?_ (by rfl) (fun w' hR => ?_) ?_
            rotate_left
            · (go_simp; try with_reducible rfl)
            simp only [Act.put, List.setIfInBounds_toArray, List.set_cons_zero, List.set_cons_succ]
            refine plan_reads ?_ (by rfl) (fun w' hR => ?_) ?_
            rotate_left
            · (go_simp; try with_reducible rfl)
            simp only [Act.put, List.setIfInBounds_toArray, List.set_cons_zero, List.set_cons_succ]
            refine plan_reads ?_ (by rfl) (fun w' hR => ?_) ?_
            rotate_left
            · (go_simp; try with_reducible rfl)
            simp only [Act.put, List.setIfInBounds_toArray, List.set_cons_zero, List.set_cons_succ]
            refine plan_does (by rfl) (fun K hK => ?_)
            go_simp
            refine (HM1'.out _ (hf46.trans hdr (fun _ _ h => h))).mono ?_
            rintro e w7 ⟨A7, c7, rfl, hc7, hr7, hf7, hg7⟩
            refine hK _ _ hg7 ?_
            try simp only [Act.put, List.setIfInBounds_toArray, List.set_cons_zero, List.set_cons_succ]
            refine plan_reads ?_ (by rfl) (fun w' hR => ?_) ?_
            rotate_left
            · have hk := run_conv_bytes (P := Try.prog) w' 26 9 5 Try.underlying26 Try.underlying5 Try.underlying9 A7 _ c7 E0 rfl (hr7.fr hR (fun _ _ h => h))
              (go_simp; try with_reducible rfl)
            simp only [Act.put, List.setIfInBounds_toArray, List.set_cons_zero, List.set_cons_succ]
            refine plan_does (by rfl) (fun K hK => ?_)
            go_simp
            refine (HEn'.out _ ((hf6.trans hdr (fun _ _ h => h)).trans hg7 (fun _ _ h => h))).mono ?_
            rintro e w8 ⟨A8, c8, rfl, hc8, hr8, hf8, hg8⟩
            refine hK _ _ hg8 ?_
            try simp only [Act.put, List.setIfInBounds_toArray, List.set_cons_zero, List.set_cons_succ]
            refine plan_reads ?_ (by rfl) (fun w' hR => ?_) ?_
            rotate_left
            · have hk := run_conv_bytes (P := Try.prog) w' 26 9 5 Try.underlying26 Try.underlying5 Try.underlying9 A8 _ c8 E0 rfl (hr8.fr hR (fun _ _ h => h))
              (go_simp; try with_reducible rfl)
            simp only [Act.put, List.setIfInBounds_toArray, List.set_cons_zero, List.set_cons_succ]
            refine plan_reads ?_ (by rfl) (fun w' hR => ?_) ?_
            rotate_left
            · (go_simp; try with_reducible rfl)
            simp only [Act.put, List.setIfInBounds_toArray, List.set_cons_zero, List.set_cons_succ]
            refine plan_reads ?_ (by rfl) (fun w' hR => ?_) ?_
            rotate_left
            · (go_simp; try with_reducible rfl)
            simp only [Act.put, List.setIfInBounds_toArray, List.set_cons_zero, List.set_cons_succ]
            refine plan_reads ?_ (by rfl) (fun w' hR => ?_) ?_
            rotate_left
            · (go_simp; try with_reducible rfl)
            simp only [Act.put, List.setIfInBounds_toArray, List.set_cons_zero, List.set_cons_succ]
            refine plan_end ?_
            go_wp2_with fail
            go_ret
            exact ⟨rfl, hf8⟩
      · have hlt' : (l.length : Int) ≤ (n : Int) := by omega
        have hlaw := cut_law l cut n (by rw [HL.out]; exact hcL) (by omega) hle (fun h => absurd h hlt)
        rw [HM.out] at hlaw
        obtain ⟨hlaw1, hlaw2⟩ := hlaw
        have hcall0 := HE'.out n (by omega) wr hfr
        have hM0 : Rd (fun k => k < w4.heap.size) w4 A4 (actsV (M.take n)) := by
          have h := hr4.take_ (n * 4)
          have hMn : n ≤ M.length := by rw [hlaw1]; omega
          have h1 : actsV M = actsV (M.take n) ++ actsV (M.drop n) := by rw [← actsV_append, List.take_append_drop]
          rw [h1, List.take_left' (by rw [actsV_length, List.length_take, Nat.min_eq_left hMn])] at h
          exact h
        have hMn : n ≤ M.length := by rw [hlaw1]; omega
        have HM1 := encode_at w4 A4 n c4 (M.take n) hM0 (by rw [List.length_take, Nat.min_eq_left hMn]) (by rw [List.length_take]; omega) (by rw [List.length_take]; omega) (by
          intro a ha
          rw [hlaw2] at ha
          obtain ⟨b, hb, rfl⟩ := List.mem_map.1 ha
          have := Hd.out b (List.mem_of_mem_take hb)
          unfold Cr.norm
          dsimp only
          split
          · simp; omega
          · simp)
        rw [hlaw2, Cr.encode_norm] at HM1
        obtain ⟨E0, hE0⟩ : ∃ E0, encode (l.take n) = E0 := ⟨_, rfl⟩
        have HEn := HE'.out n (by omega)
        rw [hE0] at hcall0 HM1 hlaw1 hle HEn
        have Hcall0 := Lib.hid hcall0
        have HM1' := Lib.hid HM1
        have HEn' := Lib.hid HEn
        have hE0i : (E0.length : Int) ≤ (cut : Int) := by omega
        have hMc : (n : Int) ≤ (M.length : Int) := by omega
        have hMc2 : (M.length : Int) ≤ (c4 : Int) := by omega
        have hn0 : (0 : Int) ≤ (n : Int) := by omega
        have hnc2 : (n : Int) ≤ (c : Int) := by omega
        have hnc3 : (n : Int) ≤ (c4 : Int) := by omega
        clear hcall0 HM1 HEn hE0 hlaw2 hM0
        by_cases hmore : E0.length < cut
        · have hmi : (E0.length : Int) < (cut : Int) := by omega
          rw [if_pos hmore] at hlaw1
          have hMl : (M.length : Int) = (n : Int) + 1 := by omega
          have hw : IntKind.i64.wrap ((n : Int) + 1) = (n : Int) + 1 := IntWalk.i64_in _ (by omega)
          have HMl := Lib.hid hMl
          clear hMl hlaw1
          go_wp2_with (go_at_call 10; refine Hcall0.out.mono ?_)
          rintro e w6 ⟨A6, c6, rfl, hc6, hr6, hf6, hg6⟩
          have hf46 : Fr No w4 w6 := hfr4.trans hg6 (fun _ _ h => h)
          have hdr : Fr No w6 w6.drew := (Fr.refl _ _).drew
          go_wp2_with fail
          have hMl := HMl.out
          refine wp_region_steps (Fr No) [(0, false), (1, false), (2, false), (3, false), (4, false), (5, false), (6, false), (7, false), (8, false), (9, false), (12, false), (13, false), (14, false), (10, true), (11, false), (15, true), (16, false), (17, false), (18, false), (19, false)] (by rfl) (PlanRel.refl _) (PlanRel.trans _) (by intro c a d v w h; cases d <;> exact h) (by kernel_rfl) (fun l hl => ?_) (by kernel_rfl)
          simp only [stepsOf, List.getElem?_toArray, List.getElem?_cons_succ, List.getElem?_cons_zero, Option.some.injEq] at hl
          subst hl
          refine plan_reads ?_ (by rfl) (fun w' hR => ?_) ?_
          rotate_left
          · (go_simp; try with_reducible rfl)
          simp only [Act.put, List.setIfInBounds_toArray, List.set_cons_zero, List.set_cons_succ]
          refine plan_reads ?_ (by rfl) (fun w' hR => ?_) ?_
          rotate_left
          · (go_simp; try with_reducible rfl)
          simp only [Act.put, List.setIfInBounds_toArray, List.set_cons_zero, List.set_cons_succ]
          refine plan_reads ?_ (by rfl) (fun w' hR => ?_) ?_
          rotate_left
          · (go_simp; try with_reducible rfl)
          simp only [Act.put, List.setIfInBounds_toArray, List.set_cons_zero, List.set_cons_succ]
          refine plan_reads ?_ (by rfl) (fun w' hR => ?_) ?_
          rotate_left
          · (go_simp; try with_reducible rfl)
          simp only [Act.put, List.setIfInBounds_toArray, List.set_cons_zero, List.set_cons_succ]
          refine plan_reads ?_ (by rfl) (fun w' hR => ?_) ?_
          rotate_left
          · (go_simp; try with_reducible rfl)
          simp only [Act.put, List.setIfInBounds_toArray, List.set_cons_zero, List.set_cons_succ]
          refine plan_reads ?_ (by rfl) (fun w' hR => ?_) ?_
          rotate_left
          · (go_simp; try with_reducible rfl)
          simp only [Act.put, List.setIfInBounds_toArray, List.set_cons_zero, List.set_cons_succ]
          refine plan_reads ?_ (by rfl) (fun w' hR => ?_) ?_
          rotate_left
          · (go_simp; try with_reducible rfl)
          simp only [Act.put, List.setIfInBounds_toArray, List.set_cons_zero, List.set_cons_succ]
          refine plan_reads ?_ (by rfl) (fun w' hR => ?_) ?_
          rotate_left
          · (go_simp; try with_reducible rfl)
          simp only [Act.put, List.setIfInBounds_toArray, List.set_cons_zero, List.set_cons_succ]
          refine plan_reads ?_ (by rfl) (fun w' hR => ?_) ?_
          rotate_left
          · (go_simp; try with_reducible rfl)
          simp only [Act.put, List.setIfInBounds_toArray, List.set_cons_zero, List.set_cons_succ]
          refine plan_reads ?_ (by rfl) (fun w' hR => ?_) ?_
          rotate_left
          · (go_simp; try with_reducible rfl)
          simp only [Act.put, List.setIfInBounds_toArray, List.set_cons_zero, List.set_cons_succ]
          refine plan_reads ?_ (by rfl) (fun w' hR => ?_) ?_
          rotate_left
          · (go_simp; try with_reducible rfl)
          simp only [Act.put, List.setIfInBounds_toArray, List.set_cons_zero, List.set_cons_succ]
          refine plan_reads ?_ (by rfl) (fun w' hR => ?_) ?_
          rotate_left
          · (go_simp; try with_reducible rfl)
          simp only [Act.put, List.setIfInBounds_toArray, List.set_cons_zero, List.set_cons_succ]
          refine plan_reads ?_ (by rfl) (fun w' hR => ?_) ?_
          rotate_left
          · (go_simp; try with_reducible rfl)
          simp only [Act.put, List.setIfInBounds_toArray, List.set_cons_zero, List.set_cons_succ]
          refine plan_does (by rfl) (fun K hK => ?_)
          go_simp
          refine (HM1'.out _ (hf46.trans hdr (fun _ _ h => h))).mono ?_
          rintro e w7 ⟨A7, c7, rfl, hc7, hr7, hf7, hg7⟩
          refine hK _ _ hg7 ?_
          try simp only [Act.put, List.setIfInBounds_toArray, List.set_cons_zero, List.set_cons_succ]
          refine plan_reads ?_ (by rfl) (fun w' hR => ?_) ?_
          rotate_left
          · have hk := run_conv_bytes (P := Try.prog) w' 26 9 5 Try.underlying26 Try.underlying5 Try.underlying9 A7 _ c7 E0 rfl (hr7.fr hR (fun _ _ h => h))
            (go_simp; try with_reducible rfl)
          simp only [Act.put, List.setIfInBounds_toArray, List.set_cons_zero, List.set_cons_succ]
          refine plan_does (by rfl) (fun K hK => ?_)
          go_simp
          refine (HEn'.out _ ((hf6.trans hdr (fun _ _ h => h)).trans hg7 (fun _ _ h => h))).mono ?_
          rintro e w8 ⟨A8, c8, rfl, hc8, hr8, hf8, hg8⟩
          refine hK _ _ hg8 ?_
          try simp only [Act.put, List.setIfInBounds_toArray, List.set_cons_zero, List.set_cons_succ]
          refine plan_reads ?_ (by rfl) (fun w' hR => ?_) ?_
          rotate_left
          · have hk := run_conv_bytes (P := Try.prog) w' 26 9 5 Try.underlying26 Try.underlying5 Try.underlying9 A8 _ c8 E0 rfl (hr8.fr hR (fun _ _ h => h))
            (go_simp; try with_reducible rfl)
          simp only [Act.put, List.setIfInBounds_toArray, List.set_cons_zero, List.set_cons_succ]
          refine plan_reads ?_ (by rfl) (fun w' hR => ?_) ?_
          rotate_left
          · (go_simp; try with_reducible rfl)
          simp only [Act.put, List.setIfInBounds_toArray, List.set_cons_zero, List.set_cons_succ]
          refine plan_reads ?_ (by rfl) (fun w' hR => ?_) ?_
          rotate_left
          · (go_simp; try with_reducible rfl)
          simp only [Act.put, List.setIfInBounds_toArray, List.set_cons_zero, List.set_cons_succ]
          refine plan_reads ?_ (by rfl) (fun w' hR => ?_) ?_
          rotate_left
          · (go_simp; try with_reducible rfl)
          simp only [Act.put, List.setIfInBounds_toArray, List.set_cons_zero, List.set_cons_succ]
          refine plan_end ?_
          go_wp2_with fail
          go_ret
          exact ⟨rfl, hf8⟩
        · have hmi : (cut : Int) ≤ (E0.length : Int) := by omega
          rw [if_neg hmore] at hlaw1
          have hMl : (M.length : Int) = (n : Int) := by omega
          have hw : IntKind.i64.wrap (n : Int) = (n : Int) := IntWalk.i64_in _ (by omega)
          have HMl := Lib.hid hMl
          clear hMl hlaw1
          go_wp2_with (go_at_call 10; refine Hcall0.out.mono ?_)
          rintro e w6 ⟨A6, c6, rfl, hc6, hr6, hf6, hg6⟩
          have hf46 : Fr No w4 w6 := hfr4.trans hg6 (fun _ _ h => h)
          have hdr : Fr No w6 w6.drew := (Fr.refl _ _).drew
          go_wp2_with fail
          have hMl := HMl.out
          refine wp_region_steps (Fr No) [(0, false), (1, false), (2, false), (3, false), (4, false), (5, false), (6, false), (7, false), (8, false), (9, false), (12, false), (13, false), (14, false), (10, true), (11, false), (15, true), (16, false), (17, false), (18, false), (19, false)] (by rfl) (PlanRel.refl _) (PlanRel.trans _) (by intro c a d v w h; cases d <;> exact h) (by kernel_rfl) (fun l hl => ?_) (by kernel_rfl)
          simp only [stepsOf, List.getElem?_toArray, List.getElem?_cons_succ, List.getElem?_cons_zero, Option.some.injEq] at hl
          subst hl
          refine plan_reads ?_ (by rfl) (fun w' hR => ?_) ?_
          rotate_left
          · (go_simp; try with_reducible rfl)
          simp only [Act.put, List.setIfInBounds_toArray, List.set_cons_zero, List.set_cons_succ]
          refine plan_reads ?_ (by rfl) (fun w' hR => ?_) ?_
          rotate_left
          · (go_simp; try with_reducible rfl)
          simp only [Act.put, List.setIfInBounds_toArray, List.set_cons_zero, List.set_cons_succ]
          refine plan_reads ?_ (by rfl) (fun w' hR => ?_) ?_
          rotate_left
          · (go_simp; try with_reducible rfl)
          simp only [Act.put, List.setIfInBounds_toArray, List.set_cons_zero, List.set_cons_succ]
          refine plan_reads ?_ (by rfl) (fun w' hR => ?_) ?_
          rotate_left
          · (go_simp; try with_reducible rfl)
          simp only [Act.put, List.setIfInBounds_toArray, List.set_cons_zero, List.set_cons_succ]
          refine plan_reads ?_ (by rfl) (fun w' hR => ?_) ?_
          rotate_left
          · (go_simp; try with_reducible rfl)
          simp only [Act.put, List.setIfInBounds_toArray, List.set_cons_zero, List.set_cons_succ]
          refine plan_reads ?_ (by rfl) (fun w' hR => ?_) ?_
          rotate_left
          · (go_simp; try with_reducible rfl)
          simp only [Act.put, List.setIfInBounds_toArray, List.set_cons_zero, List.set_cons_succ]
          refine plan_reads ?_ (by rfl) (fun w' hR => ?_) ?_
          rotate_left
          · (go_simp; try with_reducible rfl)
          simp only [Act.put, List.setIfInBounds_toArray, List.set_cons_zero, List.set_cons_succ]
          refine plan_reads ?_ (by rfl) (fun w' hR => ?_) ?_
          rotate_left
          · (go_simp; try with_reducible rfl)
          simp only [Act.put, List.setIfInBounds_toArray, List.set_cons_zero, List.set_cons_succ]
          refine plan_reads ?_ (by rfl) (fun w' hR => ?_) ?_
          rotate_left
          · (go_simp; try with_reducible rfl)
          simp only [Act.put, List.setIfInBounds_toArray, List.set_cons_zero, List.set_cons_succ]
          refine plan_reads ?_ (by rfl) (fun w' hR => ?_) ?_
          rotate_left
          · (go_simp; try with_reducible rfl)
          simp only [Act.put, List.setIfInBounds_toArray, List.set_cons_zero, List.set_cons_succ]
          refine plan_reads ?_ (by rfl) (fun w' hR => ?_) ?_
          rotate_left
          · (go_simp; try with_reducible rfl)
          simp only [Act.put, List.setIfInBounds_toArray, List.set_cons_zero, List.set_cons_succ]
          refine plan_reads ?_ (by rfl) (fun w' hR => ?_) ?_
          rotate_left
          · (go_simp; try with_reducible rfl)
          simp only [Act.put, List.setIfInBounds_toArray, List.set_cons_zero, List.set_cons_succ]
          refine plan_reads ?_ (by rfl) (fun w' hR => ?_) ?_
          rotate_left
          · (go_simp; try with_reducible rfl)
          simp only [Act.put, List.setIfInBounds_toArray, List.set_cons_zero, List.set_cons_succ]
          refine plan_does (by rfl) (fun K hK => ?_)
          go_simp
          refine (HM1'.out _ (hf46.trans hdr (fun _ _ h => h))).mono ?_
          rintro e w7 ⟨A7, c7, rfl, hc7, hr7, hf7, hg7⟩
          refine hK _ _ hg7 ?_
          try simp only [Act.put, List.setIfInBounds_toArray, List.set_cons_zero, List.set_cons_succ]
          refine plan_reads ?_ (by rfl) (fun w' hR => ?_) ?_
          rotate_left
          · have hk := run_conv_bytes (P := Try.prog) w' 26 9 5 Try.underlying26 Try.underlying5 Try.underlying9 A7 _ c7 E0 rfl (hr7.fr hR (fun _ _ h => h))
            (go_simp; try with_reducible rfl)
          simp only [Act.put, List.setIfInBounds_toArray, List.set_cons_zero, List.set_cons_succ]
          refine plan_does (by rfl) (fun K hK => ?_)
          go_simp
          refine (HEn'.out _ ((hf6.trans hdr (fun _ _ h => h)).trans hg7 (fun _ _ h => h))).mono ?_
          rintro e w8 ⟨A8, c8, rfl, hc8, hr8, hf8, hg8⟩
          refine hK _ _ hg8 ?_
          try simp only [Act.put, List.setIfInBounds_toArray, List.set_cons_zero, List.set_cons_succ]
          refine plan_reads ?_ (by rfl) (fun w' hR => ?_) ?_
          rotate_left
          · have hk := run_conv_bytes (P := Try.prog) w' 26 9 5 Try.underlying26 Try.underlying5 Try.underlying9 A8 _ c8 E0 rfl (hr8.fr hR (fun _ _ h => h))
            (go_simp; try with_reducible rfl)
          simp only [Act.put, List.setIfInBounds_toArray, List.set_cons_zero, List.set_cons_succ]
          refine plan_reads ?_ (by rfl) (fun w' hR => ?_) ?_
          rotate_left
          · (go_simp; try with_reducible rfl)
          simp only [Act.put, List.setIfInBounds_toArray, List.set_cons_zero, List.set_cons_succ]
          refine plan_reads ?_ (by rfl) (fun w' hR => ?_) ?_
          rotate_left
          · (go_simp; try with_reducible rfl)
          simp only [Act.put, List.setIfInBounds_toArray, List.set_cons_zero, List.set_cons_succ]
          refine plan_reads ?_ (by rfl) (fun w' hR => ?_) ?_
          rotate_left
          · (go_simp; try with_reducible rfl)
          simp only [Act.put, List.setIfInBounds_toArray, List.set_cons_zero, List.set_cons_succ]
          refine plan_end ?_
          go_wp2_with fail
          go_ret
          exact ⟨rfl, hf8⟩
set_option maxRecDepth 100000 in
theorem cuts_lifted (os : Os) (started : os.Started) (H : Type) (enc : TypeId × Value → H) :
    ReturnsInHanded {} Try.checked os 6 .any (Rows.scriptCutsSpec.pre6 enc Try.prog Try.f6 Rows.scriptCutsRow.domain false) (Rows.scriptCutsSpec.post enc Try.prog Try.f6 false true false false) := by
  refine returnsInHanded_of_change (C := Try.checked) own started (by kernel_rfl) Try.func6
    (ChangeSpec.witness6 (enc := enc) (C := Try.checked) false ⟨#[], #[.slice none 0 0, .int .i64 0], []⟩ 8 (by kernel_rfl) (by kernel_rfl) (by kernel_rfl) (by kernel_rfl)) ?_
  intro W base args ds gs before hval0 hW hcnd _
  have hval : ∀ (j : Nat) t v, Try.f6.params[j]? = some t → args[j]? = some v → Value.okWide Try.prog W .any base t v := hval0
  have hW' := hW
  obtain ⟨p, q, hA0, hV, rfl, hfz, hnd⟩ := hW
  have hA : DataW.TrodAll enc Try.prog W 0 (fun _ => true) true Try.f6.params.toList args.toList ds p := hA0
  rw [Try.params6] at hA hval
  obtain ⟨v0, vs0, d0, ds0, p0, q0, hargs, rfl, rfl, h0, r0⟩ := trodAll_cons hA
  obtain ⟨v1, vs1, d1, ds1, p1, q1, rfl, rfl, rfl, h1, r1⟩ := trodAll_cons r0
  obtain ⟨rfl, rfl, rfl⟩ := trodAll_nil r1
  obtain rfl : args = #[v0, v1] := by cases args; simp_all
  obtain ⟨rfl, rfl⟩ := trodVars_none hV
  obtain ⟨a0, len0, cap0, rfl⟩ := okWide_slice Try.underlying22 (hval 0 22 v0 rfl rfl)
  have k0 := h0
  have lt0 : ∀ x ∈ p0, x.block < W.heap.size := by obtain ⟨m, hm⟩ := k0; exact DataW.trod_lt m _ _ _ hm
  obtain ⟨l0, e0, hl0, hc0, hr0, hd0⟩ : ∃ l, len0 = List.length l ∧ l.length ≤ cap0 ∧ cap0 ≤ maxLen ∧ Rd (fun k => k < W.heap.size) W a0 (actsV l) ∧ ∀ a ∈ l, a.data.length ≤ maxLen := by
    obtain ⟨fuel, hf⟩ := h0
    obtain ⟨A, c, l, hcs, h1, h2, h3, h4⟩ := open_acts hf
    simp [Value.cells] at hcs
    obtain ⟨rfl, rfl, rfl⟩ := hcs
    exact ⟨l, rfl, h1, h2, h3, h4⟩
  subst e0
  obtain ⟨x1, rfl, rfl, rfl, w1⟩ := open_int Try.underlying3 (hval 1 3 v1 rfl rfl) h1
  clear hA0 hval0
  refine (cuts_walk a0 cap0 l0 x1 W hr0 hl0 hc0 hd0 w1).mono fun e W' ⟨he, fr⟩ => ?_
  have bel : Below W.heap.size W W' := fr.below (fun _ _ h => h) (Nat.le_refl _)
  subst he
  exact ⟨_, rfl, _, _, _, [], _, [], hW', trodAll_mk1 (shut_bool Try.underlying4 _), (trodAll_cons_mk (Below.trod laidOut (by kernel_rfl) (of_decide_eq_true (by kernel_rfl)) k0 bel lt0) (trodAll_cons_mk (shut_int Try.underlying3 w1) trodAll_mk0)), rfl, bel.frame _, fun h => by cases h⟩

theorem cuts_holds : Rows.ScriptCutsSaid :=
  OpenClaim.holds_of_wide 6 Try.f6 rfl rfl rfl rfl rfl rfl rfl ⟨rfl, rfl, rfl, rfl, rfl⟩ rfl rfl rfl rfl rfl (by kernel_rfl) Try.func6 (by kernel_rfl)
    (of_decide_eq_true (by kernel_rfl)) (by unfold Func.isWrapper; first | (rw [if_pos (by decide +kernel)]; kernel_rfl) | (rw [if_neg (by decide +kernel)]; exact ⟨rfl, rfl⟩))
    (fun os started H enc _ => cuts_lifted os started H enc)
#print axioms cuts_holds
end Go.Proofs.Ythpoiopfmjeklaa
