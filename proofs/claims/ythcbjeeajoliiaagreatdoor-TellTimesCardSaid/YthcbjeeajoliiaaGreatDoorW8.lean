/- table.Parse. -/
import Derived.Test.YthcbjeeajoliiaaGreatDoorW7
import Derived.WalkMore
set_option linter.unusedVariables false
set_option linter.unusedSimpArgs false
namespace Go.Proofs.YthcbjeeajoliiaaGreatDoor
open Go.RowKit
open Cr (Str Rou words)

theorem infoRoute : (Tryz.prog.info? 137).map (fun i => (i.zero, i.size, i.bytes)) = some (some (.agg #[.string ⟨#[]⟩, .string ⟨#[]⟩, .string ⟨#[]⟩]), 3, 48) := by kernel_rfl

def full (x : Str) : Bool := !x.isEmpty
theorem filter_take_succ (l : List Str) (k : Nat) (x : Str) (h : l[k]? = some x) : (l.take (k + 1)).filter full = (l.take k).filter full ++ (if full x then [x] else []) := by
  rw [List.take_add_one, h, List.filter_append]
  congr 1
  simp only [Option.toList_some, List.filter_cons, List.filter_nil]

set_option maxRecDepth 100000 in
theorem parse_any (w : World) (hh : Hands w) (s : Str) (hs : s.length ≤ 900000) :
    Calls Tryz.prog 44 #[.string ⟨s.toArray⟩] w fun e w' => ∃ v, e = .returned (.tuple #[v, .int .i64 (Cr.parseTable s).2]) ∧ w'.ownsRow w.heap.size 137 3 v (Cr.parseTable s).1.length (rousV (Cr.parseTable s).1) ∧ Fr No w w' := by
  have hL := words_length s 10
  have hLs := words_small s 10
  have HW := Lib.hid (fun W => words_lit W s 10 10 rfl (by omega))
  have HP : Hid (Cr.parseTable s = match Cr.parseLines [] (words s 10) with
    | none => ([], 1)
    | some l => if Cr.checkRoutes l ≠ 0 then ([], Cr.checkRoutes l) else (l, 0)) := rfl
  obtain ⟨PT', hPT⟩ : ∃ PT', Cr.parseTable s = PT' := ⟨_, rfl⟩
  rw [hPT] at HP ⊢
  generalize words s 10 = L at HW HP hL hLs
  have HLs := Lib.hid hLs
  have hLn : (L.length : Int) ≤ 900001 := by omega
  have Hh := Lib.hid hh
  clear hPT hLs hh
  go_enter Tryz.func44, Tryz.ntmps44
  go_wp2
  go_step3
  go_wp2
  go_step3
  go_wp2_with (go_at_call 65; refine (HW.out _).mono ?_)
  rintro e w1 ⟨v, rfl, hown, hf1⟩
  obtain ⟨A1, c1, rfl, hc1, hr1⟩ := own_form hown
  have hsz1 := hf1.size
  go_wp2_with fail
  go_loopg [4, 14] L.length (fun gm out i wr => ∃ (k : Nat) (outM : List Rou), k + gm = L.length ∧ i = .int .i64 k ∧ outM.length ≤ k ∧ wr.ownsRow w1.heap.size 137 3 out outM.length (rousV outM) ∧ Fr No w1 wr ∧
    Hid ((∀ r ∈ outM, rouSmall r) ∧ Cr.parseLines [] L = Cr.parseLines outM (L.drop k)))
  case atStart => exact ⟨0, [], by omega, rfl, by simp, ⟨rfl, .inl ⟨rfl, rfl⟩⟩, Fr.refl _ _, ⟨by simp, rfl⟩⟩
  case round =>
    obtain ⟨k, outM, hk, rfl, hol, hownr, hfr, HI⟩ := hrel
    by_cases hlt : k < L.length
    · have hlt' : (k : Int) < (L.length : Int) := by omega
      obtain ⟨x, hx⟩ : ∃ x, L[k]? = some x := ⟨L[k], by simp [hlt]⟩
      obtain ⟨gb, off, rfl, hgb, hcell⟩ := hr1.form (fun h => by have := strsV_length L; rw [h] at this; simp at this; omega)
      have hq := hfr.cell (hcell k _ (strsV_get hx)) id
      have hxl : x.length ≤ 1000000 := by have := HLs.out x (List.mem_of_getElem? hx); omega
      have hdrop : L.drop k = x :: L.drop (k + 1) := by
        obtain ⟨h1, h2⟩ := List.getElem?_eq_some_iff.1 hx
        rw [List.drop_eq_getElem_cons h1, h2]
      have hML := words_length x 32
      have hMs := words_small x 32
      have HWx := Lib.hid (fun W => words_lit W x 32 32 rfl hxl)
      have hstep : Cr.parseLines outM (L.drop k) = match (words x 32).filter full with
          | [] => Cr.parseLines outM (L.drop (k + 1))
          | [m, p, h] => Cr.parseLines (outM ++ [⟨m, p, h⟩]) (L.drop (k + 1))
          | _ => none := by
        rw [hdrop]
        rfl
      generalize words x 32 = M at HWx hML hMs hstep
      have Hstep := Lib.hid hstep
      have HMs := Lib.hid hMs
      clear hx hcell hdrop hstep hMs
      go_wp2_with (go_at_call 65; refine (HWx.out _).mono ?_)
      rintro e w2 ⟨v2, rfl, hown2, hf2⟩
      obtain ⟨A2, c2, rfl, hc2, hr2⟩ := own_form hown2
      have hMn : (M.length : Int) ≤ 1000001 := by omega
      have hownr2 := hownr.fr hf2 (fun _ _ h => h)
      have hfr2 := hfr.trans hf2 (fun _ _ h => h)
      clear hownr hfr hq hown2 hf2
      go_wp2_with fail
      go_loopg [7, 21] M.length (fun gm ws j wr => ∃ (q : Nat), q + gm = M.length ∧ j = .int .i64 q ∧ wr.ownsRow w2.heap.size 9 1 ws ((M.take q).filter full).length (strsV ((M.take q).filter full)) ∧ Fr No w2 wr)
      case atStart => exact ⟨0, by omega, rfl, ⟨rfl, .inl ⟨rfl, rfl⟩⟩, Fr.refl _ _⟩
      case round =>
        obtain ⟨q, hq, rfl, hownw, hfw⟩ := hrel
        by_cases hlt2 : q < M.length
        · have hlt2' : (q : Int) < (M.length : Int) := by omega
          obtain ⟨y, hy⟩ : ∃ y, M[q]? = some y := ⟨M[q], by simp [hlt2]⟩
          obtain ⟨gm2, off2, rfl, hgm, hcell2⟩ := hr2.form (fun h => by have := strsV_length M; rw [h] at this; simp at this; omega)
          have hqy := hfw.cell (hcell2 q _ (strsV_get hy)) id
          have Hf := Lib.hid (filter_take_succ M q y hy)
          have hfl : ((M.take q).filter full).length ≤ q := by
            have := List.length_filter_le full (M.take q)
            rw [List.length_take] at this
            omega
          obtain ⟨F, hF⟩ : ∃ F, (M.take q).filter full = F := ⟨_, rfl⟩
          rw [hF] at hownw hfl Hf
          clear hF hy hcell2
          cases y with
          | nil =>
            go_wp2_with fail
            go_roundg (gk - 1)
            case measure => omega
            case rel =>
              refine ⟨q + 1, by omega, by go_num, ?_, hfw⟩
              rw [Hf.out]
              simpa [full] using hownw
          | cons y0 y' =>
            go_wp2_with (at_builtin; go_must (refine wpList_app (Pr := fun _ => True) _ rfl (.tmp 27) (.tmp 29) _ rfl w2.heap.size 9 _ 1 16 Tryz.underlying68 infoStr rfl (by decide) u7 F.length (strsV F) rfl ?a0 _ 1 1 (strsV [y0 :: y']) rfl rfl ?a2 ?a3 ?a4 (by decide) ?a5 ?_))
            case a0 => exact hownw.alloc _
            case a2 => exact Rd.mono (Rd.newAt (by simp) rfl) (fun _ _ _ => trivial)
            case a3 => intro u hu; simp [strsV] at hu; subst hu; rfl
            case a4 => omega
            case a5 => have := hfw.size; simp; omega
            intro v3 w3 hown3 hf3 _
            have hfw3 : Fr No w2 w3 := (hfw.alloc _).trans hf3 (fun i hi h => by have := (hownw.lt i h).1; omega)
            clear hf3
            go_wp2_with fail
            go_roundg (gk - 1)
            case measure => omega
            case rel =>
              refine ⟨q + 1, by omega, by go_num, ?_, hfw3⟩
              rw [Hf.out]
              have : full (y0 :: y') = true := rfl
              rw [if_pos this, strsV_append, List.length_append]
              exact hown3
        · have hlt2' : ¬ (q : Int) < (M.length : Int) := by omega
          rw [List.take_of_length_le (by omega)] at hownw
          have hF3 : ∀ y ∈ M.filter full, y.length ≤ 1000000 := fun y hy => by
            have := HMs.out y (List.mem_filter.1 hy).1
            omega
          have HF3 := Lib.hid hF3
          clear hF3
          obtain ⟨F, hF⟩ : ∃ F, M.filter full = F := ⟨_, rfl⟩
          rw [hF] at hownw HF3 Hstep
          clear hF
          have hfrw := hfr2.trans hfw (fun _ _ h => h)
          have hownr3 := hownr2.fr hfw (fun _ _ h => h)
          have hsz2 := hfr2.size
          have hout : ∀ i, u4.ownBlock = some i → i < w2.heap.size := fun i h => (hownr2.lt i h).2
          have hszw := hfw.size
          obtain ⟨A3, c3, rfl, hc3, hr3⟩ := own_form hownw
          have HF1 := HF3.out
          have hnone : ∀ (a b c d : Str) (t : List Str), Cr.parseLines outM (L.drop k) = none → (PT' = ([], 1)) := by
            intro _ _ _ _ _ h
            rw [HP.out, HI.out.2, h]
          have Hnone := Lib.hid (hnone [] [] [] [] [])
          clear hnone HF3 hr2 hownr2 hfr2 hfw hownw
          rcases F with _ | ⟨m, _ | ⟨p, _ | ⟨h, _ | ⟨z, F⟩⟩⟩⟩
          · go_wp2_with fail
            go_roundg (L.length - (k + 1))
            case measure => omega
            case rel => exact ⟨k + 1, outM, by omega, by go_num, by omega, hownr3, hfrw, ⟨HI.out.1, HI.out.2.trans Hstep.out⟩⟩
          · go_wp2_with fail
            go_ret2
            rw [Hnone.out Hstep.out]
            exact ⟨_, rfl, ⟨rfl, .inl ⟨rfl, rfl⟩⟩, hf1.trans hfrw (fun _ _ h => h)⟩
          · go_wp2_with fail
            go_ret2
            rw [Hnone.out Hstep.out]
            exact ⟨_, rfl, ⟨rfl, .inl ⟨rfl, rfl⟩⟩, hf1.trans hfrw (fun _ _ h => h)⟩
          · obtain ⟨gw, ow, rfl, hgw, hcw⟩ := hr3.form (by simp [strsV])
            have t0 := hcw 0 (.string ⟨m.toArray⟩) rfl
            have t1 := hcw 1 (.string ⟨p.toArray⟩) rfl
            have t2 := hcw 2 (.string ⟨h.toArray⟩) rfl
            simp only [Nat.add_zero] at t0
            have hc3' : (3 : Int) ≤ c3 := by simp only [List.length_cons, List.length_nil] at hc3; omega
            have hne : ¬ u4.ownBlock = some gw := fun h => by have := hout gw h; omega
            go_wp2_with fail
            have t0' : wr.drew.cell? ⟨gw, ow, none⟩ = some (.string ⟨m.toArray⟩) := t0
            have t1' : wr.drew.cell? ⟨gw, ow + 1, none⟩ = some (.string ⟨p.toArray⟩) := t1
            have t2' : wr.drew.cell? ⟨gw, ow + 2, none⟩ = some (.string ⟨h.toArray⟩) := t2
            refine wp_region_steps (Fr (fun k => u4.ownBlock = some k)) [(0, false), (1, false), (2, false), (3, false), (4, false), (5, false), (6, false), (7, false), (8, false), (9, false), (10, false), (11, true), (12, true), (13, false)] (by rfl) (PlanRel.refl _) (PlanRel.trans _) (by intro c a d v w h; cases d <;> exact h) (by kernel_rfl) (fun l hl => ?_) (by kernel_rfl)
            simp only [stepsOf, List.getElem?_toArray, List.getElem?_cons_succ, List.getElem?_cons_zero, Option.some.injEq] at hl
            subst hl
            refine plan_reads ?_ (by rfl) (fun w' hR => ?_) ?_
            rotate_left
            · (go_simp; try with_reducible rfl)
            simp only [Act.put, List.setIfInBounds_toArray, List.set_cons_zero, List.set_cons_succ]
            refine plan_reads ?_ (by rfl) (fun w' hR => ?_) ?_
            rotate_left
            · (go_simp; try with_reducible rfl)
            simp only [Act.put, List.setIfInBounds_toArray, List.set_cons_zero, List.set_cons_succ]
            refine plan_reads ?_ (by rfl) (fun w' hR => ?_) ?_
            rotate_left
            · (go_simp; try with_reducible rfl)
            simp only [Act.put, List.setIfInBounds_toArray, List.set_cons_zero, List.set_cons_succ]
            refine plan_reads ?_ (by rfl) (fun w' hR => ?_) ?_
            rotate_left
            · have hk := hR.cell t0' hne
              (go_simp; try with_reducible rfl)
            simp only [Act.put, List.setIfInBounds_toArray, List.set_cons_zero, List.set_cons_succ]
            refine plan_reads ?_ (by rfl) (fun w' hR => ?_) ?_
            rotate_left
            · (go_simp; try with_reducible rfl)
            simp only [Act.put, List.setIfInBounds_toArray, List.set_cons_zero, List.set_cons_succ]
            refine plan_reads ?_ (by rfl) (fun w' hR => ?_) ?_
            rotate_left
            · (go_simp; try with_reducible rfl)
            simp only [Act.put, List.setIfInBounds_toArray, List.set_cons_zero, List.set_cons_succ]
            refine plan_reads ?_ (by rfl) (fun w' hR => ?_) ?_
            rotate_left
            · have hk := hR.cell t1' hne
              (go_simp; try with_reducible rfl)
            simp only [Act.put, List.setIfInBounds_toArray, List.set_cons_zero, List.set_cons_succ]
            refine plan_reads ?_ (by rfl) (fun w' hR => ?_) ?_
            rotate_left
            · (go_simp; try with_reducible rfl)
            simp only [Act.put, List.setIfInBounds_toArray, List.set_cons_zero, List.set_cons_succ]
            refine plan_reads ?_ (by rfl) (fun w' hR => ?_) ?_
            rotate_left
            · (go_simp; try with_reducible rfl)
            simp only [Act.put, List.setIfInBounds_toArray, List.set_cons_zero, List.set_cons_succ]
            refine plan_reads ?_ (by rfl) (fun w' hR => ?_) ?_
            rotate_left
            · have hk := hR.cell t2' hne
              (go_simp; try with_reducible rfl)
            simp only [Act.put, List.setIfInBounds_toArray, List.set_cons_zero, List.set_cons_succ]
            refine plan_reads ?_ (by rfl) (fun w' hR => ?_) ?_
            rotate_left
            · (go_simp; try with_reducible rfl)
            simp only [Act.put, List.setIfInBounds_toArray, List.set_cons_zero, List.set_cons_succ]
            refine plan_does (by rfl) (fun K hK => ?_)
            go_simp
            refine hK _ _ ?hq ?_
            case hq => exact (Fr.refl _ _).alloc _
            try simp only [Act.put, List.setIfInBounds_toArray, List.set_cons_zero, List.set_cons_succ]
            refine plan_does (by rfl) (fun K hK => ?_)
            refine op_app (Pr := fun _ => True) _ (.tmp 38) (.tmp 49) _ rfl w1.heap.size 137 _ 3 48 Tryz.underlying58 infoRoute rfl (by decide) u4 outM.length (rousV outM) rfl ?a0 _ 1 1 (rousV [⟨m, p, h⟩]) rfl rfl ?a2 ?a3 ?a4 (by decide) ?a5 ?_
            case a0 => exact (hownr3.alloc _)
            case a2 => exact Rd.mono ((Rd.newAt (w := wr) (t := 137) (cs := #[.string ⟨m.toArray⟩, .string ⟨p.toArray⟩, .string ⟨h.toArray⟩]) rfl rfl).fr (Fr.refl No _).drew (fun _ _ h => h)) (fun _ _ _ => trivial)
            case a3 => exact rousV_one _
            case a4 => omega
            case a5 => have := hfrw.size; simp; omega
            intro v6 w6 hown6 hf6 _
            refine hK _ _ hf6 ?_
            try simp only [Act.put, List.setIfInBounds_toArray, List.set_cons_zero, List.set_cons_succ]
            refine plan_reads ?_ (by rfl) (fun w' hR => ?_) ?_
            rotate_left
            · (go_simp; try with_reducible rfl)
            simp only [Act.put, List.setIfInBounds_toArray, List.set_cons_zero, List.set_cons_succ]
            refine plan_end ?_
            have hfr6 : Fr No w1 w6 := (hfrw.alloc _).drew.trans hf6 (fun i hi h => by have := (hownr3.lt i h).1; omega)
            clear hf6
            go_wp2_with fail
            go_roundg (L.length - (k + 1))
            case measure => omega
            case rel =>
              refine ⟨k + 1, outM ++ [⟨m, p, h⟩], by omega, by go_num, by simp; omega, ?_, hfr6, ?_, ?_⟩
              · rw [rousV_append, List.length_append]
                exact hown6
              · intro y hy
                rcases List.mem_append.1 hy with hy | hy
                · exact HI.out.1 y hy
                · obtain rfl := List.mem_singleton.1 hy
                  exact ⟨HF1 m (by simp), HF1 p (by simp), HF1 h (by simp)⟩
              · exact HI.out.2.trans Hstep.out
          · have hl4 : (4 : Int) ≤ ((F.length : Int) + 1 + 1 + 1 + 1) := by omega
            have e0 : ((F.length : Int) + 1 + 1 + 1 + 1 == 0) = false := by rw [beq_eq_false_iff_ne]; omega
            have e3 : ((F.length : Int) + 1 + 1 + 1 + 1 == 3) = false := by rw [beq_eq_false_iff_ne]; omega
            go_wp2_with fail
            go_ret2
            rw [Hnone.out Hstep.out]
            exact ⟨_, rfl, ⟨rfl, .inl ⟨rfl, rfl⟩⟩, hf1.trans hfrw (fun _ _ h => h)⟩
    · have hlt' : ¬ (k : Int) < (L.length : Int) := by omega
      have hpl : Cr.parseLines [] L = some outM := by
        rw [HI.out.2, List.drop_of_length_le (by omega)]
        rfl
      have hpt : PT' = if Cr.checkRoutes outM ≠ 0 then ([], Cr.checkRoutes outM) else (outM, 0) := by
        rw [HP.out, hpl]
      have Hpt := Lib.hid hpt
      clear hpl hpt
      obtain ⟨A4, c4, rfl, hc4, hr4⟩ := own_form hownr
      have hfr1 := hf1.trans hfr (fun _ _ h => h)
      have HC := Lib.hid (check_any _ wr (Hh.out.fr hfr1 id) A4 c4 outM hr4 (by omega) HI.out.1)
      go_wp2_with (go_at_call 66; refine HC.out.mono ?_)
      rintro e w5 rfl hf5
      by_cases h0 : Cr.checkRoutes outM = 0
      · rw [h0]
        rw [h0] at Hpt
        go_wp2_with fail
        rw [Exit.noGoto_ret]
        go_ret2
        have hp := Hpt.out
        simp only [ne_eq, not_true_eq_false, if_false] at hp
        rw [hp]
        exact ⟨_, rfl, ((hownr.fr hf5 (fun _ _ h => h)).weaken hsz1), hfr1.trans hf5 (fun _ _ h => h)⟩
      · have h0' : (Cr.checkRoutes outM == 0) = false := by simpa using h0
        generalize Cr.checkRoutes outM = ce at h0 h0' Hpt ⊢
        go_wp2_with fail
        rw [Exit.noGoto_ret]
        go_ret2
        rw [Hpt.out, if_pos (by simpa using h0)]
        exact ⟨_, rfl, ⟨rfl, .inl ⟨rfl, rfl⟩⟩, hfr1.trans hf5 (fun _ _ h => h)⟩

/-- The text of the table that a server begins with. -/
def firstText : Str := [71, 69, 84, 32, 47, 104, 101, 97, 108, 116, 104, 32, 104, 101, 97, 108, 116, 104, 10, 80, 79, 83, 84, 32, 47, 97, 100, 109, 105, 110, 47, 114, 111, 117, 116, 101, 115, 32, 114, 101, 108, 111, 97, 100, 10, 80, 79, 83, 84, 32, 47, 97, 100, 109, 105, 110, 47, 115, 116, 111, 112, 32, 115, 104, 117, 116, 100, 111, 119, 110, 10, 71, 69, 84, 32, 47, 107, 118, 47, 58, 107, 101, 121, 32, 103, 101, 116, 10, 80, 85, 84, 32, 47, 107, 118, 47, 58, 107, 101, 121, 32, 112, 117, 116, 10, 68, 69, 76, 69, 84, 69, 32, 47, 107, 118, 47, 58, 107, 101, 121, 32, 100, 101, 108, 101, 116, 101, 10, 71, 69, 84, 32, 47, 108, 105, 115, 116, 47, 42, 112, 114, 101, 102, 105, 120, 32, 108, 105, 115, 116, 10, 71, 69, 84, 32, 47, 119, 97, 108, 107, 47, 58, 109, 111, 118, 101, 115, 32, 119, 97, 108, 107, 10]
def firstRoutes : List Rou := (Cr.parseTable firstText).1

theorem first_any (w : World) (hh : Hands w) :
    Calls Tryz.prog 24 #[] w fun e w' => ∃ v, e = .returned v ∧ w'.ownsRow w.heap.size 137 3 v firstRoutes.length (rousV firstRoutes) ∧ Fr No w w' := by
  have HP := Lib.hid (parse_any w hh firstText (by decide +kernel))
  have hf : firstRoutes = (Cr.parseTable firstText).1 := rfl
  have Hf := Lib.hid hf
  rw [← hf] at HP
  generalize (Cr.parseTable firstText).2 = pe at HP
  generalize firstRoutes = fr at HP ⊢
  clear hf Hf
  unfold firstText at HP
  go_enter Tryz.func24, Tryz.ntmps24
  go_wp2_with (go_at_call 44; refine HP.out.mono ?_)
  rintro e w1 v rfl hown hf1
  go_wp2_with fail
  go_ret
  exact ⟨_, rfl, hown, hf1⟩
end Go.Proofs.YthcbjeeajoliiaaGreatDoor
