/- The walk of crossroadlaw19.TellTimes, whole. -/
import Derived.Test.YthcbjeeajoliiaaGreatDoorUC
import Derived.Test.YthcbjeeajoliiaaGreatDoorV8
set_option linter.unusedVariables false
set_option linter.unusedSimpArgs false
namespace Go.Proofs.YthcbjeeajoliiaaGreatDoor
open Go.RowKit
open Cr (Str ActM)

theorem left_self (p : SP) (T : Int) (sb : List (Nat × Nat)) : left p T sb sb = if p.idle ≤ T then [] else sb := by
  unfold left
  rw [dropped_all]

set_option maxRecDepth 100000 in
set_option maxHeartbeats 4000000 in
theorem times_walk (w : World) (hh : Hands w) (c : Cr.Cfg) (n0 n1 n2 : Int) (htok : c.token.length ≤ 9223372036854775807) :
    Calls Tryz.prog 5 #[.agg #[.int .i64 c.conns, .int .i64 c.jobs, .int .i64 c.workers, .int .i64 c.window, .int .i64 c.idle, .int .i64 c.drain, .string ⟨c.token.toArray⟩], .agg #[.int .i64 n0, .int .i64 n1, .int .i64 n2]] w fun e w' => e = .returned (.bool true) ∧ Fr No w w' := by
  have hcfg : Fr No w (w.alloc (.cells #[.int .i64 c.conns, .int .i64 c.jobs, .int .i64 c.workers, .int .i64 c.window, .int .i64 c.idle, .int .i64 c.drain, .string ⟨c.token.toArray⟩] 23)) := (Fr.refl _ _).alloc _
  have hbc := (Blk.new w 23 #[.int .i64 c.conns, .int .i64 c.jobs, .int .i64 c.workers, .int .i64 c.window, .int .i64 c.idle, .int .i64 c.drain, .string ⟨c.token.toArray⟩]).alloc (.cells #[.int .i64 n0, .int .i64 n1, .int .i64 n2] 47)
  have hbn := Blk.new (w.alloc (.cells #[.int .i64 c.conns, .int .i64 c.jobs, .int .i64 c.workers, .int .i64 c.window, .int .i64 c.idle, .int .i64 c.drain, .string ⟨c.token.toArray⟩] 23)) 47 #[.int .i64 n0, .int .i64 n1, .int .i64 n2]
  have hcfg2 := hcfg.alloc (.cells #[.int .i64 n0, .int .i64 n1, .int .i64 n2] 47)
  have HF := Lib.hid (fit19_any _ (hh.fr hcfg2 id))
  have htok' : (c.token.length : Int) ≤ 9223372036854775807 := by omega
  go_enter Tryz.func5, Tryz.ntmps5
  go_wp2_with (go_at_call 18; refine HF.out.mono (Hid.out ?_))
  refine Lib.hid ?_
  rintro e w1 ⟨rfl, hf1⟩
  have hb1 := hbc.fr hf1 id
  have hbn1 := hbn.fr hf1 id
  have hf01 := hcfg2.trans hf1 (fun _ _ h => h)
  have c0 : w1.cell? ⟨w.heap.size, 0, none⟩ = some (.int .i64 c.conns) := hb1.cell 0
  have c1 : w1.cell? ⟨w.heap.size, 1, none⟩ = some (.int .i64 c.jobs) := hb1.cell 1
  have c2 : w1.cell? ⟨w.heap.size, 2, none⟩ = some (.int .i64 c.workers) := hb1.cell 2
  have c3 : w1.cell? ⟨w.heap.size, 3, none⟩ = some (.int .i64 c.window) := hb1.cell 3
  have c4 : w1.cell? ⟨w.heap.size, 4, none⟩ = some (.int .i64 c.idle) := hb1.cell 4
  have c5 : w1.cell? ⟨w.heap.size, 5, none⟩ = some (.int .i64 c.drain) := hb1.cell 5
  have c6 : w1.cell? ⟨w.heap.size, 6, none⟩ = some (.string ⟨c.token.toArray⟩) := hb1.cell 6
  by_cases h100 : 100 < c.token.length
  · have h100' : (100 : Int) < (c.token.length : Int) := by omega
    go_wp2_with fail
    go_ret
    exact ⟨rfl, hf01⟩
  · have h100' : (c.token.length : Int) ≤ 100 := by omega
    have e0 := and15 n0
    have e1 := and7 n1
    have e2 := and15 n2
    obtain ⟨tk, htk⟩ : ∃ t : Nat, n0 % 16 = (t : Int) := ⟨(n0 % 16).toNat, by omega⟩
    obtain ⟨dl, hdl⟩ : ∃ t : Nat, n1 % 8 = (t : Int) := ⟨(n1 % 8).toNat, by omega⟩
    obtain ⟨st, hst⟩ : ∃ t : Nat, n2 % 16 = (t : Int) := ⟨(n2 % 16).toNat, by omega⟩
    have htk16 : tk < 16 := by omega
    have hdl8 : dl < 8 := by omega
    have hst16 : st < 16 := by omega
    rw [htk] at e0
    rw [hdl] at e1
    rw [hst] at e2
    clear htk hdl hst
    rw [World.size_alloc] at hbn1
    have k0 : w1.drew.cell? ⟨w.heap.size + 1, 0, none⟩ = some (.int .i64 n0) := hbn1.cell 0
    have k1 : w1.drew.cell? ⟨w.heap.size + 1, 1, none⟩ = some (.int .i64 n1) := hbn1.cell 1
    have k2 : w1.drew.cell? ⟨w.heap.size + 1, 2, none⟩ = some (.int .i64 n2) := hbn1.cell 2
    have Hb1 := Lib.hid hb1
    clear hbn1 hbn hbc hb1 hcfg hcfg2 hf1 HF
    go_wp2_with fail
    go_region
    have HN := Lib.hid (serverNew_all w1.drew (hh.fr (S := No) hf01.drew id) c)
    go_wp2_with (go_at_call 7; refine HN.out.mono (Hid.out ?_))
    refine Lib.hid ?_
    rintro e w2 hnew
    obtain ⟨g, p, rfl, hq, hpc, hpi, hf2'⟩ := QStD.new hnew
    have hf2 : Fr No w1 w2 := (Fr.refl No w1).drew.trans hf2' (fun _ _ h => h)
    obtain ⟨B, hB⟩ : ∃ B, w1.drew.heap.size = B := ⟨_, rfl⟩
    have hB1 : w1.heap.size = B := hB
    rw [hB] at hq
    have Hq := Lib.hid hq
    have HB := Lib.hid hB1
    clear hnew HN hf2' c1 c2 c3 c5 c6 k0 k1 k2 hq hB hB1
    have hdl8' : (dl : Int) < 8 := by omega
    have hst16' : (st : Int) < 16 := by omega
    have htk16' : (tk : Int) < 16 := by omega
    have hpc1 : 1 ≤ p.conns ∧ p.conns ≤ 8 := by rw [hpc]; exact bringI_le _ _ (by omega)
    have hpi1 : 1 ≤ p.idle := by rw [hpi]; exact (bringI_le _ _ (by omega)).1
    have Hpc := Lib.hid hpc
    have Hpi := Lib.hid hpi
    clear hpc hpi
    go_wp2_with fail
    go_loopg [28] dl (fun gm i wr => ∃ (k : Nat) (bs : List Nat), k + gm = dl ∧ i = .int .i64 k ∧ bs.length = k ∧ Hid (QStD B wr g p bs (List.range k)) ∧ Fr No w1 wr)
    case atStart => exact ⟨0, [], by omega, rfl, rfl, Hq, hf2⟩
    case round =>
      obtain ⟨k, bs, hk, rfl, hbs, hqk, hfr⟩ := hrel
      have hsz := hfr.size
      have hB0 := HB.out
      by_cases hlt : k < dl
      · have hlt' : (k : Int) < (dl : Int) := by omega
        have HD := Lib.hid (do_dial_quiet B wr g p bs (List.range k) 0 0 ⟨#[]⟩ hqk.out (by omega) (by omega) (by simp; omega))
        have Hbs := Lib.hid hbs
        clear hbs hB0
        go_wp2_with (go_at_call 12; refine HD.out.mono (Hid.out ?_))
        refine Lib.hid ?_
        rintro e w3 ⟨rfl, ⟨b, hq3⟩, hf3⟩
        go_wp2_with fail
        go_roundg (gk - 1)
        case measure => omega
        case rel =>
          have hbs := Hbs.out
          have hB0 := HB.out
          refine ⟨k + 1, bs ++ [b], by omega, by go_num, by simp [hbs], Lib.hid ?_, hfr.trans hf3 (fun i hi h => by omega)⟩
          rw [List.range_succ, ← hbs]
          rw [← hbs] at hq3
          exact hq3
      · have hlt' : ¬ (k : Int) < (dl : Int) := by omega
        obtain rfl : k = dl := by omega
        have Hq2 := Lib.hid hqk.out.st
        have Hbs := Lib.hid hbs
        have hlen0 : 0 + (List.range bs.length).length = bs.length := by simp
        clear hB0 hqk hsz Hq hbs
        go_wp2_with fail
        go_loopg [35] st (fun gm i wr => ∃ (j : Nat) (sb : List (Nat × Nat)) (ds : List Nat), j + gm = st ∧ i = .int .i64 j ∧ Hid (QSt B wr g p sb bs ds 0) ∧ Hid (sb.length + ds.length = k ∧ sb.length ≤ j ∧ (sb.length : Int) ≤ p.conns ∧ (sb.length = j ∨ ds = [] ∨ p.conns ≤ (sb.length : Int))) ∧ Fr No w1 wr)
        case atStart => exact ⟨0, [], List.range k, by omega, rfl, Hq2, Lib.hid ⟨by simp, by simp, by have := hpc1.1; simp; omega, .inl rfl⟩, hfr⟩
        case round =>
          obtain ⟨j, sb, ds, hj, rfl, hqj, hI, hfr⟩ := hrel
          by_cases hlt : j < st
          · have hlt' : (j : Int) < (st : Int) := by omega
            by_cases hno : ds = [] ∨ p.conns ≤ (sb.length : Int)
            · have HD := Lib.hid (do_step_none B wr g p sb bs ds 0 0 0 ⟨#[]⟩ hqj.out (by have := hI.out; omega) (by have := hI.out; omega) hno)
              have Hno := Lib.hid hno
              clear hno
              go_wp2_with (go_at_call 12; refine HD.out.mono (Hid.out ?_))
              refine Lib.hid ?_
              rintro e w3 ⟨rfl, hf3⟩
              go_wp2_with fail
              go_roundg (gk - 1)
              case measure => omega
              case rel =>
                have h1 := hI.out
                exact ⟨j + 1, sb, ds, by omega, by go_num, Lib.hid (hqj.out.no hf3), Lib.hid ⟨h1.1, by omega, h1.2.2.1, .inr Hno.out⟩, hfr.trans hf3 (fun _ _ h => h)⟩
            · cases ds with
              | nil => exact absurd (.inl rfl) hno
              | cons d ds =>
              have hno2 : (sb.length : Int) < p.conns := by
                rcases Int.lt_or_le (sb.length : Int) p.conns with h | h
                · exact h
                · exact absurd (.inr h) hno
              have hIl := hI.out
              simp only [List.length_cons] at hIl
              have hsz := hfr.size
              have hB0 := HB.out
              have HD := Lib.hid (do_step_accept B wr g p sb bs d ds 0 ⟨#[]⟩ hqj.out (by omega) (by omega) (by omega) hno2)
              have Hno2 := Lib.hid hno2
              have HIl := Lib.hid hIl
              clear hno hno2 hIl hB0
              go_wp2_with (go_at_call 12; refine HD.out.mono (Hid.out ?_))
              refine Lib.hid ?_
              rintro e w3 ⟨rfl, ⟨b, hq3⟩, hf3⟩
              go_wp2_with fail
              go_roundg (gk - 1)
              case measure => omega
              case rel =>
                have h1 := HIl.out
                have h2 := Hno2.out
                have hB0 := HB.out
                have h3 : sb.length = j := by
                  rcases h1.2.2.2 with h | h | h
                  · exact h
                  · cases h
                  · omega
                exact ⟨j + 1, sb ++ [(b, d)], ds, by omega, by go_num, Lib.hid hq3, Lib.hid ⟨by simp; omega, by simp; omega, by simp; omega, .inl (by simp; omega)⟩, hfr.trans hf3 (fun i hi h => by omega)⟩
          · have hlt' : ¬ (j : Int) < (st : Int) := by omega
            obtain rfl : j = st := by omega
            have d0 := hfr.cell c0 id
            have d4 := hfr.cell c4 id
            obtain ⟨_, ⟨vC, hbs2, hov⟩, _, _, _⟩ := hqj.out
            obtain ⟨A2, k2, rfl, _, _⟩ := own_form hov
            have HL := Lib.hid (live_at wr g A2 sb.length k2 (hbs2.cell 10))
            have hcn : min (max c.conns 1) 8 = p.conns := Hpc.out.symm
            have hIo := hI.out
            have hsb : (sb.length : Int) ≤ k ∧ (sb.length : Int) ≤ j ∧ (sb.length : Int) ≤ p.conns ∧ ((sb.length : Int) = j ∨ (sb.length : Int) = k ∨ p.conns ≤ (sb.length : Int)) := by
              refine ⟨by omega, by omega, by omega, ?_⟩
              rcases hIo.2.2.2 with h | h | h
              · exact .inl (by omega)
              · subst h; simp only [List.length_nil] at hIo; exact .inr (.inl (by omega))
              · exact .inr (.inr h)
            have key : ((k : Int) < j ∧ (k : Int) ≤ p.conns ∧ (sb.length : Int) = k) ∨ ((k : Int) < j ∧ p.conns < (k : Int) ∧ (sb.length : Int) = p.conns) ∨ ((j : Int) ≤ k ∧ (j : Int) ≤ p.conns ∧ (sb.length : Int) = j) ∨ ((j : Int) ≤ k ∧ p.conns < (j : Int) ∧ (sb.length : Int) = p.conns) := by omega
            have Hs1 := Lib.hid (show sb.length < 100 by omega)
            have hbs3 := Lib.hid (show bs.length ≤ 1000 by have := Hbs.out; omega)
            clear hIo hov hbs2 hsb
            rcases key with ⟨ka, kb, hv⟩ | ⟨ka, kb, hv⟩ | ⟨ka, kb, hv⟩ | ⟨ka, kb, hv⟩
            all_goals go_wp2_with fail
            all_goals rw [← hv]
            all_goals clear ka kb hv
            all_goals go_wp2_with (go_at_call 13; refine HL.out.mono (Hid.out ?_))
            all_goals refine Lib.hid ?_
            all_goals first | (rintro e w3 ⟨rfl, rfl⟩) | (rintro e w3 rfl rfl) | skip
            all_goals go_wp2_with fail
            all_goals
              go_loopg [53] tk (fun gm i wr => ∃ t : Nat, t + gm = tk ∧ i = .int .i64 t ∧ Hid (QSt B wr g p (if p.idle ≤ (t : Int) then [] else sb) bs ds t) ∧ Fr No w1 wr)
              case atStart => exact ⟨0, by omega, rfl, by rw [if_neg (by simp only [Int.ofNat_zero]; omega)]; exact hqj, hfr⟩
              case round =>
                obtain ⟨t, ht, rfl, hqt, hfr⟩ := hrel
                by_cases hlt : t < tk
                · have hlt' : (t : Int) < (tk : Int) := by omega
                  have hsl : (if p.idle ≤ (t : Int) then [] else sb).length ≤ 1000 := by
                    have := Hs1.out
                    split <;> simp <;> omega
                  obtain ⟨sx, hsx⟩ : ∃ sx, (if p.idle ≤ (t : Int) then [] else sb) = sx := ⟨_, rfl⟩
                  rw [hsx] at hqt hsl
                  have Hsx := Lib.hid hsx
                  clear hsx
                  have hsz := hfr.size
                  have hB0 := HB.out
                  have HD := Lib.hid (do_tick_quiet B wr g p _ bs ds t 0 0 ⟨#[]⟩ hqt.out (by omega) hsl (by omega) (by omega))
                  clear hsl hB0
                  go_wp2_with (go_at_call 12; refine HD.out.mono (Hid.out ?_))
                  refine Lib.hid ?_
                  rintro e w3 ⟨rfl, hq3, hf3⟩
                  go_wp2_with fail
                  go_roundg (gk - 1)
                  case measure => omega
                  case rel =>
                    have hB0 := HB.out
                    refine ⟨t + 1, by omega, by go_num, Lib.hid ?_, hfr.trans hf3 (fun i hi h => by omega)⟩
                    rw [left_self] at hq3
                    have hsx := Hsx.out
                    have e9 : (if p.idle ≤ ((t + 1 : Nat) : Int) then [] else sb) = (if p.idle ≤ (t : Int) + 1 then [] else sx) := by
                      have : ((t + 1 : Nat) : Int) = (t : Int) + 1 := by omega
                      rw [this]
                      by_cases h1 : p.idle ≤ (t : Int) + 1
                      · rw [if_pos h1, if_pos h1]
                      · rw [if_neg h1, if_neg h1, ← hsx, if_neg (by omega)]
                    rw [e9]
                    exact hq3
                · have hlt' : ¬ (t : Int) < (tk : Int) := by omega
                  obtain rfl : t = tk := by omega
                  have d4 := hfr.cell c4 id
                  have hmx : bringI c.idle 1073741824 = p.idle := Hpi.out.symm
                  unfold bringI at hmx
                  have hs1 := Hs1.out
                  have hb3 := hbs3.out
                  by_cases hid : p.idle ≤ (t : Int)
                  · have hq := hqt.out
                    rw [if_pos hid] at hq
                    have hmx2 : max c.idle 1 ≤ (t : Int) := by omega
                    clear hmx hid
                    have HT := Lib.hid (tell_quiet B wr g p _ bs ds t hq (by omega) (by simp) (by omega))
                    have HI1 := Lib.hid (fun W => digits_any W t (by omega))
                    have HI2 : Hid (∀ W, Calls Tryz.prog 20 #[.int .i64 0] W fun e w' => e = .returned (.string ⟨(Lib.decDigits 0).toArray⟩) ∧ Fr No W w') := Lib.hid (fun W => digits_any W 0 (by omega))
                    have htell : ∀ s1 s2 s3 s4 : Str, [114, 117, 110, 110, 105, 110, 103, 32] ++ Lib.decDigits t = s1 → s1 ++ [32] = s2 → s2 ++ Lib.decDigits 0 = s3 → s3 ++ [32, 48, 32, 49, 10] = s4 → tellStr t 0 = s4 := by
                      rintro s1 s2 s3 s4 rfl rfl rfl rfl
                      simp [tellStr]
                    have d1 := dec_len (n := t) (by omega)
                    have d2 := dec_len (n := 0) (by omega)
                    generalize Lib.decDigits t = D1 at HI1 d1 htell
                    generalize Lib.decDigits 0 = D2 at HI2 d2 htell
                    obtain ⟨s1, x1⟩ : ∃ s : Str, [114, 117, 110, 110, 105, 110, 103, 32] ++ D1 = s := ⟨_, rfl⟩
                    obtain ⟨s2, x2⟩ : ∃ s : Str, s1 ++ [32] = s := ⟨_, rfl⟩
                    obtain ⟨s3, x3⟩ : ∃ s : Str, s2 ++ D2 = s := ⟨_, rfl⟩
                    obtain ⟨s4, x4⟩ : ∃ s : Str, s3 ++ [32, 48, 32, 49, 10] = s := ⟨_, rfl⟩
                    have l1 : s1.length = 8 + D1.length := by rw [← x1]; simp; omega
                    have l2 : s2.length = s1.length + 1 := by rw [← x2]; simp
                    have l3 : s3.length = s2.length + D2.length := by rw [← x3]; simp
                    have ht := htell s1 s2 s3 s4 x1 x2 x3 x4
                    try simp only [List.length_nil] at HT
                    rw [ht] at HT
                    have y1 := cat_is (P := Tryz.prog) _ _ _ x1 (by simp; omega)
                    have y2 := cat_is (P := Tryz.prog) _ _ _ x2 (by simp; omega)
                    have y3 := cat_is (P := Tryz.prog) _ _ _ x3 (by omega)
                    have y4 := cat_is (P := Tryz.prog) _ _ _ x4 (by simp; omega)
                    clear htell ht x1 x2 x3 x4 l1 l2 l3 d1 d2 hq
                    go_wp2_with (go_at_call 19; refine HT.out.mono (Hid.out ?_))
                    refine Lib.hid ?_
                    try simp only [and_imp, forall_exists_index]
                    first | (rintro e w8 rfl hf8) | (rintro w8 hf8)
                    go_wp2_with (go_at_call 20; refine (HI1.out _).mono (Hid.out ?_))
                    refine Lib.hid ?_
                    try simp only [and_imp, forall_exists_index]
                    first | (rintro e w9 rfl hf9) | (rintro w9 hf9)
                    go_wp2_with (go_at_call 20; refine (HI2.out _).mono (Hid.out ?_))
                    refine Lib.hid ?_
                    try simp only [and_imp, forall_exists_index]
                    first | (rintro e w10 rfl hf10) | (rintro w10 hf10)
                    go_wp2_with fail
                    go_ret
                    exact ⟨rfl, (((hf01.trans hfr (fun _ _ h => h)).trans hf8 (fun _ _ h => h)).trans hf9 (fun _ _ h => h)).trans hf10 (fun _ _ h => h)⟩
                  · have hq := hqt.out
                    rw [if_neg hid] at hq
                    have hmx2 : ¬ max c.idle 1 ≤ (t : Int) := by omega
                    clear hmx hid
                    have HT := Lib.hid (tell_quiet B wr g p _ bs ds t hq (by omega) (by omega) (by omega))
                    have HI1 := Lib.hid (fun W => digits_any W t (by omega))
                    have HI2 : Hid (∀ W, Calls Tryz.prog 20 #[.int .i64 sb.length] W fun e w' => e = .returned (.string ⟨(Lib.decDigits sb.length).toArray⟩) ∧ Fr No W w') := Lib.hid (fun W => digits_any W sb.length (by omega))
                    have htell : ∀ s1 s2 s3 s4 : Str, [114, 117, 110, 110, 105, 110, 103, 32] ++ Lib.decDigits t = s1 → s1 ++ [32] = s2 → s2 ++ Lib.decDigits sb.length = s3 → s3 ++ [32, 48, 32, 49, 10] = s4 → tellStr t sb.length = s4 := by
                      rintro s1 s2 s3 s4 rfl rfl rfl rfl
                      simp [tellStr]
                    have d1 := dec_len (n := t) (by omega)
                    have d2 := dec_len (n := sb.length) (by omega)
                    generalize Lib.decDigits t = D1 at HI1 d1 htell
                    generalize Lib.decDigits sb.length = D2 at HI2 d2 htell
                    obtain ⟨s1, x1⟩ : ∃ s : Str, [114, 117, 110, 110, 105, 110, 103, 32] ++ D1 = s := ⟨_, rfl⟩
                    obtain ⟨s2, x2⟩ : ∃ s : Str, s1 ++ [32] = s := ⟨_, rfl⟩
                    obtain ⟨s3, x3⟩ : ∃ s : Str, s2 ++ D2 = s := ⟨_, rfl⟩
                    obtain ⟨s4, x4⟩ : ∃ s : Str, s3 ++ [32, 48, 32, 49, 10] = s := ⟨_, rfl⟩
                    have l1 : s1.length = 8 + D1.length := by rw [← x1]; simp; omega
                    have l2 : s2.length = s1.length + 1 := by rw [← x2]; simp
                    have l3 : s3.length = s2.length + D2.length := by rw [← x3]; simp
                    have ht := htell s1 s2 s3 s4 x1 x2 x3 x4
                    try simp only [List.length_nil] at HT
                    rw [ht] at HT
                    have y1 := cat_is (P := Tryz.prog) _ _ _ x1 (by simp; omega)
                    have y2 := cat_is (P := Tryz.prog) _ _ _ x2 (by simp; omega)
                    have y3 := cat_is (P := Tryz.prog) _ _ _ x3 (by omega)
                    have y4 := cat_is (P := Tryz.prog) _ _ _ x4 (by simp; omega)
                    clear htell ht x1 x2 x3 x4 l1 l2 l3 d1 d2 hq
                    go_wp2_with (go_at_call 19; refine HT.out.mono (Hid.out ?_))
                    refine Lib.hid ?_
                    try simp only [and_imp, forall_exists_index]
                    first | (rintro e w8 rfl hf8) | (rintro w8 hf8)
                    go_wp2_with (go_at_call 20; refine (HI1.out _).mono (Hid.out ?_))
                    refine Lib.hid ?_
                    try simp only [and_imp, forall_exists_index]
                    first | (rintro e w9 rfl hf9) | (rintro w9 hf9)
                    go_wp2_with (go_at_call 20; refine (HI2.out _).mono (Hid.out ?_))
                    refine Lib.hid ?_
                    try simp only [and_imp, forall_exists_index]
                    first | (rintro e w10 rfl hf10) | (rintro w10 hf10)
                    go_wp2_with fail
                    go_ret
                    exact ⟨rfl, (((hf01.trans hfr (fun _ _ h => h)).trans hf8 (fun _ _ h => h)).trans hf9 (fun _ _ h => h)).trans hf10 (fun _ _ h => h)⟩
end Go.Proofs.YthcbjeeajoliiaaGreatDoor
