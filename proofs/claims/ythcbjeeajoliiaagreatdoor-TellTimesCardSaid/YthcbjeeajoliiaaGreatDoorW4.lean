/- path.Pattern. -/
import Derived.Test.YthcbjeeajoliiaaGreatDoorW3
import Derived.Test.YthcbjeeajoliiaaGreatDoorT1
import Derived.StringKeys
set_option linter.unusedVariables false
set_option linter.unusedSimpArgs false
namespace Go.Proofs.YthcbjeeajoliiaaGreatDoor
open Go.RowKit
open Cr (Str words)

theorem strKeyed : Go.Maps.Keyed Tryz.prog 9 := Go.Maps.string_keyed Tryz.underlying9
theorem str_key (s : Str) (h : s.length ≤ 1000000) : keyOf Tryz.prog 9 (strV s) = some (.string s) := by
  have := Go.WideMaps.keyOf_string_mk (P := Tryz.prog) Tryz.underlying9 (s := ⟨s.toArray⟩) (by rw [str_size]; unfold maxLen; omega)
  simpa [strV] using this

theorem kind_three (x : Str) : Cr.kindOf x = 0 ∨ Cr.kindOf x = 1 ∨ Cr.kindOf x = 2 := by
  unfold Cr.kindOf
  split
  · split
    · simp
    · split <;> simp
  · simp
theorem kind_pos {x : Str} (h : Cr.kindOf x ≠ 0) : 1 ≤ x.length := by
  cases x with
  | nil => exact absurd rfl h
  | cons a b => simp
theorem mem_strsV {x : Str} {l : List Str} : strV x ∈ strsV l ↔ x ∈ l := by
  unfold strsV
  rw [List.mem_map]
  constructor
  · rintro ⟨y, hy, he⟩
    unfold strV at he
    injection he with he
    injection he with he
    have : y = x := by
      have := congrArg Array.toList he
      simpa using this
    exact this ▸ hy
  · exact fun h => ⟨x, h, rfl⟩

set_option maxRecDepth 100000 in
theorem pattern_any (w : World) (s : Str) (hs : s.length ≤ 1000000) :
    Calls Tryz.prog 95 #[.string ⟨s.toArray⟩] w fun e w' => ∃ v, e = .returned (.tuple #[v, .bool (Cr.pattern s).2]) ∧ w'.ownsRow w.heap.size 9 1 v (Cr.pattern s).1.length (strsV (Cr.pattern s).1) ∧ Fr No w w' := by
  have hmm := @run_makeMap Tryz.prog
  cases s with
  | nil =>
    go_enter Tryz.func95, Tryz.ntmps95
    go_wp2_with fail
    go_ret2
    exact ⟨_, rfl, ⟨rfl, .inl ⟨rfl, rfl⟩⟩, Fr.refl _ _⟩
  | cons c r =>
    have hz : ∀ h, (ByteArray.mk (c :: r).toArray)[0]'h = c := fun _ => rfl
    by_cases hc : c = 47
    · subst hc
      by_cases hr : r = []
      · subst hr
        go_enter Tryz.func95, Tryz.ntmps95
        go_wp2_with fail
        go_ret2
        exact ⟨_, rfl, ⟨rfl, .inl ⟨rfl, rfl⟩⟩, Fr.refl _ _⟩
      · have hcut : ∀ w, (Instr.slice 9 (.string ⟨(47 :: r).toArray⟩) (some (.int .i64 1)) none none).run Tryz.prog w = .ok (.string ⟨r.toArray⟩) w := run_str_from (P := Tryz.prog) 9 Tryz.underlying9 (47 :: r) 1 (by simp)
        have hre : r.isEmpty = false := by simpa using hr
        have hrl : r.length ≤ 1000000 := by simp at hs; omega
        have hL := words_length r 47
        have hLp := words_pos r 47
        have hLs := words_small r 47
        have HW := Lib.hid (fun W => words_lit W r 47 47 rfl hrl)
        have HP0 : Cr.patternGo ((words r 47).length - 1) 0 [] (words r 47) = false → Cr.pattern (47 :: r) = ([], false) := by
          intro h; simp [Cr.pattern, hr, h]
        have HP1 : Cr.patternGo ((words r 47).length - 1) 0 [] (words r 47) = true → Cr.pattern (47 :: r) = (words r 47, decide ((words r 47).length ≤ 8)) := by
          intro h; simp [Cr.pattern, hr, h]
        generalize words r 47 = L at HW HP0 HP1 hL hLp hLs
        have HP0' := Lib.hid HP0
        have HP1' := Lib.hid HP1
        have HLs := Lib.hid hLs
        clear HP0 HP1 hLs
        have hLn : (L.length : Int) ≤ 1000001 := by omega
        go_enter Tryz.func95, Tryz.ntmps95
        go_wp2_with (go_at_call 65; refine (HW.out _).mono ?_)
        rintro e w1 ⟨v, rfl, hown, hf1⟩
        obtain ⟨g, cp, rfl, hcp, hgb, hgl⟩ := hown.ofPos hLp
        go_wp2_with fail
        obtain ⟨bm, hbm⟩ : ∃ bm, w1.heap.size = bm := ⟨_, rfl⟩
        have hset0 := SetAt.made w1
        have hf2 : Fr No w (w1.alloc (.map #[] 0)) := hf1.alloc _
        have hown0 := hown.alloc (.map #[] 0)
        have hsz1 := hf1.size
        rw [hbm] at hset0 ⊢
        have hgbm : g ≠ bm := by omega
        have hwb : w.heap.size ≤ bm := by omega
        have Hbm := Lib.hid hbm
        clear hbm
        go_loopg [23] L.length (fun gm i wr => ∃ (k : Nat) (nm : List Str), k + gm = L.length ∧ i = .int .i64 k ∧ wr.ownsRow w.heap.size 9 1 (.slice (some ⟨g, 0, none⟩) L.length cp) L.length (strsV L) ∧ Fr No w wr ∧ SetAt wr bm (strsV nm.reverse) ∧
          Hid ((∀ x ∈ nm, x.length ≤ 1000000) ∧ Cr.patternGo (L.length - 1) 0 [] L = Cr.patternGo (L.length - 1) k nm (L.drop k)))
        case atStart => exact ⟨0, [], by omega, rfl, hown0, hf2, hset0, ⟨by simp, rfl⟩⟩
        case round =>
          obtain ⟨k, nm, hk, rfl, hownr, hfr, hset, HI⟩ := hrel
          by_cases hlt : k < L.length
          · have hlt' : (k : Int) < (L.length : Int) := by omega
            obtain ⟨x, hx⟩ : ∃ x, L[k]? = some x := ⟨L[k], by simp [hlt]⟩
            have hq := hownr.at_ (strsV_get hx)
            have hxl : x.length ≤ 1000000 := by have := HLs.out x (List.mem_of_getElem? hx); omega
            have hxl' : (x.length : Int) ≤ 1000000 := by omega
            have hdrop : L.drop k = x :: L.drop (k + 1) := by
              obtain ⟨h1, h2⟩ := List.getElem?_eq_some_iff.1 hx
              rw [List.drop_eq_getElem_cons h1, h2]
            have HD := Lib.hid hdrop
            clear hdrop hx
            go_wp2_with (go_at_call 116; refine (kind_any _ x hxl).mono ?_)
            rintro e w2 ⟨rfl, hf3⟩
            have hfr2 := hfr.trans hf3 (fun _ _ h => h)
            have hown2 := hownr.fr hf3 (fun _ _ h => h)
            have hset2 := hset.fr hf3 id
            clear hf3 hfr hownr hset hq
            rcases kind_three x with hkd | hkd | hkd
            · rw [hkd]
              have Hkd := Lib.hid hkd
              clear hkd
              go_wp2_with (go_at_call 114; refine (token_any _ x hxl).mono ?_)
              rintro e w3 ⟨rfl, hf4⟩
              by_cases ht : Cr.token x = true
              · rw [ht]
                have Ht := Lib.hid ht
                clear ht
                go_wp2_with (go_at_call 65; refine (words_lit _ x 37 37 rfl hxl).mono ?_)
                rintro e w4 ⟨v4, rfl, hown4, hf5⟩
                obtain ⟨g4, c4, rfl, hc4, hg4, hgl4⟩ := hown4.ofPos (words_pos x 37)
                obtain ⟨h0, rest, hwd⟩ : ∃ h0 rest, words x 37 = h0 :: rest := by
                  have := words_pos x 37
                  cases hw : words x 37 with
                  | nil => rw [hw] at this; simp at this
                  | cons a b => exact ⟨a, b, rfl⟩
                have q4 : w4.cell? ⟨g4, 0, none⟩ = some (.string ⟨h0.toArray⟩) := hown4.at_ (by rw [hwd]; rfl)
                have hl4 : (1 : Int) ≤ ((words x 37).length : Int) := by have := words_pos x 37; omega
                have Hwd := Lib.hid hwd
                clear hwd
                have hfr4 := (hfr2.trans hf4 (fun _ _ h => h)).trans hf5 (fun _ _ h => h)
                by_cases heq : h0 = x
                · have hbe : (h0 == x) = true := by simpa using heq
                  have Heq := Lib.hid heq
                  clear heq
                  go_wp2_with fail
                  go_roundg (gk - 1)
                  case measure => omega
                  case rel =>
                    refine ⟨k + 1, nm, by omega, by go_num, (hown2.fr hf4 (fun _ _ h => h)).fr hf5 (fun _ _ h => h), hfr4, (hset2.fr hf4 id).fr hf5 id, HI.out.1, ?_⟩
                    rw [HI.out.2, HD.out]
                    simp only [Cr.patternGo]
                    rw [if_pos Hkd.out, if_pos]
                    rw [Ht.out, Hwd.out, List.headD_cons, hbe]
                    rfl
                · have hbe : (h0 == x) = false := by simpa using heq
                  go_wp2_with fail
                  go_ret2
                  have hfalse : Cr.pattern (47 :: r) = ([], false) := by
                    apply HP0'.out
                    rw [HI.out.2, HD.out]
                    simp only [Cr.patternGo]
                    rw [if_pos Hkd.out, if_neg]
                    rw [Hwd.out, List.headD_cons, hbe, Bool.and_false]
                    simp
                  rw [hfalse]
                  exact ⟨_, rfl, ⟨rfl, .inl ⟨rfl, rfl⟩⟩, hfr4⟩
              · have ht' : Cr.token x = false := by simpa using ht
                rw [ht']
                have Ht := Lib.hid ht'
                clear ht ht'
                go_wp2_with fail
                go_ret2
                have hfalse : Cr.pattern (47 :: r) = ([], false) := by
                  apply HP0'.out
                  rw [HI.out.2, HD.out]
                  simp only [Cr.patternGo]
                  rw [if_pos Hkd.out, if_neg]
                  rw [Ht.out]
                  simp
                rw [hfalse]
                exact ⟨_, rfl, ⟨rfl, .inl ⟨rfl, rfl⟩⟩, hfr2.trans hf4 (fun _ _ h => h)⟩
            all_goals
              have hx1 := kind_pos (x := x) (by omega)
              have hcut1 : ∀ w, (Instr.slice 9 (.string ⟨x.toArray⟩) (some (.int .i64 1)) none none).run Tryz.prog w = .ok (.string ⟨(x.tail).toArray⟩) w := fun w => by have := run_str_from (P := Tryz.prog) 9 Tryz.underlying9 x 1 hx1 w; rwa [List.drop_one] at this
              have hdl : (x.tail).length ≤ 1000000 := by simp; omega
              have HT := Lib.hid (fun W => token_any W (x.tail) hdl)
              have hkey := str_key (x.tail) hdl
              have hks : ∀ y ∈ strsV nm.reverse, ∃ l, keyOf Tryz.prog 9 y = some l := by
                intro y hy
                obtain ⟨z, hz, rfl⟩ := List.mem_map.1 hy
                exact ⟨_, str_key z (HI.out.1 z (by simpa using hz))⟩
              rw [hkd]
            · go_wp2_with (go_at_call 114; refine (HT.out _).mono ?_)
              rintro e w3 ⟨rfl, hf4⟩
              have hset3 := hset2.fr hf4 id
              have hfr3 := hfr2.trans hf4 (fun _ _ h => h)
              have hown3 := hown2.fr hf4 (fun _ _ h => h)
              have Hkd := Lib.hid hkd
              clear hkd hf4 hset2 hfr2 hown2
              by_cases ht : Cr.token (x.tail) = true
              · rw [ht]
                have Ht := Lib.hid ht
                clear ht
                obtain ⟨rb, hlook, hmem⟩ := hset3.look (t := 204) strKeyed Tryz.underlying204 (fun w => by kernel_rfl) hks hkey
                have hlook3 : (Instr.lookup 204 (.map (some bm)) (.string ⟨(x.tail).toArray⟩) false).run Tryz.prog w3 = .ok (.bool rb) w3 := hlook w3 rfl
                rw [mem_strsV] at hmem
                have hcont : nm.contains (x.tail) = rb := by
                  rw [Bool.eq_iff_iff, hmem]
                  simp
                clear hlook
                cases rb with
                | true =>
                  have Hcont := Lib.hid hcont
                  clear hcont hmem
                  go_wp2_with fail
                  go_ret2
                  have hfalse : Cr.pattern (47 :: r) = ([], false) := by
                    apply HP0'.out
                    rw [HI.out.2, HD.out]
                    simp only [Cr.patternGo, List.drop_one]
                    rw [if_neg (by rw [Hkd.out]; decide), if_neg (by rw [Hkd.out]; omega), if_neg]
                    rw [Hcont.out]
                    simp
                  rw [hfalse]
                  exact ⟨_, rfl, ⟨rfl, .inl ⟨rfl, rfl⟩⟩, hfr3⟩
                | false =>
                  have hnot : strV (x.tail) ∉ strsV nm.reverse := by
                    rw [mem_strsV, ← hmem]
                    simp
                  have Hcont := Lib.hid hcont
                  clear hcont hmem
                  go_wp2_with (at_mapUpdate; refine wpList_set_put rfl _ _ _ _ rfl 9 4 strKeyed Tryz.underlying204 bm (strsV nm.reverse) rfl hset3 hks (strV (x.tail)) _ rfl rfl hkey hnot ?_)
                  intro w4 hset4 hf5
                  have hown4 := hown3.fr hf5 (fun i hi h => by
                    simp [Value.ownBlock] at hi
                    omega)
                  have hfr4 := hfr3.trans hf5 (fun i hi h => by have := hwb; omega)
                  clear hf5 hset3 hown3 hfr3
                  go_wp2_with fail
                  go_roundg (gk - 1)
                  case measure => omega
                  case rel =>
                    refine ⟨k + 1, x.tail :: nm, by omega, by go_num, hown4, hfr4, ?_, ?_, ?_⟩
                    · rw [List.reverse_cons, strsV_append]
                      exact hset4
                    · intro y hy
                      rcases List.mem_cons.1 hy with rfl | hy
                      · exact hdl
                      · exact HI.out.1 y hy
                    · rw [HI.out.2, HD.out]
                      simp only [Cr.patternGo, List.drop_one]
                      rw [if_neg (by rw [Hkd.out]; decide), if_neg (by rw [Hkd.out]; omega), if_pos]
                      rw [Ht.out, Hcont.out]
                      rfl
              · have ht' : Cr.token (x.tail) = false := by simpa using ht
                rw [ht']
                have Ht := Lib.hid ht'
                clear ht ht'
                go_wp2_with fail
                go_ret2
                have hfalse : Cr.pattern (47 :: r) = ([], false) := by
                  apply HP0'.out
                  rw [HI.out.2, HD.out]
                  simp only [Cr.patternGo, List.drop_one]
                  rw [if_neg (by rw [Hkd.out]; decide), if_neg (by rw [Hkd.out]; omega), if_neg]
                  rw [Ht.out]
                  simp
                rw [hfalse]
                exact ⟨_, rfl, ⟨rfl, .inl ⟨rfl, rfl⟩⟩, hfr3⟩
            · by_cases hkl : k = L.length - 1
              · have hke : ((k : Int) == (L.length : Int) - 1) = true := by rw [beq_iff_eq]; omega
                have Hkl := Lib.hid hkl
                clear hkl
                go_wp2_with (go_at_call 114; refine (HT.out _).mono ?_)
                rintro e w3 ⟨rfl, hf4⟩
                have hset3 := hset2.fr hf4 id
                have hfr3 := hfr2.trans hf4 (fun _ _ h => h)
                have hown3 := hown2.fr hf4 (fun _ _ h => h)
                have Hkd := Lib.hid hkd
                clear hkd hf4 hset2 hfr2 hown2
                by_cases ht : Cr.token (x.tail) = true
                · rw [ht]
                  have Ht := Lib.hid ht
                  clear ht
                  obtain ⟨rb, hlook, hmem⟩ := hset3.look (t := 204) strKeyed Tryz.underlying204 (fun w => by kernel_rfl) hks hkey
                  have hlook3 : (Instr.lookup 204 (.map (some bm)) (.string ⟨(x.tail).toArray⟩) false).run Tryz.prog w3 = .ok (.bool rb) w3 := hlook w3 rfl
                  rw [mem_strsV] at hmem
                  have hcont : nm.contains (x.tail) = rb := by
                    rw [Bool.eq_iff_iff, hmem]
                    simp
                  clear hlook
                  cases rb with
                  | true =>
                    have Hcont := Lib.hid hcont
                    clear hcont hmem
                    go_wp2_with fail
                    go_ret2
                    have hfalse : Cr.pattern (47 :: r) = ([], false) := by
                      apply HP0'.out
                      rw [HI.out.2, HD.out]
                      simp only [Cr.patternGo, List.drop_one]
                      rw [if_neg (by rw [Hkd.out]; decide), if_neg (by have := Hkl.out; omega), if_neg]
                      rw [Hcont.out]
                      simp
                    rw [hfalse]
                    exact ⟨_, rfl, ⟨rfl, .inl ⟨rfl, rfl⟩⟩, hfr3⟩
                  | false =>
                    have hnot : strV (x.tail) ∉ strsV nm.reverse := by
                      rw [mem_strsV, ← hmem]
                      simp
                    have Hcont := Lib.hid hcont
                    clear hcont hmem
                    go_wp2_with (at_mapUpdate; refine wpList_set_put rfl _ _ _ _ rfl 9 4 strKeyed Tryz.underlying204 bm (strsV nm.reverse) rfl hset3 hks (strV (x.tail)) _ rfl rfl hkey hnot ?_)
                    intro w4 hset4 hf5
                    have hown4 := hown3.fr hf5 (fun i hi h => by
                      simp [Value.ownBlock] at hi
                      omega)
                    have hfr4 := hfr3.trans hf5 (fun i hi h => by have := hwb; omega)
                    clear hf5 hset3 hown3 hfr3
                    go_wp2_with fail
                    go_roundg (gk - 1)
                    case measure => omega
                    case rel =>
                      refine ⟨k + 1, x.tail :: nm, by omega, by go_num, hown4, hfr4, ?_, ?_, ?_⟩
                      · rw [List.reverse_cons, strsV_append]
                        exact hset4
                      · intro y hy
                        rcases List.mem_cons.1 hy with rfl | hy
                        · exact hdl
                        · exact HI.out.1 y hy
                      · rw [HI.out.2, HD.out]
                        simp only [Cr.patternGo, List.drop_one]
                        rw [if_neg (by rw [Hkd.out]; decide), if_neg (by have := Hkl.out; omega), if_pos]
                        rw [Ht.out, Hcont.out]
                        rfl
                · have ht' : Cr.token (x.tail) = false := by simpa using ht
                  rw [ht']
                  have Ht := Lib.hid ht'
                  clear ht ht'
                  go_wp2_with fail
                  go_ret2
                  have hfalse : Cr.pattern (47 :: r) = ([], false) := by
                    apply HP0'.out
                    rw [HI.out.2, HD.out]
                    simp only [Cr.patternGo, List.drop_one]
                    rw [if_neg (by rw [Hkd.out]; decide), if_neg (by have := Hkl.out; omega), if_neg]
                    rw [Ht.out]
                    simp
                  rw [hfalse]
                  exact ⟨_, rfl, ⟨rfl, .inl ⟨rfl, rfl⟩⟩, hfr3⟩
              · have hke : ((k : Int) == (L.length : Int) - 1) = false := by rw [beq_eq_false_iff_ne]; omega
                have Hkd := Lib.hid hkd
                clear hkd
                go_wp2_with fail
                go_ret2
                have hfalse : Cr.pattern (47 :: r) = ([], false) := by
                  apply HP0'.out
                  rw [HI.out.2, HD.out]
                  simp only [Cr.patternGo, List.drop_one]
                  rw [if_neg (by rw [Hkd.out]; decide), if_pos ⟨Hkd.out, hkl⟩]
                rw [hfalse]
                exact ⟨_, rfl, ⟨rfl, .inl ⟨rfl, rfl⟩⟩, hfr2⟩
          · have hlt' : ¬ (k : Int) < (L.length : Int) := by omega
            have htrue : Cr.pattern (47 :: r) = (L, decide (L.length ≤ 8)) := by
              apply HP1'.out
              rw [HI.out.2, List.drop_of_length_le (by omega)]
              rfl
            have e8 : decide ((L.length : Int) ≤ 8) = decide (L.length ≤ 8) := decide_eq_decide.2 (by omega)
            have Htrue := Lib.hid htrue
            clear htrue
            go_wp2_with fail
            go_ret2
            rw [Htrue.out]
            exact ⟨_, rfl, hownr, hfr⟩
    · have h1 : ((c.toNat : Int) == 47) = (c == UInt8.ofNat 47) := toNat_beq c 47 (by omega)
      have e1 : (c == UInt8.ofNat 47) = false := by simpa using hc
      rw [e1] at h1
      have hp : Cr.pattern (c :: r) = ([], false) := by simp [Cr.pattern, hc]
      rw [hp]
      go_enter Tryz.func95, Tryz.ntmps95
      go_wp2_with fail
      go_ret2
      exact ⟨_, rfl, ⟨rfl, .inl ⟨rfl, rfl⟩⟩, Fr.refl _ _⟩
end Go.Proofs.YthcbjeeajoliiaaGreatDoor
